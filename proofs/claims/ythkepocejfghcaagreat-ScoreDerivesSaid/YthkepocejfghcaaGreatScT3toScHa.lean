/-
  Several texts, one behind the other.
-/
import Derived.Test.YthkepocejfghcaaGreatScC1toScShelf
import Derived.Test.YthkepocejfghcaaGreatAmSortUtoAmRow
import Derived.Test.YthkepocejfghcaaGreatAmFntoAmTabK
import Derived.Test.YthkepocejfghcaaGreatScCfgtoScAct
set_option linter.unusedSimpArgs false
set_option linter.unusedVariables false
namespace Go.Am.Sc
section
open Go.Proofs
set_option maxRecDepth 100000
set_option maxHeartbeats 4000000

attribute [local irreducible] gR fV dQ

variable {bs:List D} {p:aL} {c:aS} {l:List aS}

def outs (p:aL)(l:List aS):List Int:=l.map (kX p)

def LL (p:aL)(l:List aS)(s:D):List D:=[.bq (p.items.map Item.d),I p.dW,I p.late,I p.early,I p.jW,I p.jX,Is p.jumps,B p.ret,I p.mG,I p.ez,I p.jV,I p.power,Is p.points,Is p.extra,dM l,s]
def iW (p:aL)(l:List aS):D:=.ptr (LL p l (Is (outs p l)))

theorem yI {k:Nat}(h:k<l.length):D.aj 1 (Is (outs p l)) (In k)=some (.ptr [I (kX p (cd l k))]):=by
 have:=b_ (enc:=I) (sz:=1) (xs:=outs p l) (i:=k) (by simpa[outs] using h) rfl
 have e:(outs p l)[k]'(by simpa[outs] using h)=kX p (cd l k):=by simp[outs,cd,List.getD,h]
 rw[e] at this
 exact this

theorem c55 {k:Nat}(h:k<l.length)(i:Int):aP Tryz.prog 55 (.st bs) [iW p l,In k,I i] (B (gA p (cd l k) i)):=by
 refine aks.R rfl rfl ?_
 unfold u55
 simp only[aC,aG,List.cons_append,List.nil_append]
 repeat' (first|(apply bp;simp only[ai];rfl)|(apply aN;rfl)|(apply aA;rfl;rfl;exact yI h;simp only[ai];rfl)|(apply aD;rfl;simp only[ai];rfl)|(apply bL;rfl)|exact aq rfl rfl|(intro hz;(try simp only[bA] at hz)))

theorem c54 {i:Nat}(hi:i<p.n):aP Tryz.prog 54 (.st bs) [iW p l,In i] (B ((p.it i).kind==2)):=by
 refine akt.R rfl rfl ?_
 unfold u54
 simp only[aC,aG,List.cons_append,List.nil_append]
 repeat' (first|(apply aN;rfl)|(apply aA;rfl;rfl;exact dR hi;simp only[ai];rfl)|(apply aD;rfl;simp only[ai];rfl)|exact aq rfl rfl)

theorem c66 {k i:Nat}(hk:k<l.length)(hi:i<(cd l k).lines.length):aP Tryz.prog 66 (.st bs) [iW p l,In k,In i] (I (oC l i k)):=by
 refine akj.R rfl rfl ?_
 unfold u66
 simp only[aC,aG,List.cons_append,List.nil_append]
 repeat' (first|(apply aN;rfl)|(apply aA;rfl;rfl;(·first|exact cw hk|exact cQ hi);simp only[ai];rfl)|(apply aD;rfl;simp only[ai];rfl)|exact aq rfl rfl)


theorem am3 {P:aS→Bool}{f:Nat}{us cs:List D}{l:List aS}(hL:l.length≤maxLen)(hc:bJ Tryz.prog f=true)(hf:∀x,x∈l→aP Tryz.prog f (.st bs) (us++[aS.d x]++cs) (B (P x))):aP Tryz.prog 127 (.st bs) [.bq (l.map aS.d),.fn f us cs] (I (fi P l)):=by
 have hL':l.length≤9223372036854775807:=hL
 refine aeP.R rfl rfl ?_
 unfold ac_
 simp only[aC,aG,List.cons_append,List.nil_append]
 repeat' (first|(apply ar;rfl;exact ak;simp only[ai];rfl)|refine au ?_)
 refine bf (fun i=>[I i]) (fun i=>∀k (h:k<i) (h2:k<l.length),P l[k]=false) l.length rfl (fun _=>rfl) (fun k h=>absurd h (Nat.not_lt_zero _)) (fun i hi hJ R hR=>?_) (fun hJ R=>?_)
 ·have ku:=hf l[i] (List.getElem_mem hi)
  have gH:decide ((i:Int)<(l.length:Int))=true:=by simp;omega
  cases hP:P l[i]
  ·rw[hP] at ku
   repeat' (first|(apply bp;simp only[ai];rfl)|(apply aH;rfl;exact gH)|(apply aK;rfl;exact rfl)|(apply aA;rfl;rfl;exact b_ hi rfl;simp only[ai];rfl)|(apply bM;rfl;rfl;omega;simp only[ai];rfl)|(apply aD;rfl;simp only[ai];rfl)|(apply fJ;rfl;exact hc;rfl;rfl;exact ku;rfl;simp only[ai];rfl)|refine au ?_|(apply av;rfl;rfl)|refine Qav ?_|refine kj rfl ?_)
   refine hR fun k hk h2=>?_
   rcases Nat.lt_or_ge k i with h3 | h3
   ·exact hJ k h3 h2
   ·have e:k=i:=by omega
    subst e
    exact hP
  ·rw[hP] at ku
   repeat' (first|(apply bp;simp only[ai];rfl)|(apply aH;rfl;(·first|exact gH|exact rfl))|(apply aA;rfl;rfl;exact b_ hi rfl;simp only[ai];rfl)|(apply aD;rfl;simp only[ai];rfl)|(apply fJ;rfl;exact hc;rfl;rfl;exact ku;rfl;simp only[ai];rfl)|refine au ?_|(apply aq;rfl;first|exact rfl|(refine bH ?_)|(refine bF ?_)|(refine bG ?_)))
   exact(VX hi hP fun k hk=>hJ k hk (by omega)).symm
 ·repeat' (first|(apply bp;simp only[ai];rfl)|(apply aD;rfl;simp only[ai];rfl)|(apply av;rfl;rfl)|refine Qav ?_|(refine aB (by decide) ?_)|refine kj rfl ?_|(apply aX;rfl;all_goals (intro hz;(try simp only[bA] at hz);first|(exact absurd hz (by decide))|(exfalso;omega)|skip))|(apply aq;rfl;first|exact rfl|(refine bH ?_)|(refine bF ?_)|(refine bG ?_)))
  refine(VW fun a ha=>?_).symm
  obtain⟨k,hk,rfl⟩:=List.mem_iff_getElem.1 ha
  exact hJ k hk hk

theorem ahs {P:aS→Bool}{f:Nat}{us cs:List D}{l:List aS}(hL:l.length≤maxLen)(hc:bJ Tryz.prog f=true)(hf:∀x,x∈l→aP Tryz.prog f (.st bs) (us++[x.d]++cs) (B (P x))):aP Tryz.prog 101 (.st bs) [dM l,.fn f us cs] (B (l.any P)):=by
 refine ae6.R rfl rfl ?_
 unfold ads
 simp only[aC,aG,List.cons_append,List.nil_append]
 repeat' (first|(apply aD;rfl;simp only[ai];rfl)|(apply aF;rfl;rfl;exact am3 hL hc hf;rfl;simp only[ai];rfl)|(apply aq;rfl;first|exact rfl|(refine bH ?_)|(refine bF ?_)|(refine bG ?_)))
 exact Ox P l

theorem ahr (hp:p.Ok)(hok:p.ok=true)(hc:c.Ok):aP Tryz.prog 102 (.st bs) [c.d,.ptr p.cs] (B (!fe p c)):=by
 have va:=c19 (bs:=bs) hp hc
 rw[hok,Bool.true_and] at va
 refine ae5.R rfl rfl ?_
 unfold adr
 simp only[aC,aG,List.cons_append,List.nil_append]
 repeat' (first|(apply aN;rfl)|(apply aD;rfl;simp only[ai];rfl)|(apply aF;rfl;rfl;exact va;rfl;simp only[ai];rfl)|(apply aq;rfl;first|exact rfl|(refine bH ?_)|(refine bF ?_)|(refine bG ?_)))
 cases fe p c <;> rfl

/-! ## what an event melts to -/

variable {n:Nat}

theorem xm:bD bs (n+3) (.bq (p.items.map Item.d))=some (.bq (p.items.map Item.d)):=by
 rw[bD,jj (enc:=Item.d) fun a _=>by rfl]
 rfl

theorem Ry (c:aS):bD bs (n+4) c.d=some c.d:=by
 have h1:bD bs (n+3) (Is c.dH)=some (Is c.dH):=oJ
 have h2:bD bs (n+3) (.bq (c.lines.map gL.d))=some (.bq (c.lines.map gL.d)):=by
  rw[bD,jj (enc:=gL.d) fun a _=>by rfl]
  rfl
 have h3:bD bs (n+3) (I c.cls)=some (I c.cls):=rfl
 rw[aS.d,bD]
 simp only[aS.cs,dK,h1,h2,h3,Option.bind_some,Option.map_some]

theorem DT:bD bs (n+5) (dM l)=some (dM l):=by
 rw[bD,jj (enc:=aS.d) fun a _=>Ry a]
 rfl

theorem abO {x y:D}{r:List D}:∀{xs:List Int},(gB (x :: r) xs).set 0 y=gB (y :: r) xs
 | []=>rfl
 | _ :: _=>rfl

abbrev Qt (p:aL)(l:List aS)(s:D):D:=.blk 99 16 (LL p l s)

theorem agH {s:D}{xs:List Int}:D.ld false 1 (.st (gB [Qt p l s] xs)) (.loc 0 15)=some s:=gX (e:=99) (sz:=16) (cs:=LL p l s) (by rw[Ey (by simp)];rfl) rfl

theorem abW {s s':D}{xs:List Int}(hs:s'.one=true):D.gQ 1 (.st (gB [Qt p l s] xs)) (.loc 0 15) s'=some (.st (gB [Qt p l s'] xs)):=by
 rw[mr (e:=99) (sz:=16) (cs:=LL p l s) (by rw[Ey (by simp)];rfl) (by simp[LL]) hs,abO]
 rfl

theorem abM {m:Nat}:∀xs:List Int,(gS m xs).one=true
 | []=>rfl
 | _ :: _=>rfl

theorem YJ:bD (gB [Qt p l (gS 1 (outs p l))] (outs p l)) 8 (.bh [.loc 0 0,B true])=some (.bh [iW p l,B true]):=by
 have hs:bD (gB [Qt p l (gS 1 (outs p l))] (outs p l)) 6 (gS 1 (outs p l))=some (Is (outs p l)):=H9 (b0:=[Qt p l (gS 1 (outs p l))]) (n:=4)
 have h0:(gB [Qt p l (gS 1 (outs p l))] (outs p l))[0]? = some (Qt p l (gS 1 (outs p l))):=by rw[Ey (by simp)];rfl
 generalize gB [Qt p l (gS 1 (outs p l))] (outs p l)=st at *
 have hl:bD st 7 (.loc 0 0)=some (iW p l):=by
  have h1:bD st 6 (.bq (p.items.map Item.d))=some (.bq (p.items.map Item.d)):=xm
  have h2:bD st 6 (dM l)=some (dM l):=DT
  have h3:∀x:List Int,bD st 6 (Is x)=some (Is x):=fun x=>oJ
  have h4:∀x:Int,bD st 6 (I x)=some (I x):=fun x=>rfl
  have h5:∀x:Bool,bD st 6 (B x)=some (B x):=fun x=>rfl
  rw[bD]
  simp only[h0,List.drop_zero,LL,dK,h1,h2,h3,h4,h5,hs,Option.bind_some,Option.map_some]
  rfl
 have hb:bD st 7 (B true)=some (B true):=rfl
 rw[bD]
 simp only[dK,hl,hb,Option.bind_some,Option.map_some]

theorem O4 (hp:p.Ok)(hl:Qbz l)(h:(p.ok&&br p l)=false):aP Tryz.prog 53 (.st bs) [p.d,dM l] (.bh [.v (.pointer none),B false]):=by
 have wR:=c18 (bs:=[]) hp
 have hW:bk Tryz.prog 53 (.st []) [p.d,dM l] (.bh [.v (.pointer none),B false]) (.st []):=by
  refine aeM.W rfl ?_
  unfold u53
  simp only[aC,aG,List.cons_append,List.nil_append]
  cases hok:p.ok
  ·rw[hok] at wR
   replace wR:aP Tryz.prog 18 (.st []) [p.d] (I 2):=wR
   repeat' (first|(apply bp;simp only[ai];rfl)|(apply iF;rfl;exact rfl)|(apply aH;rfl;exact rfl)|(apply aD;rfl;simp only[ai];rfl)|(apply aF;rfl;rfl;exact wR;rfl;simp only[ai];rfl)|exact aq rfl rfl)
  ·rw[hok,Bool.true_and] at h
   rw[hok] at wR
   replace wR:aP Tryz.prog 18 (.st []) [p.d] (I 0):=wR
   have YA:aP Tryz.prog 101 (.st []) [dM l,.fn 102 [] [.ptr p.cs]] (B (l.any fun c=>!fe p c)):=ahs (us:=[]) (cs:=[.ptr p.cs]) hl.2 (by kernel_rfl) fun x hx=>ahr hp hok (hl.1 x hx)
   repeat' (first|(apply bp;simp only[ai];rfl)|(apply ar;rfl;exact ak;simp only[ai];rfl)|(apply aD;rfl;simp only[ai];rfl)|(apply aF;rfl;rfl;(·first|exact wR|exact YA);rfl;simp only[ai];rfl)|(apply bL;rfl)|refine au ?_|(apply aX;rfl;all_goals (intro hz;(try simp only[bA] at hz);first|(exact absurd hz (by decide))|(exfalso;omega)|skip))|exact aq rfl rfl|(intro hz;(try simp only[bA] at hz)))
   have h1:=Cv (fe p) l
   rw[hz.2] at h1
   have h2:l.length≤200:=by omega
   simp[br,←h1,h2] at h
 exact hW.bD (n:=3) (by simp[eG,rE,tC]) rfl bs

theorem zA (hp:p.Ok)(hl:Qbz l)(hok:p.ok=true)(hc:br p l=true):aP Tryz.prog 53 (.st bs) [p.d,dM l] (.bh [iW p l,B true]):=by
 have hcs:=cr hc
 have wR:=c18 (bs:=[]) hp
 rw[hok] at wR
 replace wR:aP Tryz.prog 18 (.st []) [p.d] (I 0):=wR
 have YA:aP Tryz.prog 101 (.st []) [dM l,.fn 102 [] [.ptr p.cs]] (B (l.any fun c=>!fe p c)):=ahs (us:=[]) (cs:=[.ptr p.cs]) hl.2 (by kernel_rfl) fun x hx=>ahr hp hok (hl.1 x hx)
 have hall:(l.any fun c=>!fe p c)=false:=by
  have h1:=Cv (fe p) l
  simp only[br,Bool.and_eq_true] at hc
  rw[hc.2] at h1
  simpa using h1
 rw[hall] at YA
 have hW:bk Tryz.prog 53 (.st []) [p.d,dM l] (.bh [.loc 0 0,B true]) (.st (gB [Qt p l (gS 1 (outs p l))] (outs p l))):=by
  refine aeM.W rfl ?_
  unfold u53
  simp only[aC,aG,List.cons_append,List.nil_append]
  repeat' (first|(apply bp;simp only[ai];rfl)|(apply ar;rfl;exact ak;simp only[ai];rfl)|(apply aD;rfl;simp only[ai];rfl)|(apply aF;rfl;rfl;(·first|exact wR|exact YA);rfl;simp only[ai];rfl)|(apply bL;rfl)|refine au ?_|(apply aX;rfl;all_goals (intro hz;(try simp only[bA] at hz);first|(exact absurd hz (by decide))|(exfalso;omega)|skip))|exact aq rfl rfl|(intro hz;(try simp only[bA] at hz)))
  ·rcases hz with h | h
   ·exact absurd trivial h
   ·omega
  refine bf (fun k=>[In k,.st (gB [Qt p l (gS 1 ((outs p l).take k))] ((outs p l).take k))]) (fun _=>True) l.length rfl (fun _=>rfl) trivial (fun k hk _ R hR=>?_) (fun _ R=>?_)
  ·have hlk:decide ((k:Int)<(l.length:Int))=true:=by simp;omega
   have hR:=hR trivial
   have GM:k<(outs p l).length:=by simpa[outs] using hk
   have e:(outs p l).take (k+1)=(outs p l).take k++[kX p (cd l k)]:=by
    rw[List.take_add_one,List.getElem?_eq_getElem GM]
    simp[outs,cd,List.getD,hk]
   rw[e] at hR
   have hlen:((outs p l).take k).length≤200:=by rw[List.length_take];omega
   generalize(outs p l).take k=xs at hR hlen ⊢
   have h89:=c89 (bs:=gB [Qt p l (gS 1 xs)] xs) hp hok (hcs.2 k hk)
   have ha1:=I1 (b0:=[Qt p l (gS 1 xs)]) (xs:=xs) (x:=kX p (cd l k)) (by omega)
   have ha2:=IZ (b0:=[Qt p l (gS 1 xs)]) (xs:=xs) (x:=kX p (cd l k))
   repeat' (first|(apply bp;simp only[ai];rfl)|(apply aH;rfl;exact hlk)|(apply aN;rfl)|(apply zZ;rfl;rfl;rfl;rfl;rfl;exact ha2;(·exact abW (abM _));simp only[ai];rfl)|(apply jI;rfl;rfl;exact agH;simp only[ai];rfl)|(apply aA;rfl;rfl;exact cw hk;simp only[ai];rfl)|(apply qN;rfl;rfl;rfl;exact ha1;simp only[ai];rfl)|(apply aD;rfl;simp only[ai];rfl)|(apply aF;rfl;rfl;exact h89;rfl;simp only[ai];rfl)|refine au ?_)
   refine av (xY rfl (xY (mN rfl rfl rfl ha2) (xY rfl (xY rfl (xY rfl V0))))) rfl ?_
   repeat' (first|(apply bp;simp only[ai];rfl)|(apply aW;rfl;omega;simp only[ai];rfl)|(apply av;rfl;rfl)|refine Qav ?_|refine kj rfl ?_)
   exact hR
  ·have hlf:decide ((l.length:Int)<(l.length:Int))=false:=by simp
   have e:(outs p l).take l.length=outs p l:=List.take_of_length_le (by simp[outs])
   repeat' (first|(apply bp;simp only[ai];rfl)|(apply aK;rfl;exact hlf)|(apply aD;rfl;simp only[ai];rfl)|(apply av;rfl;rfl)|refine Qav ?_|(refine aB (by decide) ?_)|refine kj rfl ?_)
   rw[e]
   repeat' ((with_reducible exact aq rfl rfl))
 exact hW.bD (n:=8) (by simp[eG,rE,tC]) YJ bs
end

section
inductive Dry:D→Prop
 | v (x:Value):Dry (.v x)
 | bh {cs:List D} (h:∀c,c∈cs→∃x,c=.v x):Dry (.bh cs)

theorem Dry.rd {d:D}(hd:Dry d){w w':World}{S S':Sets}{v:Value}(h:bU w S v d):bU w' S' v d:=by
 cases hd with
 | v x=>cases h with | v hp=>exact .v hp
 | bh hc=>
  cases h with
  | bh hl hr=>
   refine .bh hl fun i u d hu hd=>?_
   obtain⟨x,rfl⟩:=hc d (List.mem_of_getElem? hd)
   have:=hr i u _ hu hd
   cases this with | v hp=>exact .v hp

theorem zX {P:Program}{f:FuncId}{ds ds':List D}{bs:List D}{n:Nat}{d:D}(h:aP P f (.st []) ds' d)(hm:dK (bD bs n) ds=some ds')(hd:Dry d):aP P f (.st bs) ds d:=by
 intro w S aJ rp vs hb hst dP hfl hS hvl hrd
 cases hb
 let S0:Sets:={ mem:=(S.or fun b _=>aJ b).mem,loc:=fun _=>0,n:=0,cap:=fun _=>0 }
 have IL:dF w S0 (fun _=>False) []:=⟨rfl,fun i e sz cs hi=>by simp at hi,fun b off hf=>hf.elim,fun i dL hi=>by simp at hi,fun i j x y hi=>by simp at hi,fun i z hi=>by simp at hi⟩
 have hS0:∀b o,S0 b o→b<w.heap.size:=fun b o h=>by
  rcases h with h | h
  ·exact hS b o h
  ·exact hfl b h
 obtain⟨hl,hg⟩:=jk hm
 refine(h w S0 (fun _=>False) [] vs rfl IL (fun l rec hl=>by cases hl) (fun _ hf=>hf.elim) hS0 (by rw[hvl,hl]) fun i v x' hv hx'=>?_).mono ?_
 ·obtain⟨x,hx,MB⟩:=hg i x' hx'
  exact(yR hst n n (Nat.le_refl _) (hrd i v x hv hx) MB).free (fun _ _ h=>h) (pe MB)
 ·rintro e w' ⟨v,S',gj,hb,hle,CC,hnew,hlt⟩
  exact⟨v,S,⟨gj.1,hd.rd gj.2⟩,hb,Sets.le_refl _,rfl,fun b o h=>.inl h,fun b o h=>Nat.lt_of_lt_of_le (hS b o h) hb.size⟩
end

section
def Mv (s:List D):Prop:=∀(i:Nat) (x:D),s[i]? = some x→x=.bh []∨∃e sz cs,x=.blk e sz cs∧∀c,c∈cs→∃v,c=.v v

theorem V5 (xs:List Int):Mv (gB [] xs):=by
 intro i x hx
 cases xs with
 | nil=>simp[gB] at hx
 | cons y r=>
  simp only[gB,List.nil_append] at hx
  have:=List.mem_of_getElem? hx
  rcases List.mem_append.1 this with h | h
  ·exact .inl (List.eq_of_mem_replicate h)
  ·exact .inr ⟨_,_,_,by simpa using h,fun c hc=>by
    rw[←List.map_cons] at hc
    obtain⟨z,_,rfl⟩:=List.mem_map.1 hc
    exact⟨_,rfl⟩⟩

theorem Mv.set {s:List D}(h:Mv s){i:Nat}{x:D}(hx:x=.bh []∨∃e sz cs,x=.blk e sz cs∧∀c,c∈cs→∃v,c=.v v):Mv (s.set i x):=by
 intro j y hy
 rw[List.getElem?_set] at hy
 split at hy
 ·split at hy
  ·cases hy;exact hx
  ·cases hy
 ·exact h j y hy

inductive SS:D→Prop
 | sl (i off n:Nat):SS (.sl i off n)
 | cq:SS .cq

theorem SS.rd {d:D}(hd:SS d){w:World}{S S':Sets}{v:Value}(h:bU w S v d)(h1:S'.loc=S.loc)(h2:S'.n=S.n)(h3:S'.cap=S.cap):bU w S' v d:=by
 cases hd with
 | sl i off n=>
  cases h with
  | sl a1 a2 a3 a4=>
   have e:S.loc i=S'.loc i:=by rw[h1]
   rw[e]
   exact .sl (by rw[h2];exact a1) a2 a3 (by rw[h3];exact a4)
 | cq=>cases h with | cq=>exact .cq
end

section
open Go.Proofs
set_option maxRecDepth 100000
set_option maxHeartbeats 4000000

attribute [local irreducible] gR fV dQ

variable {bs:List D} {p:aL} {c:aS} {l:List aS}

abbrev ints (L:List Nat):List Int:=L.map fun n:Nat=>Int.ofNat n
theorem K8 (L:List Nat):Ix L=Is (ints L):=by simp only[Ix,Is,ints,List.map_map];rfl

theorem I6:(iW p l).iw=true:=by
 simp only[iW,LL,D.iw,eG,jK (enc:=I) (fun _=>rfl),jK (enc:=Item.d) (fun x=>rfl),jK (enc:=aS.d) A6,Bool.and_self]

theorem ace (hc:br p l=true){i:Nat}(hi:i<p.n)(cls:Int):bk Tryz.prog 64 (.st bs) [iW p l,In i,I cls] (gS bs.length (ints (eY p l i cls))) (.st (gB bs (ints (eY p l i cls)))):=by
 have hcs:=cr hc
 refine akl.W rfl ?_
 unfold u64
 simp only[aC,aG,List.cons_append,List.nil_append]
 repeat' (first|(apply aN;rfl)|(apply ar;rfl;exact ak;simp only[ai];rfl)|(apply aD;rfl;simp only[ai];rfl)|refine au ?_)
 refine bf (fun k=>[gS bs.length (ints (jS p l i cls k)),In k,.st (gB bs (ints (jS p l i cls k)))]) (fun _=>True) l.length rfl (fun _=>rfl) trivial (fun k hk _ R hR=>?_) (fun _ R=>?_)
 ·have hlk:decide ((k:Int)<(l.length:Int))=true:=by simp;omega
  have h:=hcs.2 k hk
  have qz:=h.len
  have hR:=hR trivial
  rw[Bm] at hR
  have hrl:=kf (p:=p) (l:=l) (i:=i) (cls:=cls) (n:=k)
  have Lv:=c55 (bs:=gB bs (ints (jS p l i cls k))) (p:=p) hk i
  cases hr:nB p l i cls k
  ·rw[if_neg (by simp[hr])] at hR
   have hf:(((cd l k).ln i).mark==0&&gA p (cd l k) i&&(decide (cls<0)||(cd l k).cls==cls))=false:=by rw[Bool.and_assoc];exact hr
   repeat' (first|(apply bp;simp only[ai];rfl)|(apply aH;rfl;exact hlk)|(apply aK;rfl;exact hf)|(apply aN;rfl)|(apply aA;rfl;rfl;(·first|exact cw hk|exact cQ (by omega));simp only[ai];rfl)|(apply aW;rfl;omega;simp only[ai];rfl)|(apply aD;rfl;simp only[ai];rfl)|(apply aF;rfl;rfl;exact Lv;rfl;simp only[ai];rfl)|(apply bL;rfl)|(apply bg;rfl)|refine au ?_|(apply av;rfl;rfl)|refine Qav ?_|refine kj rfl ?_|exact aq rfl rfl|(intro hz;(try simp only[bA] at hz)))
   exact hR
  ·rw[if_pos hr,ints,List.map_append,List.map_cons,List.map_nil] at hR
   have ht:(((cd l k).ln i).mark==0&&gA p (cd l k) i&&(decide (cls<0)||(cd l k).cls==cls))=true:=by rw[Bool.and_assoc];exact hr
   have ha1:=I1 (b0:=bs) (xs:=ints (jS p l i cls k)) (x:=(k:Int)) (by simp only[ints,List.length_map];omega)
   have ha2:=IZ (b0:=bs) (xs:=ints (jS p l i cls k)) (x:=(k:Int))
   repeat' (first|(apply bp;simp only[ai];rfl)|(apply aH;rfl;(·first|exact hlk|exact ht))|(apply aN;rfl)|(apply aA;rfl;rfl;(·first|exact cw hk|exact cQ (by omega));simp only[ai];rfl)|(apply qN;rfl;rfl;rfl;exact ha1;simp only[ai];rfl)|(apply aW;rfl;omega;simp only[ai];rfl)|(apply aD;rfl;simp only[ai];rfl)|(apply aF;rfl;rfl;exact Lv;rfl;simp only[ai];rfl)|(apply bL;rfl)|(apply bg;rfl)|refine au ?_|(apply av;rfl;(·exact xY (mN rfl rfl rfl ha2) (xY rfl V0)))|(apply av;rfl;rfl)|refine Qav ?_|refine kj rfl ?_|exact aq rfl rfl|(intro hz;(try simp only[bA] at hz)))
   exact hR
 ·have hlf:decide ((l.length:Int)<(l.length:Int))=false:=by simp
  repeat' (first|(apply bp;simp only[ai];rfl)|(apply aK;rfl;exact hlf)|(apply aD;rfl;simp only[ai];rfl)|(apply av;rfl;rfl)|refine Qav ?_|(refine aB (by decide) ?_)|refine kj rfl ?_|exact aq rfl rfl)
  all_goals exact rfl

theorem c64 (hp:p.Ok)(hok:p.ok=true)(hc:br p l=true){i:Nat}(hi:i<p.n)(cls:Int):aP Tryz.prog 64 (.st bs) [iW p l,In i,I cls] (Ix (eY p l i cls)):=by
 have hW:=ace (bs:=[]) hc hi cls
 rw[K8]
 exact hW.bD (n:=2) (by simp[eG,I6,D.iw]) H9 bs

theorem ang (hp:p.Ok)(hok:p.ok=true)(hc:br p l=true){i aO:Nat}(hi:i<p.n)(cF:aO<l.length):aP Tryz.prog 103 (.st bs) [iW p l,In aO,In i] (Ix (basis p l i aO)):=by
 have h1:=c64 (bs:=bs) hp hok hc hi (cd l aO).cls
 have h2:=c64 (bs:=bs) hp hok hc hi (-1)
 refine ae4.R rfl rfl ?_
 unfold adq
 simp only[aC,aG,List.cons_append,List.nil_append]
 repeat' (first|(apply aN;rfl)|(apply aA;rfl;rfl;exact cw cF;simp only[ai];rfl)|(apply ar;rfl;exact ak;simp only[ai];rfl)|(apply aD;rfl;simp only[ai];rfl)|(apply aF;rfl;rfl;(·first|exact h1|exact h2);rfl;simp only[ai];rfl)|(apply aX;rfl;all_goals (intro hz;(try simp only[bA] at hz);first|(exact absurd hz (by decide))|(exfalso;omega)|skip))|(apply aq;rfl;first|exact rfl|(refine bH ?_)|(refine bF ?_)|(refine bG ?_)))
 ·rw[basis,if_pos (by omega)]
 ·rw[basis,if_neg (by omega)]

theorem c96 {xs:List Int}(hL:xs.length≤1000):∃st,Mv st∧bk Tryz.prog 96 (.st (gB [] xs)) [gS 0 xs] (.bh []) (.st st)∧∀n,bD st (n+2) (gS 0 xs)=some (Is (lp xs)):=by
 by_cases hx:xs=[]
 ·subst hx
  exact⟨[],V5 [],jy.adM fun p cap w=>(Tryz.slices_Sort_int_none p cap w).mono fun e w' h=>⟨h.1,0,by rw[h.2];rfl⟩,fun n=>by rw[show lp []=[] by simp[lp]];rfl⟩
 ·have hg:=Ez (b0:=[]) hx
  have h:bk Tryz.prog 96 (.st (gB [] xs)) [.sl (([]:List D).length+(xs.length-1)) 0 xs.length] (.bh []) (.st ((gB [] xs).set (([]:List D).length+(xs.length-1)) (.blk 3 1 ((lp xs).map I)))):=jy.adL (P:=Tryz.prog) (f:=96) (fun blk off cap zs w h1 h2 h3=>Tryz.slices_Sort_int blk off cap zs w h1 h2 h3) (xs:=xs) hg (by omega)
  have e:=tc (m:=([]:List D).length) hx
  refine⟨_,(V5 xs).set (x:=.blk 3 1 ((lp xs).map I)) (.inr ⟨_,_,_,rfl,fun c hc=>by
   obtain⟨z,_,rfl⟩:=List.mem_map.1 hc
   exact⟨_,rfl⟩⟩),by rw[show gS 0 xs=_ from e];exact h,fun n=>?_⟩
  rw[show gS 0 xs=_ from e,bD]
  have hl:([]:List D).length+(xs.length-1)<(gB [] xs).length:=(List.getElem?_eq_some_iff.1 hg).1
  simp only[XG hl]
  have xB:=kH xs
  rw[if_pos (by simp[xB])]
  simp only[Nat.mul_one,Nat.zero_add,List.drop_zero]
  rw[show((lp xs).map I).take xs.length=(lp xs).map I from List.take_of_length_le (by simp[xB]),jj (enc:=I) fun a _=>by rw[bD]]
  simp

theorem ahj {i:Nat}{b:List Nat}(hb:∀k,k∈b→k<l.length∧i<(cd l k).lines.length)(hL:b.length≤1000):∃st,Mv st∧bk Tryz.prog 67 (.st []) [iW p l,Ix b,In i] (gS 0 (jO l i b)) (.st st)∧bD st 2 (gS 0 (jO l i b))=some (Is (lp (jO l i b))):=by
 obtain⟨st,hd,hs,hm⟩:=c96 (xs:=jO l i b) (by rw[gM];omega)
 refine⟨st,hd,?_,hm 0⟩
 refine aki.W rfl ?_
 unfold u67
 simp only[aC,aG,List.cons_append,List.nil_append]
 repeat' (first|(apply ar;rfl;exact ak;simp only[ai];rfl)|refine au ?_)
 refine bf (fun k=>[gS 0 (jO l i (b.take k)),In k,.st (gB [] (jO l i (b.take k)))]) (fun _=>True) b.length rfl (fun _=>rfl) trivial (fun k hk _ R hR=>?_) (fun _ R=>?_)
 ·have hlk:decide ((k:Int)<(b.length:Int))=true:=by simp;omega
  have hbk:=hb b[k] (List.getElem_mem hk)
  have hR:=hR trivial
  rw[yb hk] at hR
  have Yx:=c66 (bs:=gB [] (jO l i (b.take k))) (p:=p) hbk.1 hbk.2
  have hlen:(jO l i (b.take k)).length≤1000:=by rw[gM,List.length_take];omega
  generalize jO l i (b.take k)=xs at hR hlen Yx ⊢
  have ha1:=I1 (b0:=[]) (xs:=xs) (x:=oC l i b[k]) (by omega)
  have ha2:=IZ (b0:=[]) (xs:=xs) (x:=oC l i b[k])
  repeat' (first|(apply bp;simp only[ai];rfl)|(apply aH;rfl;exact hlk)|(apply aA;rfl;rfl;exact kr hk;simp only[ai];rfl)|(apply qN;rfl;rfl;rfl;exact ha1;simp only[ai];rfl)|(apply aD;rfl;simp only[ai];rfl)|(apply aF;rfl;rfl;exact Yx;rfl;simp only[ai];rfl)|refine au ?_)
  refine av (xY (mN rfl rfl rfl ha2) V0) (xY (mN rfl rfl rfl ha2) (xY rfl V0)) ?_
  repeat' (first|(apply bp;simp only[ai];rfl)|(apply aW;rfl;omega;simp only[ai];rfl)|(apply av;rfl;rfl)|refine Qav ?_|refine kj rfl ?_)
  exact hR
 ·have hlf:decide ((b.length:Int)<(b.length:Int))=false:=by simp
  rw[List.take_length]
  repeat' (first|(apply bp;simp only[ai];rfl)|(apply aK;rfl;exact hlf)|(apply aD;rfl;simp only[ai];rfl)|(apply eZ;rfl;rfl;exact hs;rfl;simp only[ai];rfl)|(apply av;rfl;rfl)|refine Qav ?_|(refine aB (by decide) ?_)|refine kj rfl ?_|exact aq rfl rfl)

theorem c67 {i:Nat}{b:List Nat}(hb:∀k,k∈b→k<l.length∧i<(cd l k).lines.length)(hL:b.length≤1000):aP Tryz.prog 67 (.st bs) [iW p l,Ix b,In i] (Is (lp (jO l i b))):=by
 obtain⟨st,_,hW,hm⟩:=ahj (p:=p) hb hL
 exact hW.bD (n:=2) (by simp[eG,I6,D.iw,jK (enc:=In) (fun _=>rfl)]) hm bs


theorem anf (hok:p.ok=true)(hc:br p l=true){i aO:Nat}(hi:i<p.n)(h0:0<(basis p l i aO).length):aP Tryz.prog 104 (.st bs) [iW p l,Ix (basis p l i aO),In aO,In i] (I ((lp (jO l i (basis p l i aO))).getD (((basis p l i aO).length-1) / 2) 0)):=by
 have hcs:=cr hc
 have hm:=aL.mC hok
 have q_:=mi (p:=p) (l:=l) (i:=i) (aO:=aO)
 have hmb:∀k,k∈basis p l i aO→k<l.length∧i<(cd l k).lines.length:=fun k hk=>⟨(fm hk).1,by rw[(hcs.2 k (fm hk).1).len];exact hi⟩
 have Te:=c67 (bs:=bs) (p:=p) hmb (by omega)
 have hlb:=lJ hc (aO:=aO) hi
 have W9:(lp (jO l i (basis p l i aO))).length=(basis p l i aO).length:=by rw[kH,gM]
 have hg1:D.aj 1 (Is (lp (jO l i (basis p l i aO)))) (I (((((basis p l i aO).length-1:Nat)):Int) / 2))=some (.ptr [I ((lp (jO l i (basis p l i aO))).getD (((basis p l i aO).length-1) / 2) 0)]):=by
  rw[show(((((basis p l i aO).length-1:Nat)):Int) / 2)=((((basis p l i aO).length-1) / 2:Nat):Int) by omega]
  exact iK (by omega)
 refine ae3.R rfl rfl ?_
 unfold adp
 simp only[aC,aG,List.cons_append,List.nil_append]
 repeat' (first|(apply aA;rfl;rfl;exact hg1;simp only[ai];rfl)|(apply eX;rfl;rfl;(·exact CN (a:=((((basis p l i aO).length-1:Nat)):Int)) (by decide) (by omega));simp only[ai];rfl)|(apply ar;rfl;exact ak;simp only[ai];rfl)|(apply bZ;rfl;omega;simp only[ai];rfl)|(apply aD;rfl;simp only[ai];rfl)|(apply aF;rfl;rfl;exact Te;rfl;simp only[ai];rfl)|exact aq rfl rfl)

theorem ane (hok:p.ok=true)(hc:br p l=true){i aO:Nat}(hi:i<p.n)(h0:0<(basis p l i aO).length):aP Tryz.prog 105 (.st bs) [iW p l,Ix (basis p l i aO),In aO,In i] (I ((lp (jO l i (basis p l i aO))).getD ((basis p l i aO).length-1) 0)):=by
 have hcs:=cr hc
 have hm:=aL.mC hok
 have q_:=mi (p:=p) (l:=l) (i:=i) (aO:=aO)
 have hmb:∀k,k∈basis p l i aO→k<l.length∧i<(cd l k).lines.length:=fun k hk=>⟨(fm hk).1,by rw[(hcs.2 k (fm hk).1).len];exact hi⟩
 have Te:=c67 (bs:=bs) (p:=p) hmb (by omega)
 have hlb:=lJ hc (aO:=aO) hi
 have W9:(lp (jO l i (basis p l i aO))).length=(basis p l i aO).length:=by rw[kH,gM]
 refine ae2.R rfl rfl ?_
 unfold ado
 simp only[aC,aG,List.cons_append,List.nil_append]
 repeat' (first|(apply aA;rfl;rfl;(·exact iK (by omega));simp only[ai];rfl)|(apply ar;rfl;exact ak;simp only[ai];rfl)|(apply bZ;rfl;omega;simp only[ai];rfl)|(apply aD;rfl;simp only[ai];rfl)|(apply aF;rfl;rfl;exact Te;rfl;simp only[ai];rfl)|exact aq rfl rfl)

theorem anb (hok:p.ok=true)(hc:br p l=true){i aO:Nat}(hi:i<p.n)(h0:0<(basis p l i aO).length):aP Tryz.prog 107 (.st bs) [iW p l,Ix (basis p l i aO),In aO,In i] (I ((least l i (basis p l i aO)*p.jV+99) / 100)):=by
 have hcs:=cr hc
 have hm:=aL.mC hok
 have q_:=mi (p:=p) (l:=l) (i:=i) (aO:=aO)
 have hmb:∀k,k∈basis p l i aO→k<l.length∧i<(cd l k).lines.length:=fun k hk=>⟨(fm hk).1,by rw[(hcs.2 k (fm hk).1).len];exact hi⟩
 have Te:=c67 (bs:=bs) (p:=p) hmb (by omega)
 have hlb:=lJ hc (aO:=aO) hi
 have W9:(lp (jO l i (basis p l i aO))).length=(basis p l i aO).length:=by rw[kH,gM]
 have Ql:D.aj 1 (Is (lp (jO l i (basis p l i aO)))) (I 0)=some (.ptr [I (least l i (basis p l i aO))]):=iK (i:=0) (by omega)
 have hmul:=mF hlb ⟨(by omega:0≤p.jV),hm.2.1.2⟩
 refine ae0.R rfl rfl ?_
 unfold adm
 simp only[aC,aG,List.cons_append,List.nil_append]
 repeat' (first|(apply aN;rfl)|(apply aA;rfl;rfl;exact Ql;simp only[ai];rfl)|(apply eX;rfl;rfl;(·first|exact kR (by omega)|exact CN (by decide) (by omega));simp only[ai];rfl)|(apply bM;rfl;rfl;omega;simp only[ai];rfl)|(apply aD;rfl;simp only[ai];rfl)|(apply aF;rfl;rfl;exact Te;rfl;simp only[ai];rfl)|exact aq rfl rfl)

theorem anc (hok:p.ok=true)(hc:br p l=true){i aO:Nat}(hi:i<p.n)(cF:aO<l.length)(h0:0<(basis p l i aO).length):aP Tryz.prog 106 (.st bs) [iW p l,Ix (basis p l i aO),In aO,In i] (I ((basis p l i aO).foldl (p_ l i (vQ l i aO)) (-1,least l i (basis p l i aO))).2):=by
 have hcs:=cr hc
 have hm:=aL.mC hok
 have q_:=mi (p:=p) (l:=l) (i:=i) (aO:=aO)
 have hmb:∀k,k∈basis p l i aO→k<l.length∧i<(cd l k).lines.length:=fun k hk=>⟨(fm hk).1,by rw[(hcs.2 k (fm hk).1).len];exact hi⟩
 have Te:=c67 (bs:=bs) (p:=p) hmb (by omega)
 have hlb:=lJ hc (aO:=aO) hi
 have W9:(lp (jO l i (basis p l i aO))).length=(basis p l i aO).length:=by rw[kH,gM]
 have dG:=(hcs.2 aO cF).len
 have Ql:D.aj 1 (Is (lp (jO l i (basis p l i aO)))) (I 0)=some (.ptr [I (least l i (basis p l i aO))]):=iK (i:=0) (by omega)
 refine ae1.R rfl rfl ?_
 unfold adn
 simp only[aC,aG,List.cons_append,List.nil_append]
 repeat' (first|(apply aA;rfl;rfl;exact Ql;simp only[ai];rfl)|(apply ar;rfl;exact ak;simp only[ai];rfl)|(apply aD;rfl;simp only[ai];rfl)|(apply aF;rfl;rfl;exact Te;rfl;simp only[ai];rfl)|refine au ?_)
 generalize basis p l i aO=b at hmb q_ hlb W9 h0 Ql ⊢
 refine bf (fun k=>[I ((b.take k).foldl (p_ l i (vQ l i aO)) (-1,least l i b)).1,I ((b.take k).foldl (p_ l i (vQ l i aO)) (-1,least l i b)).2,In k]) (fun _=>True) b.length rfl (fun _=>rfl) trivial (fun k hk _ R hR=>?_) (fun _ R=>?_)
 ·have hlk:decide ((k:Int)<(b.length:Int))=true:=by simp;omega
  have hbk:=hmb b[k] (List.getElem_mem hk)
  have hR:=hR trivial
  rw[List.take_add_one,List.getElem?_eq_getElem hk,Option.toList_some,List.foldl_append,List.foldl_cons,List.foldl_nil] at hR
  generalize(b.take k).foldl (p_ l i (vQ l i aO)) (-1,least l i b)=s at hR ⊢
  have Yx:=c66 (bs:=bs) (p:=p) hbk.1 hbk.2
  repeat' (first|(apply bp;simp only[ai];rfl)|(apply aH;rfl;exact hlk)|(apply aN;rfl)|(apply aA;rfl;rfl;(·first|exact kr hk|exact cw hbk.1|exact cQ hbk.2|exact cw cF|exact cQ (by omega));simp only[ai];rfl)|(apply aW;rfl;omega;simp only[ai];rfl)|(apply aD;rfl;simp only[ai];rfl)|(apply aF;rfl;rfl;exact Yx;rfl;simp only[ai];rfl)|(apply bL;rfl)|(apply bg;rfl)|refine au ?_|(apply av;rfl;rfl)|refine Qav ?_|refine kj rfl ?_|(apply Tp;rfl;all_goals (intro hz;(try simp only[bA] at hz);first|(exact absurd hz (by decide))|(exfalso;omega)|(refine⟨_,rfl,?_⟩)))|exact aq rfl rfl|(intro hz;(try simp only[bA] at hz)))
  all_goals first
  |(rw[Qz (by simp only[vQ,oC] at *;omega)] at hR;exact hR)
  |(rw[Mm (by simp only[vQ,oC] at *;omega)] at hR;exact hR)
 ·have hlf:decide ((b.length:Int)<(b.length:Int))=false:=by simp
  repeat' (first|(apply bp;simp only[ai];rfl)|(apply aK;rfl;exact hlf)|(apply aD;rfl;simp only[ai];rfl)|(apply av;rfl;rfl)|refine Qav ?_|(refine aB (by decide) ?_)|refine kj rfl ?_|(apply aq;rfl;first|exact rfl|(refine bH ?_)|(refine bF ?_)|(refine bG ?_)))
  rw[List.take_length]
end

section
open Go.Proofs
set_option maxRecDepth 100000
set_option maxHeartbeats 4000000

attribute [local irreducible] gR fV dQ

variable {bs:List D} {p:aL} {c:aS} {l:List aS}


theorem c56 (hp:p.Ok)(hok:p.ok=true)(hc:br p l=true){i aO:Nat}(hi:i<p.n)(cF:aO<l.length):aP Tryz.prog 56 (.st bs) [iW p l,In aO,In i] (I (cS p l aO i)):=by
 have hcs:=cr hc
 have hm:=aL.mC hok
 have rT:=hcs.2 aO cF
 have dG:=rT.len
 have hmk:=rT.mark hi
 have hr:=aL.gd hok
 have q_:=mi (p:=p) (l:=l) (i:=i) (aO:=aO)
 have hmb:∀k,k∈basis p l i aO→k<l.length∧i<(cd l k).lines.length:=fun k hk=>⟨(fm hk).1,by rw[(hcs.2 k (fm hk).1).len];exact hi⟩
 have hlb:=lJ hc (aO:=aO) hi
 have W9:(lp (jO l i (basis p l i aO))).length=(basis p l i aO).length:=by rw[kH,gM]
 have LB:=ang (bs:=[]) hp hok hc hi cF
 have Yx:=c66 (bs:=[]) (p:=p) cF (i:=i) (by omega)
 have Te:=c67 (bs:=[]) (p:=p) hmb (by omega)
 have k4:bJ Tryz.prog 104=true:=by kernel_rfl
 have k5:bJ Tryz.prog 105=true:=by kernel_rfl
 have k6:bJ Tryz.prog 106=true:=by kernel_rfl
 have k7:bJ Tryz.prog 107=true:=by kernel_rfl
 have hd:eG [iW p l,In aO,In i]=true:=by simp[eG,I6,D.iw]
 unfold cS
 rcases hmk with hmk | hmk | hmk
 ·rw[if_pos hmk]
  have hW:bk Tryz.prog 56 (.st []) [iW p l,In aO,In i] (I (oC l i aO)) (.st []):=by
   refine K4.W rfl ?_
   unfold Xh
   simp only[aC,aG,List.cons_append,List.nil_append]
   repeat' (first|(apply aN;rfl)|(apply aA;rfl;rfl;(·first|exact cw cF|exact cQ (by omega));simp only[ai];rfl)|(apply aD;rfl;simp only[ai];rfl)|(apply aF;rfl;rfl;(·first|exact LB|exact Yx);rfl;simp only[ai];rfl)|refine au ?_|(apply aX;rfl;all_goals (intro hz;(try simp only[bA] at hz);first|(exact absurd hz (by decide))|(exfalso;omega)|skip))|(apply aq;rfl;first|exact rfl|(refine bH ?_)|(refine bF ?_)|(refine bG ?_)))
  exact hW.bD (n:=1) hd rfl bs
 ·rw[if_neg (by omega),if_pos hmk]
  unfold qS
  by_cases h0:(basis p l i aO).length=0
  ·rw[if_pos h0]
   have hW:bk Tryz.prog 56 (.st []) [iW p l,In aO,In i] (I 0) (.st []):=by
    refine K4.W rfl ?_
    unfold Xh
    simp only[aC,aG,List.cons_append,List.nil_append]
    repeat' (first|(apply bp;simp only[ai];rfl)|(apply aN;rfl)|(apply aA;rfl;rfl;(·first|exact cw cF|exact cQ (by omega));simp only[ai];rfl)|(apply ar;rfl;exact ak;simp only[ai];rfl)|(apply aD;rfl;simp only[ai];rfl)|(apply aF;rfl;rfl;exact LB;rfl;simp only[ai];rfl)|refine au ?_|(apply av;rfl;rfl)|refine Qav ?_|refine kj rfl ?_|(apply aX;rfl;all_goals (intro hz;(try simp only[bA] at hz);first|(exact absurd hz (by decide))|(exfalso;omega)|skip))|exact aq rfl rfl)
   exact hW.bD (n:=1) hd rfl bs
  ·rw[if_neg h0]
   obtain h1 | h1 | h1 | h1:p.ez=1∨p.ez=2∨p.ez=4∨p.ez=3:=by omega
   ·rw[if_pos h1]
    refine P6 (st:=[.blk 129 5 [.v .nilFunc,.fn 104 [iW p l] [],.fn 105 [iW p l] [],.fn 106 [iW p l] [],.fn 107 [iW p l] []]]) ?_ hd bs
    refine K4.W rfl ?_
    unfold Xh
    simp only[aC,aG,List.cons_append,List.nil_append]
    have hm4:∀x y:D,D.m4 (.tN 5 1) (.loc 0 0) (I p.ez) x y=some (.loc 0 1):=fun x y=>by rw[h1];rfl
    repeat' (first|(apply bp;simp only[ai];rfl)|(apply aN;rfl)|(apply aA;rfl;rfl;(·first|exact cw cF|exact cQ (by omega));simp only[ai];rfl)|(apply Xg;rfl;rfl;rfl;rfl;exact hm4 _ _;simp only[ai];rfl)|(apply ar;rfl;exact ak;simp only[ai];rfl)|(apply aD;rfl;simp only[ai];rfl)|(apply aF;rfl;rfl;exact LB;rfl;simp only[ai];rfl)|(apply fJ;rfl;exact k4;rfl;rfl;(·exact anf hok hc hi (by omega));rfl;simp only[ai];rfl)|refine au ?_|(apply av;rfl;rfl)|refine Qav ?_|refine kj rfl ?_|(apply aX;rfl;all_goals (intro hz;(try simp only[bA] at hz);first|(exact absurd hz (by decide))|(exfalso;omega)|skip))|exact aq rfl rfl)
   ·rw[if_neg (by omega),if_pos h1]
    refine P6 (st:=[.blk 129 5 [.v .nilFunc,.fn 104 [iW p l] [],.fn 105 [iW p l] [],.fn 106 [iW p l] [],.fn 107 [iW p l] []]]) ?_ hd bs
    refine K4.W rfl ?_
    unfold Xh
    simp only[aC,aG,List.cons_append,List.nil_append]
    have hm4:∀x y:D,D.m4 (.tN 5 1) (.loc 0 0) (I p.ez) x y=some (.loc 0 2):=fun x y=>by rw[h1];rfl
    repeat' (first|(apply bp;simp only[ai];rfl)|(apply aN;rfl)|(apply aA;rfl;rfl;(·first|exact cw cF|exact cQ (by omega));simp only[ai];rfl)|(apply Xg;rfl;rfl;rfl;rfl;exact hm4 _ _;simp only[ai];rfl)|(apply ar;rfl;exact ak;simp only[ai];rfl)|(apply aD;rfl;simp only[ai];rfl)|(apply aF;rfl;rfl;exact LB;rfl;simp only[ai];rfl)|(apply fJ;rfl;exact k5;rfl;rfl;(·exact ane hok hc hi (by omega));rfl;simp only[ai];rfl)|refine au ?_|(apply av;rfl;rfl)|refine Qav ?_|refine kj rfl ?_|(apply aX;rfl;all_goals (intro hz;(try simp only[bA] at hz);first|(exact absurd hz (by decide))|(exfalso;omega)|skip))|exact aq rfl rfl)
   ·rw[if_neg (by omega),if_neg (by omega),if_pos h1]
    refine P6 (st:=[.blk 129 5 [.v .nilFunc,.fn 104 [iW p l] [],.fn 105 [iW p l] [],.fn 106 [iW p l] [],.fn 107 [iW p l] []]]) ?_ hd bs
    refine K4.W rfl ?_
    unfold Xh
    simp only[aC,aG,List.cons_append,List.nil_append]
    have hm4:∀x y:D,D.m4 (.tN 5 1) (.loc 0 0) (I p.ez) x y=some (.loc 0 4):=fun x y=>by rw[h1];rfl
    repeat' (first|(apply bp;simp only[ai];rfl)|(apply aN;rfl)|(apply aA;rfl;rfl;(·first|exact cw cF|exact cQ (by omega));simp only[ai];rfl)|(apply Xg;rfl;rfl;rfl;rfl;exact hm4 _ _;simp only[ai];rfl)|(apply ar;rfl;exact ak;simp only[ai];rfl)|(apply aD;rfl;simp only[ai];rfl)|(apply aF;rfl;rfl;exact LB;rfl;simp only[ai];rfl)|(apply fJ;rfl;exact k7;rfl;rfl;(·exact anb hok hc hi (by omega));rfl;simp only[ai];rfl)|refine au ?_|(apply av;rfl;rfl)|refine Qav ?_|refine kj rfl ?_|(apply aX;rfl;all_goals (intro hz;(try simp only[bA] at hz);first|(exact absurd hz (by decide))|(exfalso;omega)|skip))|exact aq rfl rfl)
   ·rw[if_neg (by omega),if_neg (by omega),if_neg (by omega)]
    refine P6 (st:=[.blk 129 5 [.v .nilFunc,.fn 104 [iW p l] [],.fn 105 [iW p l] [],.fn 106 [iW p l] [],.fn 107 [iW p l] []]]) ?_ hd bs
    refine K4.W rfl ?_
    unfold Xh
    simp only[aC,aG,List.cons_append,List.nil_append]
    have hm4:∀x y:D,D.m4 (.tN 5 1) (.loc 0 0) (I p.ez) x y=some (.loc 0 3):=fun x y=>by rw[h1];rfl
    repeat' (first|(apply bp;simp only[ai];rfl)|(apply aN;rfl)|(apply aA;rfl;rfl;(·first|exact cw cF|exact cQ (by omega));simp only[ai];rfl)|(apply Xg;rfl;rfl;rfl;rfl;exact hm4 _ _;simp only[ai];rfl)|(apply ar;rfl;exact ak;simp only[ai];rfl)|(apply aD;rfl;simp only[ai];rfl)|(apply aF;rfl;rfl;exact LB;rfl;simp only[ai];rfl)|(apply fJ;rfl;exact k6;rfl;rfl;(·exact anc hok hc hi cF (by omega));rfl;simp only[ai];rfl)|refine au ?_|(apply av;rfl;rfl)|refine Qav ?_|refine kj rfl ?_|(apply aX;rfl;all_goals (intro hz;(try simp only[bA] at hz);first|(exact absurd hz (by decide))|(exfalso;omega)|skip))|exact aq rfl rfl)
 ·rw[if_neg (by omega),if_neg (by omega)]
  by_cases h0:(basis p l i aO).length=0
  ·rw[if_neg (by omega),Int.zero_add]
   have hW:bk Tryz.prog 56 (.st []) [iW p l,In aO,In i] (I p.mG) (.st []):=by
    refine K4.W rfl ?_
    unfold Xh
    simp only[aC,aG,List.cons_append,List.nil_append]
    repeat' (first|(apply aN;rfl)|(apply aA;rfl;rfl;(·first|exact cw cF|exact cQ (by omega));simp only[ai];rfl)|(apply ar;rfl;exact ak;simp only[ai];rfl)|(apply aD;rfl;simp only[ai];rfl)|(apply aF;rfl;rfl;exact LB;rfl;simp only[ai];rfl)|refine au ?_|(apply aX;rfl;all_goals (intro hz;(try simp only[bA] at hz);first|(exact absurd hz (by decide))|(exfalso;omega)|skip))|(apply aq;rfl;first|exact rfl|(refine bH ?_)|(refine bF ?_)|(refine bG ?_)))
   exact hW.bD (n:=1) hd rfl bs
  ·rw[if_pos (by omega)]
   have Ql:D.aj 1 (Is (lp (jO l i (basis p l i aO)))) (I 0)=some (.ptr [I (least l i (basis p l i aO))]):=iK (i:=0) (by omega)
   have hW:bk Tryz.prog 56 (.st []) [iW p l,In aO,In i] (I (least l i (basis p l i aO)+p.mG)) (.st []):=by
    refine K4.W rfl ?_
    unfold Xh
    simp only[aC,aG,List.cons_append,List.nil_append]
    repeat' (first|(apply aN;rfl)|(apply aA;rfl;rfl;(·first|exact cw cF|exact cQ (by omega)|exact Ql);simp only[ai];rfl)|(apply ar;rfl;exact ak;simp only[ai];rfl)|(apply bM;rfl;rfl;omega;simp only[ai];rfl)|(apply aD;rfl;simp only[ai];rfl)|(apply aF;rfl;rfl;(·first|exact LB|exact Te);rfl;simp only[ai];rfl)|refine au ?_|(apply aX;rfl;all_goals (intro hz;(try simp only[bA] at hz);first|(exact absurd hz (by decide))|(exfalso;omega)|skip))|(apply aq;rfl;first|exact rfl|(refine bH ?_)|(refine bF ?_)|(refine bG ?_)))
   exact hW.bD (n:=1) hd rfl bs
end

section
open Go.Proofs
set_option maxRecDepth 100000
set_option maxHeartbeats 4000000

attribute [local irreducible] gR fV dQ

variable {bs:List D} {p:aL} {c:aS} {l:List aS}

def Cb (p:aL)(c:aS)(i:Nat):Int:=cO p c i*p.late+Qay p c i*p.early

theorem ana (hok:p.ok=true)(hc:br p l=true){i aO:Nat}(hi:i<p.n)(cF:aO<l.length):aP Tryz.prog 108 (.st bs) [iW p l,In aO,In i] (.bh [I (l7 p (cd l aO) i),I (Cb p (cd l aO) i)]):=by
 have h:=(cr hc).2 aO cF
 have hd:=h.due hok hi
 have hm:=h.minute hi
 have hr:=aL.gd hok
 have oR:=Wy (bs:=bs) hok h hi
 by_cases GQ:FV p (cd l aO) i=true
 ·rcases Int.lt_trichotomy (jt p (cd l aO) i) ((cd l aO).ln i).minute with h1 | h1 | h1
  ·have hk:l7 p (cd l aO) i=1:=by rw[l7,if_pos GQ,if_pos h1]
   have hn:yu p (cd l aO) i=((cd l aO).ln i).minute-jt p (cd l aO) i:=by rw[yu,if_pos GQ,if_pos h1]
   have hp1:Cb p (cd l aO) i=(((cd l aO).ln i).minute-jt p (cd l aO) i)*p.late:=by
    have hl:cO p (cd l aO) i=((cd l aO).ln i).minute-jt p (cd l aO) i:=by rw[cO,if_pos GQ];omega
    have he:Qay p (cd l aO) i=0:=by unfold Qay;split <;> omega
    rw[Cb,hl,he,Int.zero_mul,Int.add_zero]
   have hmul:=mF (a:=((cd l aO).ln i).minute-jt p (cd l aO) i) (x:=200000) (by omega) hr.1
   rw[hk,hn] at oR
   rw[hk,hp1]
   refine K5.R rfl rfl ?_
   unfold QK
   simp only[aC,aG,List.cons_append,List.nil_append]
   repeat' (first|(apply aH;rfl;exact rfl)|(apply aN;rfl)|(apply aA;rfl;rfl;exact cw cF;simp only[ai];rfl)|(apply eX;rfl;rfl;(·exact kR (by omega));simp only[ai];rfl)|(apply aD;rfl;simp only[ai];rfl)|(apply aF;rfl;rfl;exact oR;rfl;simp only[ai];rfl)|refine au ?_|(apply aq;rfl;first|exact rfl|(refine bH ?_)|(refine bF ?_)|(refine bG ?_)))
  ·have hk:l7 p (cd l aO) i=0:=by rw[l7,if_pos GQ,if_neg (by omega),if_neg (by omega)]
   have hp1:Cb p (cd l aO) i=0:=by
    have hl:cO p (cd l aO) i=0:=by rw[cO,if_pos GQ];omega
    have he:Qay p (cd l aO) i=0:=by unfold Qay;split <;> omega
    rw[Cb,hl,he,Int.zero_mul,Int.zero_mul];rfl
   rw[hk] at oR
   rw[hk,hp1]
   refine K5.R rfl rfl ?_
   unfold QK
   simp only[aC,aG,List.cons_append,List.nil_append]
   repeat' (first|(apply bp;simp only[ai];rfl)|(apply ir;rfl;exact rfl)|(apply aK;rfl;exact rfl)|(apply aN;rfl)|(apply aA;rfl;rfl;exact cw cF;simp only[ai];rfl)|(apply aD;rfl;simp only[ai];rfl)|(apply aF;rfl;rfl;exact oR;rfl;simp only[ai];rfl)|refine au ?_|(apply av;rfl;rfl)|refine Qav ?_|refine kj rfl ?_|exact aq rfl rfl)
  ·have hk:l7 p (cd l aO) i=2:=by rw[l7,if_pos GQ,if_neg (by omega),if_pos (by omega)]
   have hn:yu p (cd l aO) i=jt p (cd l aO) i-((cd l aO).ln i).minute:=by rw[yu,if_pos GQ,if_neg (by omega)]
   have hl:cO p (cd l aO) i=0:=by rw[cO,if_pos GQ];omega
   have hmul:=mF (a:=jt p (cd l aO) i-((cd l aO).ln i).minute) (x:=200000) (by omega) hr.2.1
   rw[hk,hn] at oR
   rw[hk]
   cases hf:(p.it i).free
   ·have he:Qay p (cd l aO) i=jt p (cd l aO) i-((cd l aO).ln i).minute:=by
     rw[Qay,if_pos (by rw[GQ,hf];rfl)];omega
    have hfr:(true&&!(p.it i).free)=true:=by rw[hf];rfl
    rw[Cb,hl,he,Int.zero_mul,Int.zero_add]
    refine K5.R rfl rfl ?_
    unfold QK
    simp only[aC,aG,List.cons_append,List.nil_append]
    repeat' (first|(apply bp;simp only[ai];rfl)|(apply aH;rfl;exact hfr)|(apply aK;rfl;exact rfl)|(apply aN;rfl)|(apply aA;rfl;rfl;(·first|exact cw cF|exact dR hi);simp only[ai];rfl)|(apply eX;rfl;rfl;(·exact kR (by omega));simp only[ai];rfl)|(apply aD;rfl;simp only[ai];rfl)|(apply aF;rfl;rfl;exact oR;rfl;simp only[ai];rfl)|(apply bg;rfl)|refine au ?_|exact aq rfl rfl|(apply aq;rfl;first|exact rfl|(refine bH ?_)|(refine bF ?_)|(refine bG ?_))|(intro hz;(try simp only[bA] at hz)))
   ·have he:Qay p (cd l aO) i=0:=by rw[Qay,if_neg (by rw[hf];simp)]
    have hfr:(true&&!(p.it i).free)=false:=by rw[hf];rfl
    rw[Cb,hl,he,Int.zero_mul,Int.zero_mul]
    refine K5.R rfl rfl ?_
    unfold QK
    simp only[aC,aG,List.cons_append,List.nil_append]
    repeat' (first|(apply bp;simp only[ai];rfl)|(apply aK;rfl;(·first|exact rfl|exact hfr))|(apply aN;rfl)|(apply aA;rfl;rfl;(·first|exact cw cF|exact dR hi);simp only[ai];rfl)|(apply aD;rfl;simp only[ai];rfl)|(apply aF;rfl;rfl;exact oR;rfl;simp only[ai];rfl)|(apply bg;rfl)|refine au ?_|(apply av;rfl;rfl)|refine Qav ?_|refine kj rfl ?_|exact aq rfl rfl|(intro hz;(try simp only[bA] at hz)))
 ·have hk:l7 p (cd l aO) i=0:=by rw[l7,if_neg GQ]
  have hp1:Cb p (cd l aO) i=0:=by
   have hl:cO p (cd l aO) i=0:=by rw[cO,if_neg GQ]
   have he:Qay p (cd l aO) i=0:=by rw[Qay,if_neg (by simp[GQ])]
   rw[Cb,hl,he,Int.zero_mul,Int.zero_mul];rfl
  rw[hk] at oR
  rw[hk,hp1]
  refine K5.R rfl rfl ?_
  unfold QK
  simp only[aC,aG,List.cons_append,List.nil_append]
  repeat' (first|(apply bp;simp only[ai];rfl)|(apply ir;rfl;exact rfl)|(apply aK;rfl;exact rfl)|(apply aN;rfl)|(apply aA;rfl;rfl;exact cw cF;simp only[ai];rfl)|(apply aD;rfl;simp only[ai];rfl)|(apply aF;rfl;rfl;exact oR;rfl;simp only[ai];rfl)|refine au ?_|(apply av;rfl;rfl)|refine Qav ?_|refine kj rfl ?_|exact aq rfl rfl)

theorem am5 (hc:br p l=true){aO n:Nat}{m:Int}(hm:m+1=n)(hn:n≤p.n)(hN:p.n≤100)(cF:aO<l.length):aP Tryz.prog 123 (.st bs) [iW p l,In aO,I m] (Ix (tH p (cd l aO) n)):=by
 have h:=(cr hc).2 aO cF
 have qz:=h.len
 have abA:D.bin .add .int (I m) (I 1)=some (In n):=by
  show some (I (IntKind.i64.wrap (m+1)))=_
  rw[hm,wrap64 (by omega)]
 refine aeR.R rfl rfl ?_
 unfold adb
 simp only[aC,aG,List.cons_append,List.nil_append]
 repeat' (first|(apply eX;rfl;rfl;exact abA;simp only[ai];rfl)|refine au ?_)
 refine bf (fun k=>[Ix (tH p (cd l aO) k),In k]) (fun _=>True) n rfl (fun _=>rfl) trivial (fun k hk _ R hR=>?_) (fun _ R=>?_)
 ·have hlk:decide ((k:Int)<(n:Int))=true:=by simp;omega
  have hR:=hR trivial
  rw[Ee] at hR
  have Lv:=c55 (bs:=bs) (p:=p) cF k
  have nD:=xU (xs:=tH p (cd l aO) k) (x:=k) (by have:=UG (p:=p) (c:=cd l aO) (n:=k);omega)
  cases hj:(((cd l aO).ln k).jump&&gA p (cd l aO) k)
  ·rw[if_neg (by simp[hj])] at hR
   repeat' (first|(apply bp;simp only[ai];rfl)|(apply aH;rfl;exact hlk)|(apply aK;rfl;exact hj)|(apply aN;rfl)|(apply aA;rfl;rfl;(·first|exact cw cF|exact cQ (by omega));simp only[ai];rfl)|(apply aW;rfl;omega;simp only[ai];rfl)|(apply aD;rfl;simp only[ai];rfl)|(apply aF;rfl;rfl;exact Lv;rfl;simp only[ai];rfl)|(apply bg;rfl)|refine au ?_|(apply av;rfl;rfl)|refine Qav ?_|refine kj rfl ?_|exact aq rfl rfl|(intro hz;(try simp only[bA] at hz)))
   exact hR
  ·rw[if_pos hj] at hR
   repeat' (first|(apply bp;simp only[ai];rfl)|(apply aH;rfl;(·first|exact hlk|exact hj))|(apply aN;rfl)|(apply aA;rfl;rfl;(·first|exact cw cF|exact cQ (by omega));simp only[ai];rfl)|(apply mV;rfl;rfl;exact nD;simp only[ai];rfl)|(apply aW;rfl;omega;simp only[ai];rfl)|(apply aD;rfl;simp only[ai];rfl)|(apply aF;rfl;rfl;exact Lv;rfl;simp only[ai];rfl)|(apply bg;rfl)|refine au ?_|(apply av;rfl;rfl)|refine Qav ?_|refine kj rfl ?_|exact aq rfl rfl|(intro hz;(try simp only[bA] at hz)))
   exact hR
 ·have hlf:decide ((n:Int)<(n:Int))=false:=by simp
  repeat' (first|(apply bp;simp only[ai];rfl)|(apply aK;rfl;exact hlf)|(apply aD;rfl;simp only[ai];rfl)|(apply av;rfl;rfl)|refine Qav ?_|(refine aB (by decide) ?_)|refine kj rfl ?_|exact aq rfl rfl)

theorem am_ (hok:p.ok=true)(hc:br p l=true){i aO:Nat}(hi:i<p.n)(cF:aO<l.length)(hj:((cd l aO).ln i).jump=true)(hr:gA p (cd l aO) i=true):aP Tryz.prog 109 (.st bs) [iW p l,In aO,In i] (I (qx p (cd l aO) i)):=by
 have hh:=aL.gi hok
 have RO:=aL.gd hok
 have amn:=am5 (bs:=bs) hc (aO:=aO) (n:=i+1) (m:=i) (by omega) (by omega) hh.1.2 cF
 have hlen:(tH p (cd l aO) (i+1)).length=mI (cd l aO) i+1:=by
  rw[GH (.inr (by rwa [show((i+1:Nat):Int)-1=i by omega])),mI,if_pos hj]
 have Zw:D.aR (Ix (tH p (cd l aO) (i+1)))=some (In (mI (cd l aO) i+1)):=by
  rw[←hlen]
  exact ak
 have S_:D.mm false (In (mI (cd l aO) i+1)) (In p.jumps.length)=some (In (min (mI (cd l aO) i) (p.jumps.length-1)+1)):=by
  rw[In,In,No]
  congr 2
  omega
 have hle:=Ed (c:=cd l aO) i
 rw[qx,if_pos hj]
 refine aeZ.R rfl rfl ?_
 unfold adl
 simp only[aC,aG,List.cons_append,List.nil_append]
 repeat' (first|(apply aN;rfl)|(apply aA;rfl;rfl;(·exact iK (by omega));simp only[ai];rfl)|(apply ar;rfl;exact Zw;simp only[ai];rfl)|(apply Xf;rfl;rfl;exact S_;simp only[ai];rfl)|(apply ar;rfl;exact ak;simp only[ai];rfl)|(apply bZ;rfl;omega;simp only[ai];rfl)|(apply aD;rfl;simp only[ai];rfl)|(apply aF;rfl;rfl;exact amn;rfl;simp only[ai];rfl)|exact aq rfl rfl)

theorem c57 (hp:p.Ok)(hok:p.ok=true)(hc:br p l=true){aO:Nat}(cF:aO<l.length):aP Tryz.prog 57 (.st bs) [iW p l,In aO] (I (e_ p l aO)):=by
 have hh:=aL.gi hok
 have hcs:=cr hc
 have h:=hcs.2 aO cF
 have qz:=h.len
 refine akr.R rfl rfl ?_
 unfold u57
 simp only[aC,aG,List.cons_append,List.nil_append]
 repeat' (first|(apply aN;rfl)|(apply ar;rfl;exact cT;simp only[ai];rfl)|(apply aD;rfl;simp only[ai];rfl)|refine au ?_)
 refine bf (fun i=>[I (jw p l aO i),In i]) (fun _=>True) p.n rfl (fun _=>rfl) trivial (fun i hi _ R hR=>?_) (fun _ R=>?_)
 ·have hR:=hR trivial
  have gH:decide ((i:Int)<(p.n:Int))=true:=by simp;omega
  have Lv:=c55 (bs:=bs) (p:=p) cF i
  cases hr:gA p (cd l aO) i
  ·rw[hr] at Lv
   repeat' (first|(apply bp;simp only[ai];rfl)|(apply aH;rfl;(·first|exact gH|exact rfl))|(apply aD;rfl;simp only[ai];rfl)|(apply aF;rfl;rfl;exact Lv;rfl;simp only[ai];rfl)|refine au ?_|(apply av;rfl;rfl)|refine Qav ?_|(refine aB (by decide) ?_)|refine kj rfl ?_|(apply aq;rfl;first|exact rfl|(refine bH ?_)|(refine bF ?_)|(refine bG ?_)))
   rw[e_,w5 (Nat.le_of_lt hi) hr]
  ·rw[hr] at Lv
   rw[jw,if_pos hr] at hR
   have hb:=CY hok hc cF (i:=i) (by omega)
   have GN:=aL.yL hok hi
   have GV:=c54 (bs:=bs) (p:=p) (l:=l) hi
   have ZF:=c56 (bs:=bs) hp hok hc hi cF
   have LA:=ana (bs:=bs) hok hc hi cF
   have tM:=yf hok hc hi cF
   have tK:=Ec hok (cd l aO) i
   have hb3:=mF (h.late hok hi) (aL.gd hok).1
   have hb4:=mF (h.early hok hi) (aL.gd hok).2.1
   cases hk:(p.it i).kind==2
   ·have hj:=h.aaz hi (by simp at hk;omega)
    rw[oy,if_neg (by simpa using hk)] at hR
    rw[hk] at GV
    have hpc:Cb p (cd l aO) i=cO p (cd l aO) i*p.late+Qay p (cd l aO) i*p.early:=rfl
    repeat' (first|(apply bp;simp only[ai];rfl)|(apply aH;rfl;exact gH)|(apply aK;rfl;(·first|exact rfl|exact hj))|(apply aN;rfl)|(apply aA;rfl;rfl;(·first|exact cw cF|exact cQ (by omega));simp only[ai];rfl)|(apply aW;rfl;omega;simp only[ai];rfl)|(apply bM;rfl;rfl;omega;simp only[ai];rfl)|(apply aD;rfl;simp only[ai];rfl)|(apply aF;rfl;rfl;(·first|exact Lv|exact GV|exact LA);rfl;simp only[ai];rfl)|refine au ?_|(apply av;rfl;rfl)|refine Qav ?_|refine kj rfl ?_)
    exact hR
   ·have GQ:FV p (cd l aO) i=false:=by simp at hk;simp[FV,hk]
    have hpc:Cb p (cd l aO) i=0:=by simp[Cb,cO,Qay,GQ]
    rw[hk] at GV
    rw[hpc] at LA
    rw[oy,if_pos (by simpa using hk)] at hR
    cases hj:((cd l aO).ln i).jump
    ·have hjn:qx p (cd l aO) i=0:=by rw[qx,if_neg (by simp[hj])]
     rw[hjn] at hR
     repeat' (first|(apply bp;simp only[ai];rfl)|(apply aH;rfl;(·first|exact gH|exact rfl))|(apply aK;rfl;(·first|exact rfl|exact hj))|(apply aN;rfl)|(apply aA;rfl;rfl;(·first|exact cw cF|exact cQ (by omega));simp only[ai];rfl)|(apply aW;rfl;omega;simp only[ai];rfl)|(apply bM;rfl;rfl;omega;simp only[ai];rfl)|(apply aD;rfl;simp only[ai];rfl)|(apply aF;rfl;rfl;(·first|exact Lv|exact GV|exact ZF|exact LA);rfl;simp only[ai];rfl)|refine au ?_|(apply av;rfl;rfl)|refine Qav ?_|refine kj rfl ?_)
     rwa [Int.add_zero] at hR ⊢
    ·have amq:=am_ (bs:=bs) hok hc hi cF hj hr
     repeat' (first|(apply bp;simp only[ai];rfl)|(apply aH;rfl;(·first|exact gH|exact rfl|exact hj))|(apply aK;rfl;exact rfl)|(apply aN;rfl)|(apply aA;rfl;rfl;(·first|exact cw cF|exact cQ (by omega));simp only[ai];rfl)|(apply aW;rfl;omega;simp only[ai];rfl)|(apply bM;rfl;rfl;omega;simp only[ai];rfl)|(apply aD;rfl;simp only[ai];rfl)|(apply aF;rfl;rfl;(·first|exact Lv|exact GV|exact ZF|exact LA|exact amq);rfl;simp only[ai];rfl)|refine au ?_|(apply av;rfl;rfl)|refine Qav ?_|refine kj rfl ?_)
     rw[Int.add_zero,Int.add_assoc]
     exact hR
 ·have hlf:decide ((p.n:Int)<(p.n:Int))=false:=by simp
  repeat' (first|(apply bp;simp only[ai];rfl)|(apply aK;rfl;exact hlf)|(apply aD;rfl;simp only[ai];rfl)|(apply av;rfl;rfl)|refine Qav ?_|(refine aB (by decide) ?_)|refine kj rfl ?_|exact aq rfl rfl)
  all_goals exact rfl
end

section
open Go.Proofs
set_option maxRecDepth 100000
set_option maxHeartbeats 4000000

attribute [local irreducible] gR fV dQ

variable {bs:List D} {p:aL} {l:List aS} {d:List Tal}

def alc (t:Tal):Prop:=i64 t.kind∧i64 t.aO∧i64 t.item∧i64 t.val∧Mu t.frm
def acH (d:List Tal):Prop:=d.length≤maxLen∧(∀t,t∈d→t.frm.length≤maxLen)∧∀t,t∈d→alc t

theorem afU {i:Nat}(h:i<d.length):tl d i∈d:=List.mem_of_getElem? (afZ h)

theorem aip (c:aS)(i:Nat):(l7 p c i==1)=decide (0<cO p c i):=by
 unfold l7 cO
 by_cases GQ:FV p c i=true
 ·simp only[GQ,if_true]
  by_cases h1:(c.ln i).minute > jt p c i
  ·rw[if_pos h1,decide_eq_true (by omega)]
   rfl
  ·rw[if_neg h1,decide_eq_false (by omega)]
   split <;> rfl
 ·simp only[GQ,if_false]
  rfl

theorem c94 (hp:p.Ok)(hok:p.ok=true)(hc:br p l=true){i aO:Nat}(hi:i<p.n)(cF:aO<l.length)(kd:Int):aP Tryz.prog 94 (.st bs) [iW p l,kyD (kd,aO,i)] (.bh [I (aaV p l kd aO i).1,B (aaV p l kd aO i).2]):=by
 have hcs:=cr hc
 have h:=hcs.2 aO cF
 have qz:=h.len
 have h57:=c57 (bs:=bs) hp hok hc cF
 have Lv:=c55 (bs:=bs) (p:=p) cF (i:Int)
 have GV:=c54 (bs:=bs) (l:=l) hi
 have ZF:=c56 (bs:=bs) hp hok hc hi cF
 have LA:=ana (bs:=bs) hok hc hi cF
 unfold kyD
 simp only
 refine apV.R rfl rfl ?_
 unfold u94
 simp only[aC,aG,List.cons_append,List.nil_append]
 unfold aaV
 by_cases k7:kd=7
 ·subst k7
  have e:((i:Nat)==0)=((i:Int)==0):=by rw[Bool.eq_iff_iff];simp
  simp only[if_true,e]
  repeat' (first|(apply aH;rfl;exact rfl)|(apply aN;rfl)|(apply aD;rfl;simp only[ai];rfl)|(apply aF;rfl;rfl;exact h57;rfl;simp only[ai];rfl)|exact aq rfl rfl)
 have n7:(kd==7)=false:=by simp[k7]
 rw[if_neg k7]
 cases hr:gA p (cd l aO) i
 ·rw[hr] at Lv
  simp only[if_true]
  repeat' (first|(apply aH;rfl;exact rfl)|(apply aK;rfl;exact n7)|(apply aN;rfl)|(apply aD;rfl;simp only[ai];rfl)|(apply aF;rfl;rfl;exact Lv;rfl;simp only[ai];rfl)|exact aq rfl rfl)
 rw[hr] at Lv
 simp only[Bool.true_eq_false,if_false]
 by_cases k1:kd=1
 ·subst k1
  simp only[if_true]
  repeat' (first|(apply bp;simp only[ai];rfl)|(apply aH;rfl;exact rfl)|(apply aK;rfl;exact rfl)|(apply aN;rfl)|(apply aA;rfl;rfl;(·first|exact cw cF|exact cQ (by omega));simp only[ai];rfl)|(apply aD;rfl;simp only[ai];rfl)|(apply aF;rfl;rfl;(·first|exact Lv|exact GV);rfl;simp only[ai];rfl)|(apply bg;rfl)|refine au ?_|exact aq rfl rfl|(apply aq;rfl;first|exact rfl|(refine bH ?_)|(refine bF ?_)|(refine bG ?_))|(intro hz;(try simp only[bA] at hz)))
 have n1:(kd==1)=false:=by simp[k1]
 rw[if_neg k1]
 by_cases k2:kd=2
 ·subst k2
  simp only[if_true]
  by_cases hm:((cd l aO).ln i).mark=1
  ·have hf:(((cd l aO).ln i).mark != 1)=false:=by simp[hm]
   rw[if_pos hm]
   repeat' (first|(apply aH;rfl;exact rfl)|(apply aK;rfl;(·first|exact rfl|exact hf))|(apply aN;rfl)|(apply aA;rfl;rfl;(·first|exact cw cF|exact cQ (by omega));simp only[ai];rfl)|(apply aD;rfl;simp only[ai];rfl)|(apply aF;rfl;rfl;(·first|exact Lv|exact ZF);rfl;simp only[ai];rfl)|refine au ?_|(apply aq;rfl;first|exact rfl|(refine bH ?_)|(refine bF ?_)|(refine bG ?_)))
  ·have ht:(((cd l aO).ln i).mark != 1)=true:=by simp[hm]
   rw[if_neg hm]
   repeat' (first|(apply aH;rfl;(·first|exact rfl|exact ht))|(apply aK;rfl;exact rfl)|(apply aN;rfl)|(apply aA;rfl;rfl;(·first|exact cw cF|exact cQ (by omega));simp only[ai];rfl)|(apply aD;rfl;simp only[ai];rfl)|(apply aF;rfl;rfl;exact Lv;rfl;simp only[ai];rfl)|refine au ?_|(apply aq;rfl;first|exact rfl|(refine bH ?_)|(refine bF ?_)|(refine bG ?_)))
 have n2:(kd==2)=false:=by simp[k2]
 rw[if_neg k2]
 by_cases k3:kd=3
 ·subst k3
  simp only[if_true]
  by_cases hm:(p.it i).kind=2∧((cd l aO).ln i).mark=2
  ·have hf:((!((p.it i).kind==2))||((cd l aO).ln i).mark != 2)=false:=by simp[hm.1,hm.2]
   rw[if_pos hm]
   repeat' (first|(apply bp;simp only[ai];rfl)|(apply aH;rfl;exact rfl)|(apply aK;rfl;(·first|exact rfl|exact hf))|(apply aN;rfl)|(apply aA;rfl;rfl;(·first|exact cw cF|exact cQ (by omega));simp only[ai];rfl)|(apply aD;rfl;simp only[ai];rfl)|(apply aF;rfl;rfl;(·first|exact Lv|exact GV|exact ZF);rfl;simp only[ai];rfl)|(apply bL;rfl)|refine au ?_|exact aq rfl rfl|(apply aq;rfl;first|exact rfl|(refine bH ?_)|(refine bF ?_)|(refine bG ?_))|(intro hz;(try simp only[bA] at hz)))
  ·have ht:((!((p.it i).kind==2))||((cd l aO).ln i).mark != 2)=true:=by
    by_cases hx:(p.it i).kind=2
    ·simp[hx]
     exact fun e=>hm ⟨hx,e⟩
    ·simp[hx]
   rw[if_neg hm]
   repeat' (first|(apply bp;simp only[ai];rfl)|(apply aH;rfl;exact ht)|(apply aK;rfl;exact rfl)|(apply aN;rfl)|(apply aA;rfl;rfl;(·first|exact cw cF|exact cQ (by omega));simp only[ai];rfl)|(apply aD;rfl;simp only[ai];rfl)|(apply aF;rfl;rfl;(·first|exact Lv|exact GV);rfl;simp only[ai];rfl)|(apply bL;rfl)|refine au ?_|(apply aX;rfl;all_goals (intro hz;(try simp only[bA] at hz);first|(exact absurd hz (by decide))|(exfalso;omega)|skip))|exact aq rfl rfl|(apply aq;rfl;first|exact rfl|(refine bH ?_)|(refine bF ?_)|(refine bG ?_))|(intro hz;(try simp only[bA] at hz)))
 have n3:(kd==3)=false:=by simp[k3]
 rw[if_neg k3]
 have hs:=aip (p:=p) (cd l aO) i
 have hpe:Cb p (cd l aO) i=cO p (cd l aO) i*p.late+Qay p (cd l aO) i*p.early:=rfl
 rw[←hpe]
 by_cases k4:kd=4
 ·subst k4
  simp only[if_true]
  have e:(decide (0<Cb p (cd l aO) i)&&decide (0<cO p (cd l aO) i))=(decide (Cb p (cd l aO) i > 0)&&((l7 p (cd l aO) i==1)==((4:Int)==4))):=by
   rw[hs]
   cases decide (0<cO p (cd l aO) i) <;> rfl
  rw[e]
  repeat' (first|(apply bp;simp only[ai];rfl)|(apply aH;rfl;exact rfl)|(apply aK;rfl;exact rfl)|(apply aN;rfl)|(apply aA;rfl;rfl;(·first|exact cw cF|exact cQ (by omega));simp only[ai];rfl)|(apply aD;rfl;simp only[ai];rfl)|(apply aF;rfl;rfl;(·first|exact Lv|exact LA);rfl;simp only[ai];rfl)|(apply bg;rfl)|refine au ?_|(apply av;rfl;rfl)|refine Qav ?_|refine kj rfl ?_|exact aq rfl rfl|(apply aq;rfl;first|exact rfl|(refine bH ?_)|(refine bF ?_)|(refine bG ?_))|(intro hz;(try simp only[bA] at hz)))
 have n4:(kd==4)=false:=by simp[k4]
 rw[if_neg k4]
 by_cases k5:kd=5
 ·subst k5
  simp only[if_true]
  have e:(decide (0<Cb p (cd l aO) i)&&!decide (0<cO p (cd l aO) i))=(decide (Cb p (cd l aO) i > 0)&&((l7 p (cd l aO) i==1)==((5:Int)==4))):=by
   rw[hs]
   cases decide (0<cO p (cd l aO) i) <;> rfl
  rw[e]
  repeat' (first|(apply bp;simp only[ai];rfl)|(apply aH;rfl;exact rfl)|(apply aK;rfl;exact rfl)|(apply aN;rfl)|(apply aA;rfl;rfl;(·first|exact cw cF|exact cQ (by omega));simp only[ai];rfl)|(apply aD;rfl;simp only[ai];rfl)|(apply aF;rfl;rfl;(·first|exact Lv|exact LA);rfl;simp only[ai];rfl)|(apply bg;rfl)|refine au ?_|(apply av;rfl;rfl)|refine Qav ?_|refine kj rfl ?_|exact aq rfl rfl|(apply aq;rfl;first|exact rfl|(refine bH ?_)|(refine bF ?_)|(refine bG ?_))|(intro hz;(try simp only[bA] at hz)))
 have n5:(kd==5)=false:=by simp[k5]
 rw[if_neg k5]
 by_cases k6:kd=6
 ·subst k6
  simp only[if_true]
  cases hj:((cd l aO).ln i).jump
  ·have ht:(!((cd l aO).ln i).jump)=true:=by rw[hj];rfl
   simp only[Bool.false_eq_true,if_false]
   repeat' (first|(apply bp;simp only[ai];rfl)|(apply aH;rfl;(·first|exact rfl|exact ht))|(apply aK;rfl;exact rfl)|(apply aN;rfl)|(apply aA;rfl;rfl;(·first|exact cw cF|exact cQ (by omega));simp only[ai];rfl)|(apply aD;rfl;simp only[ai];rfl)|(apply aF;rfl;rfl;exact Lv;rfl;simp only[ai];rfl)|refine au ?_|(apply av;rfl;rfl)|refine Qav ?_|refine kj rfl ?_|(apply aq;rfl;first|exact rfl|(refine bH ?_)|(refine bF ?_)|(refine bG ?_)))
  ·have hf:(!((cd l aO).ln i).jump)=false:=by rw[hj];rfl
   have amq:=am_ (bs:=bs) hok hc hi cF hj hr
   simp only[if_true]
   repeat' (first|(apply bp;simp only[ai];rfl)|(apply aH;rfl;exact rfl)|(apply aK;rfl;(·first|exact rfl|exact hf))|(apply aN;rfl)|(apply aA;rfl;rfl;(·first|exact cw cF|exact cQ (by omega));simp only[ai];rfl)|(apply aD;rfl;simp only[ai];rfl)|(apply aF;rfl;rfl;(·first|exact Lv|exact amq);rfl;simp only[ai];rfl)|refine au ?_|(apply av;rfl;rfl)|refine Qav ?_|refine kj rfl ?_|(apply aq;rfl;first|exact rfl|(refine bH ?_)|(refine bF ?_)|(refine bG ?_)))
 have n6:(kd==6)=false:=by simp[k6]
 rw[if_neg k6]
 repeat' (first|(apply bp;simp only[ai];rfl)|(apply aK;rfl;(·first|exact rfl|exact n1|exact n2|exact n3|exact n4|exact n5|exact n6|exact n7))|(apply aN;rfl)|(apply aA;rfl;rfl;(·first|exact cw cF|exact cQ (by omega));simp only[ai];rfl)|(apply aD;rfl;simp only[ai];rfl)|(apply aF;rfl;rfl;exact Lv;rfl;simp only[ai];rfl)|refine au ?_|(apply av;rfl;rfl)|refine Qav ?_|refine kj rfl ?_|exact aq rfl rfl)

theorem arl (hp:p.Ok)(hok:p.ok=true)(hc:br p l=true){i aO:Nat}(hi:i<p.n)(cF:aO<l.length)(kd:Int):aP Tryz.prog 124 (.st bs) [iW p l,kyD (kd,aO,i)] (B (aaV p l kd aO i).2):=by
 have h94:=c94 (bs:=bs) hp hok hc hi cF kd
 unfold kyD at *
 simp only at *
 refine anI.R rfl rfl ?_
 unfold ans
 simp only[aC,aG,List.cons_append,List.nil_append]
 repeat' (first|(apply aN;rfl)|(apply aF;rfl;rfl;exact h94;rfl;simp only[ai];rfl)|exact aq rfl rfl)
end

section
open Go.Proofs
set_option maxRecDepth 100000
set_option maxHeartbeats 4000000

attribute [local irreducible] gR fV dQ

variable {bs:List D} {p:aL} {l:List aS}

abbrev Kys (ks:List Key):D:=.bq (ks.map kyD)

theorem amh {xs:List Key}{k:Key}(h:xs.length≤100000):D.app 3 24 (Kys xs) (.bq [kyD k])=some (Kys (xs++[k])):=zJ (enc:=kyD) (by omega) (Nat.le_trans (Nat.succ_le_succ h) (by decide)) (fun _=>rfl)

theorem ahA {kd:Int}{i k:Nat}{b0 b:List Nat}(hk:k<b.length):abo l kd i b0 (b.take (k+1))=if(kd==2||oC l i b[k]==least l i b0)=true then abo l kd i b0 (b.take k)++[((1:Int),(b[k]:Int),(i:Int))] else abo l kd i b0 (b.take k):=by
 unfold abo
 rw[List.take_add_one,List.getElem?_eq_getElem hk]
 simp only[Option.toList_some,List.filter_append,List.map_append]
 cases h:(kd==2||oC l i b[k]==least l i b0) <;> simp[h]

theorem afO {kd:Int}{i:Nat}{b0 b:List Nat}:(abo l kd i b0 b).length≤b.length:=by
 unfold abo
 rw[List.length_map]
 exact List.length_filter_le ..

theorem adv {aO:Nat}:∀{n:Nat},(abD p l aO n).length≤4*n
 | 0=>by simp[abD]
 | n+1=>by
  have:=adv (aO:=aO) (n:=n)
  have:=acZ (p:=p) (l:=l) (aO:=aO) (i:=n)
  rw[acD]
  simp only[List.length_append,List.length_map]
  omega

theorem ai2 {aO i k:Nat}:(kTo p l aO i k).length≤k:=by
 unfold kTo
 refine Nat.le_trans (List.length_filter_le ..) ?_
 simp

theorem ais {kd:Int}{aO i:Nat}(hok:p.ok=true)(hc:br p l=true)(hi:i<p.n):(aa4 p l kd aO i).length≤400:=by
 have hh:=aL.gi hok
 have hcs:=cr hc
 have q_:=mi (p:=p) (l:=l) (i:=i) (aO:=aO)
 unfold aa4
 split
 ·have:=afO (l:=l) (kd:=kd) (i:=i) (b0:=basis p l i aO) (b:=basis p l i aO)
  omega
 split
 ·rw[List.length_map]
  have:=UG (p:=p) (c:=cd l aO) (n:=i)
  omega
 split
 ·have:=adv (p:=p) (l:=l) (aO:=aO) (n:=p.n)
  omega
 ·simp

theorem c95 (hp:p.Ok)(hok:p.ok=true)(hc:br p l=true){i aO:Nat}(hi:i<p.n)(cF:aO<l.length)(kd:Int):aP Tryz.prog 95 (.st bs) [iW p l,kyD (kd,aO,i)] (Kys (aa4 p l kd aO i)):=by
 have hcs:=cr hc
 have h:=hcs.2 aO cF
 have qz:=h.len
 have hh:=aL.gi hok
 have q_:=mi (p:=p) (l:=l) (i:=i) (aO:=aO)
 have LB:=ang (bs:=bs) hp hok hc hi cF
 have hmb:∀k,k∈basis p l i aO→k<l.length∧i<(cd l k).lines.length:=fun k hk=>⟨(fm hk).1,by rw[(hcs.2 k (fm hk).1).len];exact hi⟩
 have Te:=c67 (bs:=bs) (p:=p) hmb (by omega)
 have W9:(lp (jO l i (basis p l i aO))).length=(basis p l i aO).length:=by rw[kH,gM]
 have hle:(lp (jO l i (basis p l i aO))).getD 0 0=least l i (basis p l i aO):=rfl
 have al9:=fun(k:Nat) (hk:k<p.n) (kd:Int)=>arl (bs:=bs) hp hok hc hk cF kd
 have nD:=fun(xs:List Key) (k:Key) (h:xs.length≤100000)=>amh (k:=k) h
 unfold kyD at al9 nD ⊢
 simp only at al9 nD ⊢
 refine apU.R rfl rfl ?_
 unfold u95
 simp only[aC,aG,List.cons_append,List.nil_append]
 by_cases k23:kd=2∨kd=3
 ·have e:aa4 p l kd aO i=abo l kd i (basis p l i aO) (basis p l i aO):=by unfold aa4;rw[if_pos k23]
  rw[e]
  generalize basis p l i aO=b at *
  repeat' (((with_reducible apply aN);(·rfl)))
  refine au ?_
  skip
  refine au ?_
  skip
  refine au ?_
  skip
  refine x_ (fun ds=>ds=[B (kd==3),B (kd==3)]) ?_ ?_
  ·rcases k23 with rfl | rfl
   ·repeat' (first|(apply aH;rfl;exact rfl)|(apply aK;rfl;exact rfl)|(apply aD;rfl;simp only[ai];rfl)|refine au ?_|(apply av;rfl;rfl)|refine Qav ?_|(refine aB (by decide) ?_))
    all_goals exact rfl
   ·repeat' (first|(apply bp;simp only[ai];rfl)|(apply aH;rfl;exact rfl)|(apply aD;rfl;simp only[ai];rfl)|refine au ?_|(apply av;rfl;rfl)|refine Qav ?_|refine kj rfl ?_)
    all_goals exact rfl
  rintro _ rfl
  refine⟨rfl,?_⟩
  repeat' (first|(apply ar;rfl;exact ak;simp only[ai];rfl)|(apply aF;rfl;rfl;exact LB;rfl;simp only[ai];rfl)|refine au ?_)
  refine bf (fun k=>[Kys (abo l kd i b (b.take k)),In k]) (fun _=>True) b.length rfl (fun _=>rfl) trivial (fun k hk _ R hR=>?_) (fun _ R=>?_)
  ·have hlk:decide ((k:Int)<(b.length:Int))=true:=by simp;omega
   have hbk:=hmb b[k] (List.getElem_mem hk)
   have hR:=hR trivial
   rw[ahA hk] at hR
   have hl0:=iK (L:=lp (jO l i b)) (i:=0) (by omega)
   rw[hle] at hl0
   have Yx:=c66 (bs:=bs) (p:=p) hbk.1 hbk.2
   have BF:=afO (l:=l) (kd:=kd) (i:=i) (b0:=b) (b:=b.take k)
   have hal:(abo l kd i b (b.take k)).length≤100000:=by simp at BF;omega
   have ha:=nD _ (1,b[k],i) hal
   generalize abo l kd i b (b.take k)=F at *
   cases hq:(kd==2||oC l i b[k]==least l i b)
   ·rw[if_neg (by rw[hq];decide)] at hR
    repeat' (first|(apply bp;simp only[ai];rfl)|(apply aH;rfl;exact hlk)|(apply aK;rfl;exact hq)|(apply aN;rfl)|(apply aA;rfl;rfl;(·first|exact kr hk|exact hl0);simp only[ai];rfl)|(apply aW;rfl;omega;simp only[ai];rfl)|(apply aD;rfl;simp only[ai];rfl)|(apply aF;rfl;rfl;(·first|exact Yx|exact Te);rfl;simp only[ai];rfl)|(apply bL;rfl)|refine au ?_|(apply av;rfl;rfl)|refine Qav ?_|refine kj rfl ?_|exact aq rfl rfl|(intro hz;(try simp only[bA] at hz)))
    exact hR
   ·rw[if_pos hq] at hR
    repeat' (first|(apply bp;simp only[ai];rfl)|(apply aH;rfl;(·first|exact hlk|exact hq))|(apply aN;rfl)|(apply aA;rfl;rfl;(·first|exact kr hk|exact hl0);simp only[ai];rfl)|(apply mV;rfl;rfl;exact ha;simp only[ai];rfl)|(apply aW;rfl;omega;simp only[ai];rfl)|(apply aD;rfl;simp only[ai];rfl)|(apply aF;rfl;rfl;(·first|exact Yx|exact Te);rfl;simp only[ai];rfl)|(apply bL;rfl)|refine au ?_|(apply av;rfl;rfl)|refine Qav ?_|refine kj rfl ?_|exact aq rfl rfl|(intro hz;(try simp only[bA] at hz)))
    exact hR
  ·have hlf:decide ((b.length:Int)<(b.length:Int))=false:=by simp
   rw[List.take_length]
   repeat' (first|(apply bp;simp only[ai];rfl)|(apply aK;rfl;exact hlf)|(apply aD;rfl;simp only[ai];rfl)|(apply av;rfl;rfl)|refine Qav ?_|(refine aB (by decide) ?_)|refine kj rfl ?_|exact aq rfl rfl)
 have n2:(kd==2)=false:=by simp;omega
 have n3:(kd==3)=false:=by simp;omega
 by_cases k6:kd=6
 ·subst k6
  have e:aa4 p l 6 aO i=(tH p (cd l aO) i).map fun k:Nat=>((6:Int),(aO:Int),(k:Int)):=rfl
  rw[e]
  have amn:=am5 (bs:=bs) hc (m:=(i:Int)-1) (n:=i) (by omega) (by omega) hh.1.2 cF
  have hjl:=UG (p:=p) (c:=cd l aO) (n:=i)
  generalize tH p (cd l aO) i=b at *
  repeat' (first|(apply bp;simp only[ai];rfl)|(apply aH;rfl;exact rfl)|(apply aK;rfl;exact rfl)|(apply aN;rfl)|(apply ar;rfl;exact ak;simp only[ai];rfl)|(apply cC;rfl;rfl;omega;simp only[ai];rfl)|(apply aD;rfl;simp only[ai];rfl)|(apply aF;rfl;rfl;exact amn;rfl;simp only[ai];rfl)|refine au ?_|(apply av;rfl;rfl)|refine Qav ?_|(refine aB (by decide) ?_)|refine kj rfl ?_)
  refine bf (fun k=>[Kys ((b.take k).map fun k:Nat=>((6:Int),(aO:Int),(k:Int))),In k]) (fun _=>True) b.length rfl (fun _=>rfl) trivial (fun k hk _ R hR=>?_) (fun _ R=>?_)
  ·have hlk:decide ((k:Int)<(b.length:Int))=true:=by simp;omega
   have hR:=hR trivial
   rw[ah2 hk] at hR
   have hal:((b.take k).map fun k:Nat=>((6:Int),(aO:Int),(k:Int))).length≤100000:=by simp;omega
   have ha:=nD _ (6,aO,b[k]) hal
   generalize((b.take k).map fun k:Nat=>((6:Int),(aO:Int),(k:Int)))=F at *
   repeat' (first|(apply bp;simp only[ai];rfl)|(apply aH;rfl;exact hlk)|(apply aA;rfl;rfl;exact kr hk;simp only[ai];rfl)|(apply mV;rfl;rfl;exact ha;simp only[ai];rfl)|(apply aW;rfl;omega;simp only[ai];rfl)|(apply aD;rfl;simp only[ai];rfl)|refine au ?_|(apply av;rfl;rfl)|refine Qav ?_|refine kj rfl ?_)
   exact hR
  ·have hlf:decide ((b.length:Int)<(b.length:Int))=false:=by simp
   rw[List.take_length]
   repeat' (first|(apply bp;simp only[ai];rfl)|(apply aK;rfl;exact hlf)|(apply aD;rfl;simp only[ai];rfl)|(apply av;rfl;rfl)|refine Qav ?_|(refine aB (by decide) ?_)|refine kj rfl ?_|exact aq rfl rfl)
 have n6:(kd==6)=false:=by simp[k6]
 by_cases k7:kd=7
 ·subst k7
  have e:aa4 p l 7 aO i=abD p l aO p.n:=rfl
  rw[e]
  repeat' (first|(apply bp;simp only[ai];rfl)|(apply aH;rfl;exact rfl)|(apply aK;rfl;exact rfl)|(apply aN;rfl)|(apply ar;rfl;exact cT;simp only[ai];rfl)|(apply aD;rfl;simp only[ai];rfl)|refine au ?_|(apply av;rfl;rfl)|refine Qav ?_|(refine aB (by decide) ?_)|refine kj rfl ?_)
  refine bf (fun k=>[Kys (abD p l aO k),In k]) (fun _=>True) p.n rfl (fun _=>rfl) trivial (fun k hk _ R hR=>?_) (fun _ R=>?_)
  ·have hlk:decide ((k:Int)<(p.n:Int))=true:=by simp;omega
   have hR:=hR trivial
   have hfl:=adv (p:=p) (l:=l) (aO:=aO) (n:=k)
   rw[acD,←want_eq hok hc hk cF] at hR
   generalize abD p l aO k=F at *
   repeat' (first|(apply bp;simp only[ai];rfl)|(apply aH;rfl;exact hlk)|(apply aD;rfl;simp only[ai];rfl)|refine au ?_)
   refine bf (fun j=>[Kys (F++(kTo p l aO k j).map fun kd=>(kd,(aO:Int),(k:Int))),I ((j:Int)+1)]) (fun _=>True) 6 (by simp only[kTo,List.range_zero,List.map_nil,List.filter_nil,List.append_nil];rfl) (fun _=>rfl) trivial (fun j hj _ R2 k_=>?_) (fun _ R2=>?_)
   ·have hlj:decide ((j:Int)+1≤6)=true:=by simp;omega
    have k_:=k_ trivial
    rw[aiu] at k_
    have k9:=ai2 (p:=p) (l:=l) (aO:=aO) (i:=k) (k:=j)
    have h4:=al9 k hk ((j:Int)+1)
    cases hq:(aaV p l ((j:Int)+1) aO k).2
    ·rw[if_neg (by rw[hq];decide)] at k_
     rw[hq] at h4
     repeat' (first|(apply bp;simp only[ai];rfl)|(apply aH;rfl;exact hlj)|(apply aK;rfl;exact rfl)|(apply aN;rfl)|(apply bM;rfl;rfl;omega;simp only[ai];rfl)|(apply aD;rfl;simp only[ai];rfl)|(apply aF;rfl;rfl;exact h4;rfl;simp only[ai];rfl)|refine au ?_|(apply av;rfl;rfl)|refine Qav ?_|refine kj rfl ?_)
     exact k_
    ·rw[if_pos hq,List.map_append,List.map_cons,List.map_nil,←List.append_assoc] at k_
     rw[hq] at h4
     have hal:(F++(kTo p l aO k j).map fun kd=>(kd,(aO:Int),(k:Int))).length≤100000:=by simp;omega
     have ha:=nD _ ((j:Int)+1,aO,k) hal
     generalize(F++(kTo p l aO k j).map fun kd=>(kd,(aO:Int),(k:Int)))=G at *
     repeat' (first|(apply bp;simp only[ai];rfl)|(apply aH;rfl;(·first|exact hlj|exact rfl))|(apply aN;rfl)|(apply mV;rfl;rfl;exact ha;simp only[ai];rfl)|(apply bM;rfl;rfl;omega;simp only[ai];rfl)|(apply aD;rfl;simp only[ai];rfl)|(apply aF;rfl;rfl;exact h4;rfl;simp only[ai];rfl)|refine au ?_|(apply av;rfl;rfl)|refine Qav ?_|refine kj rfl ?_)
     exact k_
   ·have hlf:decide (((6:Nat):Int)+1≤6)=false:=by decide
    repeat' (first|(apply bp;simp only[ai];rfl)|(apply aK;rfl;exact hlf)|(apply aW;rfl;omega;simp only[ai];rfl)|(apply aD;rfl;simp only[ai];rfl)|(apply av;rfl;rfl)|refine Qav ?_|(refine aB (by decide) ?_)|refine kj rfl ?_)
    exact hR
  ·have hlf:decide ((p.n:Int)<(p.n:Int))=false:=by simp
   repeat' (first|(apply bp;simp only[ai];rfl)|(apply aK;rfl;exact hlf)|(apply aD;rfl;simp only[ai];rfl)|(apply av;rfl;rfl)|refine Qav ?_|(refine aB (by decide) ?_)|refine kj rfl ?_|exact aq rfl rfl)
 have n7:(kd==7)=false:=by simp[k7]
 have e:aa4 p l kd aO i=[]:=by
  unfold aa4
  rw[if_neg k23,if_neg k6,if_neg k7]
 rw[e]
 repeat' (first|(apply bp;simp only[ai];rfl)|(apply aK;rfl;(·first|exact n2|exact n3|exact n6|exact n7))|(apply aN;rfl)|(apply aD;rfl;simp only[ai];rfl)|refine au ?_|(apply av;rfl;rfl)|refine Qav ?_|(refine aB (by decide) ?_)|refine kj rfl ?_|exact aq rfl rfl)
end

section
open Go.Proofs
set_option maxRecDepth 100000
set_option maxHeartbeats 4000000

attribute [local irreducible] gR fV dQ

variable {bs:List D} {p:aL} {l:List aS} {d:List Tal}

/-! ## a map of what lines are about -/

abbrev MK:Kd:=.agg [0,0,0]
def om (ks:List Key):List D:=ks.map fun k=>.bh [kyD k,B true]

theorem key_eq (a b:Key):D.Ea MK (kyD a) (kyD b)=some (a==b):=by
 have e:(a==b)=((a.1==b.1)&&((a.2.1==b.2.1)&&((a.2.2==b.2.2)&&true))):=by
  rw[Bool.eq_iff_iff]
  obtain⟨a1,a2,a3⟩:=a
  obtain⟨b1,b2,b3⟩:=b
  simp
 rw[e]
 rfl

theorem afe (k:Key):∀(ks:List Key) (n:Nat),D.Kx MK (kyD k) (om ks) n=some (if k∈ks then some (n+ks.idxOf k,B true) else none)
 | [],n=>by simp[om,D.Kx]
 | a :: r,n=>by
  have ih:=afe k r (n+1)
  unfold om at ih ⊢
  rw[List.map_cons,D.Kx,key_eq]
  by_cases h:k=a
  ·subst h
   simp
  ·have h1:(k==a)=false:=by simpa using h
   have h2:(a==k)=false:=by simpa using fun e=>h e.symm
   simp only[h1]
   rw[ih]
   by_cases hm:k∈r
   ·have:List.idxOf k (a :: r)=r.idxOf k+1:=by
     rw[List.idxOf_cons,h2]
     rfl
    rw[if_pos hm,if_pos (List.mem_cons_of_mem _ hm),this,show n+1+r.idxOf k=n+(r.idxOf k+1) by omega]
   ·rw[if_neg hm,if_neg (by simp[h,hm])]

theorem acW (k:Key)(ks:List Key):D.uD MK (kyD k) (om ks)=some (if k∈ks then some (ks.idxOf k,B true) else none):=by
 unfold D.uD
 rw[if_pos (show D.P9 MK (kyD k)=true from rfl),afe,Nat.zero_add]

theorem afQ:∀ks:List Key,D.kept (om ks)=om ks
 | []=>rfl
 | _ :: _=>rfl

def mkB (j:Nat)(ks:List Key):List D:=if j=0 then om ks else .bh [] :: om ks

theorem agi (j:Nat)(ks:List Key):D.kept (mkB j ks)=om ks:=by
 unfold mkB
 split
 ·exact afQ ks
 ·rfl

theorem acL {k:Key}{ks:List Key}(h:k∉ks):D.m4 (.put MK) (.st [.iE (om ks)]) (.mp 0) (kyD k) (B true)=some (.st [.iE (om (ks++[k]))]):=by
 have h1:=acW k ks
 rw[if_neg h] at h1
 have:=aj2 (pre:=[]) (u:=B true) h1
 unfold om at this ⊢
 rw[List.map_append]
 exact this

theorem afj {ks:List Key}{x y:D}:D.m4 .aaC (.st [.iE (om ks)]) (.mp 0) x y=some (I ks.length):=by
 simp only[D.m4,D.entries,List.getElem?_cons_zero,afQ,Option.map_some]
 unfold om
 rw[List.length_map]

theorem acP {k:Key}{j:Nat}{ks:List Key}:D.m4 (.get MK false) (.st [.iE (mkB j ks)]) (.mp 0) (kyD k) (B false)=some (B (decide (k∈ks))):=by
 simp only[D.m4,D.entries,List.getElem?_cons_zero,agi,Option.bind_some,acW]
 by_cases h:k∈ks
 ·simp[h,D.one]
 ·simp[h,D.one]

theorem acR {α β:Type}(f:α→β):∀(l:List α) (n:Nat),(l.map f).eraseIdx n=(l.eraseIdx n).map f
 | [],_=>rfl
 | _ :: _,0=>rfl
 | a :: r,n+1=>by
  simp only[List.map_cons,List.eraseIdx_cons_succ]
  rw[acR f r n]

theorem ahL (k:Key)(ks:List Key):(om ks).eraseIdx (ks.idxOf k)=om (ks.erase k):=by
 unfold om
 rw[List.erase_eq_eraseIdx_of_idxOf rfl,acR]

theorem ah7 {k:Key}{j:Nat}{ks:List Key}{x:D}(h:k∈ks):D.m4 (.del MK) (.st [.iE (mkB j ks)]) (.mp 0) (kyD k) x=some (.st [.iE (mkB (j+1) (ks.erase k))]):=by
 simp only[D.m4,D.aj1,List.getElem?_cons_zero,agi,acW,if_pos h,Option.map_some,ahL]
 rfl

theorem adS {f:Nat→Bool}:∀{n:Nat},(List.range n).all f=false→∃j:Nat,j<n∧f j=false∧∀k,k<j→f k=true
 | 0,h=>by simp at h
 | n+1,h=>by
  rw[all_succ] at h
  cases hn:(List.range n).all f
  ·obtain⟨j,h1,h2,h3⟩:=adS hn
   exact⟨j,by omega,h2,h3⟩
  ·rw[hn,Bool.true_and] at h
   exact⟨n,by omega,h,fun k hk=>List.all_eq_true.1 hn k (List.mem_range.2 hk)⟩

theorem afM {aa1:List Key}{frm:List Int}{j:Nat}(hj:j<frm.length):acC d aa1 frm (j+1)=(acC d aa1 frm j).erase (tl d (frm.getD j 0).toNat).key:=by
 unfold acC
 rw[abI hj,List.foldl_append]
 rfl

theorem ac1 {L:List Int}{j:Nat}(h0:0<j)(h:j-1<L.length):D.aj 1 (Is L) (I ((j:Int)-1))=some (.ptr [I (L.getD (j-1) 0)]):=by
 have e:In (j-1)=I ((j:Int)-1):=by
  show I _=I _
  rw[show((j-1:Nat):Int)=(j:Int)-1 by omega]
 rw[←e]
 exact iK h


theorem af0 (kd:Int)(ks:List Key):(if kd=3 then(if(ks.length:Int)<1 then(ks.length:Int) else 1) else ks.length)=abt kd ks:=by
 unfold abt
 split
 ·split <;> split <;> omega
 ·rfl




theorem aq_ (hp:p.Ok)(hok:p.ok=true)(hc:br p l=true)(hL:d.length≤100000){i:Nat}(hi:i<d.length)(hfl:(tl d i).frm.length≤maxLen):∃st,bk Tryz.prog 91 (.st []) [iW p l,abE d,In i] (B (abj p l d i)) (.st st):=by
 have hh:=aL.gi hok
 have hcs:=(cr hc).1
 have af1:=Ft (bs:=[]) (tl d i).aO 0 (l.length-1)
 have Lw:=Ft (bs:=[]) (tl d i).item 0 (p.n-1)
 cases h1:gR (tl d i).aO 0 (l.length-1)
 ·rw[h1] at af1
  have e:abj p l d i=false:=by simp[abj,h1]
  rw[e]
  refine⟨[],?_⟩
  refine aid.W rfl ?_
  unfold u91
  simp only[aC,aG,List.cons_append,List.nil_append]
  repeat' (first|(apply bp;simp only[ai];rfl)|(apply iF;rfl;exact rfl)|(apply aH;rfl;exact rfl)|(apply aN;rfl)|(apply aA;rfl;rfl;exact abe hi;simp only[ai];rfl)|(apply ar;rfl;exact ak;simp only[ai];rfl)|(apply cC;rfl;rfl;omega;simp only[ai];rfl)|(apply aD;rfl;simp only[ai];rfl)|(apply aF;rfl;rfl;exact af1;rfl;simp only[ai];rfl)|exact aq rfl rfl)
 cases h2:gR (tl d i).item 0 (p.n-1)
 ·rw[h1] at af1
  rw[h2] at Lw
  have e:abj p l d i=false:=by simp[abj,h2]
  rw[e]
  refine⟨[],?_⟩
  refine aid.W rfl ?_
  unfold u91
  simp only[aC,aG,List.cons_append,List.nil_append]
  repeat' (first|(apply bp;simp only[ai];rfl)|(apply aH;rfl;exact rfl)|(apply aN;rfl)|(apply aA;rfl;rfl;exact abe hi;simp only[ai];rfl)|(apply ar;rfl;exact cT;simp only[ai];rfl)|(apply ar;rfl;exact ak;simp only[ai];rfl)|(apply cC;rfl;rfl;omega;simp only[ai];rfl)|(apply aD;rfl;simp only[ai];rfl)|(apply aF;rfl;rfl;(·first|exact af1|exact Lw);rfl;simp only[ai];rfl)|(apply bL;rfl)|exact aq rfl rfl|(intro hz;(try simp only[bA] at hz)))
 have r1:=iG h1
 have r2:=iG h2
 obtain⟨aO,cF,hxc⟩:∃aO:Nat,aO<l.length∧(tl d i).aO=aO:=⟨(tl d i).aO.toNat,by omega,by omega⟩
 obtain⟨it,hit,hxi⟩:∃it:Nat,it<p.n∧(tl d i).item=it:=⟨(tl d i).item.toNat,by omega,by omega⟩
 rw[h1] at af1
 rw[h2] at Lw
 have hval:abj p l d i=(((aaV p l (tl d i).kind aO it).2&&(aaV p l (tl d i).kind aO it).1==(tl d i).val)&&((((tl d i).frm.length:Int)==abt (tl d i).kind (aa4 p l (tl d i).kind aO it)&&(List.range (tl d i).frm.length).all (okF d i (aa4 p l (tl d i).kind aO it) (tl d i).frm)))):=by
  unfold abj
  simp only
  rw[h1,h2,hxc,hxi]
  rfl
 rw[hval]
 have h94:=c94 (bs:=[]) hp hok hc hit cF (tl d i).kind
 unfold kyD at h94
 simp only at h94
 rw[←hxc,←hxi] at h94
 cases hv:((aaV p l (tl d i).kind aO it).2&&(aaV p l (tl d i).kind aO it).1==(tl d i).val)
 ·rw[Bool.false_and]
  have ht:((!(aaV p l (tl d i).kind aO it).2)||(aaV p l (tl d i).kind aO it).1 != (tl d i).val)=true:=by
   rw[bne,←Bool.not_and,hv]
   rfl
  refine⟨[],?_⟩
  refine aid.W rfl ?_
  unfold u91
  simp only[aC,aG,List.cons_append,List.nil_append]
  repeat' (first|(apply bp;simp only[ai];rfl)|(apply aH;rfl;exact ht)|(apply aK;rfl;exact rfl)|(apply aN;rfl)|(apply aA;rfl;rfl;exact abe hi;simp only[ai];rfl)|(apply ar;rfl;exact cT;simp only[ai];rfl)|(apply ar;rfl;exact ak;simp only[ai];rfl)|(apply cC;rfl;rfl;omega;simp only[ai];rfl)|(apply aD;rfl;simp only[ai];rfl)|(apply aF;rfl;rfl;(·first|exact af1|exact Lw|exact h94);rfl;simp only[ai];rfl)|(apply bL;rfl)|exact aq rfl rfl|(intro hz;(try simp only[bA] at hz)))
 rw[Bool.true_and]
 have hvf:((!(aaV p l (tl d i).kind aO it).2)||(aaV p l (tl d i).kind aO it).1 != (tl d i).val)=false:=by
  rw[bne,←Bool.not_and,hv]
  rfl
 have h95:=c95 (bs:=[.iE []]) hp hok hc hit cF (tl d i).kind
 unfold kyD at h95
 simp only at h95
 rw[←hxc,←hxi] at h95
 change aP Tryz.prog 95 _ _ (Kys _) at h95
 have hnd:=afc (kd:=(tl d i).kind) (i:=it) hok hc cF
 have BF:=ais (kd:=(tl d i).kind) (aO:=aO) hok hc hit
 generalize aa4 p l (tl d i).kind aO it=Q at *
 have hFL:(tl d i).frm.length≤9223372036854775807:=hfl
 have ajg:=abe hi
 unfold Tal.d at ajg
 generalize hF:(tl d i).frm=F at *
 clear hval
 by_cases hm:(F.length:Int)=abt (tl d i).kind Q
 ·have hmt:((F.length:Int)==abt (tl d i).kind Q)=true:=by simp[hm]
  have hmf:((F.length:Int) != abt (tl d i).kind Q)=false:=by simp[hm]
  rw[hmt,Bool.true_and]
  cases hall:(List.range F.length).all (okF d i Q F)
  ·obtain⟨j0,hj0,aiz,afs⟩:=adS hall
   refine⟨[.iE (mkB j0 (acC d Q F j0))],?_⟩
   refine aid.W rfl ?_
   unfold u91
   simp only[aC,aG,List.cons_append,List.nil_append]
   repeat' (first|(apply bp;simp only[ai];rfl)|(apply aK;rfl;(·first|exact rfl|exact hvf))|(apply aN;rfl)|(apply aA;rfl;rfl;exact ajg;simp only[ai];rfl)|(apply ar;rfl;exact cT;simp only[ai];rfl)|(apply ar;rfl;exact ak;simp only[ai];rfl)|(apply cC;rfl;rfl;omega;simp only[ai];rfl)|(apply aD;rfl;simp only[ai];rfl)|(apply aF;rfl;rfl;(·first|exact af1|exact Lw|exact h94|exact h95);rfl;simp only[ai];rfl)|(apply bL;rfl)|exact aq rfl rfl|(intro hz;(try simp only[bA] at hz)))
   refine x_ (fun ds=>ds=[.st [.iE (om Q)]]) ?_ ?_
   ·refine bf (fun k=>[In k,.st [.iE (om (Q.take k))]]) (fun _=>True) Q.length rfl (fun _=>rfl) trivial (fun k hk _ R hR=>?_) (fun _ R=>?_)
    ·have hlk:decide ((k:Int)<(Q.length:Int))=true:=by simp;omega
     have hR:=hR trivial
     have hkt:(Q.take (k+1))=Q.take k++[Q[k]]:=by
      rw[List.take_add_one,List.getElem?_eq_getElem hk]
      rfl
     have hni:Q[k]∉Q.take k:=by
      intro hm
      have h:=hnd.sublist (List.take_sublist (k+1) Q)
      rw[hkt] at h
      exact(List.nodup_append.1 h).2.2 _ hm _ (List.mem_singleton.2 rfl) rfl
     have hpt:=acL hni
     rw[hkt] at hR
     have IS:D.aj 3 (Kys Q) (In k)=some (.ptr (kyD Q[k]).cells):=b_ hk rfl
     unfold kyD at hpt IS
     repeat' (first|(apply bp;simp only[ai];rfl)|(apply aH;rfl;exact hlk)|(apply aN;rfl)|(apply aA;rfl;rfl;exact IS;simp only[ai];rfl)|(apply Xg;rfl;rfl;rfl;rfl;exact hpt;simp only[ai];rfl)|(apply aW;rfl;omega;simp only[ai];rfl)|(apply aD;rfl;simp only[ai];rfl)|refine au ?_|(apply av;rfl;rfl)|refine Qav ?_|refine kj rfl ?_)
     exact hR
    ·have hlf:decide ((Q.length:Int)<(Q.length:Int))=false:=by simp
     rw[List.take_length]
     repeat' (first|(apply bp;simp only[ai];rfl)|(apply aK;rfl;exact hlf)|(apply aD;rfl;simp only[ai];rfl)|(apply av;rfl;rfl)|refine Qav ?_|(refine aB (by decide) ?_))
     exact rfl
   rintro _ rfl
   refine⟨rfl,?_⟩
   repeat' (first|(apply Xg;rfl;rfl;rfl;rfl;exact afj;simp only[ai];rfl)|(apply aD;rfl;simp only[ai];rfl))
   refine x_ (fun ds=>ds=[I (abt (tl d i).kind Q)]) ?_ ?_
   ·rw[←af0]
    by_cases k3:(tl d i).kind=3
    ·have ht:((tl d i).kind==3)=true:=by simp[k3]
     rw[if_pos k3]
     repeat' (first|(apply aH;rfl;exact ht)|(apply aD;rfl;simp only[ai];rfl)|(apply av;rfl;rfl)|refine Qav ?_)
     exact rfl
    ·have hf:((tl d i).kind==3)=false:=by simp[k3]
     rw[if_neg k3]
     repeat' (first|(apply aK;rfl;exact hf)|(apply av;rfl;rfl)|refine Qav ?_)
     exact rfl
   rintro _ rfl
   refine⟨rfl,?_⟩
   repeat' (first|(apply aK;rfl;exact hmf)|(apply ar;rfl;exact ak;simp only[ai];rfl)|(apply aD;rfl;simp only[ai];rfl)|refine au ?_)
   refine bf (fun j=>[In j,.st [.iE (mkB j (acC d Q F j))]]) (fun j=>j≤j0) F.length rfl (fun _=>rfl) (Nat.zero_le _) (fun j hj hJ R hR=>?_) (fun hJ R=>?_)
   ·rcases Nat.lt_or_ge j j0 with hlt | hge
    ·have hok:=afs j hlt
     have hR:=hR (by omega)
     rw[afM hj] at hR
     have h46:=Ft (bs:=[.iE (mkB j (acC d Q F j))]) (F.getD j 0) 0 ((i:Int)-1)
     unfold okF at hok
     simp only[Bool.and_eq_true,Bool.or_eq_true,beq_iff_eq,decide_eq_true_eq] at hok
     obtain⟨o1,o2,o3⟩:=hok
     rw[o1] at h46
     have b1:=iG o1
     obtain⟨f,hff⟩:∃f:Nat,F.getD j 0=f:=⟨(F.getD j 0).toNat,by omega⟩
     have hfd:f<d.length:=by omega
     have hgd:=iK hj
     rw[hff] at hgd h46 o3 hR
     rw[Int.toNat_natCast] at o3 hR
     have hgm:=acP (j:=j) (k:=(tl d f).key) (ks:=acC d Q F j)
     rw[decide_eq_true o3] at hgm
     have FO:=ah7 (j:=j) (x:=.agg []) o3
     unfold kyD Tal.key at hgm FO
     simp only at hgm FO
     have hlj:decide ((j:Int)<(F.length:Int))=true:=by simp;omega
     have hc1:(decide ((j:Int) > 0)&&decide ((f:Int)≤F.getD (j-1) 0))=false:=by
      rw[Bool.and_eq_false_iff,decide_eq_false_iff_not,decide_eq_false_iff_not]
      rw[hff] at o2
      omega
     rcases Nat.eq_zero_or_pos j with h0 | h0
     ·have hj0:decide ((j:Int) > 0)=false:=by simp;omega
      repeat' (first|(apply bp;simp only[ai];rfl)|(apply ir;rfl;exact hj0)|(apply aH;rfl;exact hlj)|(apply aK;rfl;exact rfl)|(apply aN;rfl)|(apply aA;rfl;rfl;(·first|exact hgd|exact abe hfd);simp only[ai];rfl)|(apply Xg;rfl;rfl;rfl;rfl;(·first|exact hgm|exact FO);simp only[ai];rfl)|(apply aW;rfl;omega;simp only[ai];rfl)|(apply cC;rfl;rfl;omega;simp only[ai];rfl)|(apply aD;rfl;simp only[ai];rfl)|(apply aF;rfl;rfl;exact h46;rfl;simp only[ai];rfl)|(apply bL;rfl)|refine au ?_|(apply av;rfl;rfl)|refine Qav ?_|refine kj rfl ?_|exact aq rfl rfl|(intro hz;(try simp only[bA] at hz)))
      exact hR
     ·have hj0:decide ((j:Int) > 0)=true:=by simp;omega
      have hg2:=ac1 (L:=F) (j:=j) (by omega) (by omega)
      repeat' (first|(apply bp;simp only[ai];rfl)|(apply aH;rfl;exact hlj)|(apply aK;rfl;(·first|exact rfl|exact hc1))|(apply aN;rfl)|(apply aA;rfl;rfl;(·first|exact hgd|exact hg2|exact abe hfd);simp only[ai];rfl)|(apply Xg;rfl;rfl;rfl;rfl;(·first|exact hgm|exact FO);simp only[ai];rfl)|(apply bM;rfl;rfl;omega;simp only[ai];rfl)|(apply cC;rfl;rfl;omega;simp only[ai];rfl)|(apply aD;rfl;simp only[ai];rfl)|(apply aF;rfl;rfl;exact h46;rfl;simp only[ai];rfl)|(apply bL;rfl)|(apply bg;rfl)|refine au ?_|(apply av;rfl;rfl)|refine Qav ?_|refine kj rfl ?_|exact aq rfl rfl|(intro hz;(try simp only[bA] at hz)))
      exact hR
    ·obtain rfl:j=j0:=by omega
     have hlj:decide ((j:Int)<(F.length:Int))=true:=by simp;omega
     have h46:=Ft (bs:=[.iE (mkB j (acC d Q F j))]) (F.getD j 0) 0 ((i:Int)-1)
     have hgd:=iK hj
     cases o1:gR (F.getD j 0) 0 ((i:Int)-1)
     ·rw[o1] at h46
      repeat' (first|(apply bp;simp only[ai];rfl)|(apply iF;rfl;exact rfl)|(apply aH;rfl;(·first|exact hlj|exact rfl))|(apply aA;rfl;rfl;exact hgd;simp only[ai];rfl)|(apply cC;rfl;rfl;omega;simp only[ai];rfl)|(apply aD;rfl;simp only[ai];rfl)|(apply aF;rfl;rfl;exact h46;rfl;simp only[ai];rfl)|refine au ?_|(apply aq;rfl;first|exact rfl|(refine bH ?_)|(refine bF ?_)|(refine bG ?_)))
     rw[o1] at h46
     have b1:=iG o1
     obtain⟨f,hff⟩:∃f:Nat,F.getD j 0=f:=⟨(F.getD j 0).toNat,by omega⟩
     have hfd:f<d.length:=by omega
     by_cases h2:0<j∧(f:Int)≤F.getD (j-1) 0
     ·have hj0:decide ((j:Int) > 0)=true:=by simp;omega
      have hg2:=ac1 (L:=F) (j:=j) (by omega) (by omega)
      rw[hff] at hgd h46
      have ht:(decide ((j:Int) > 0)&&decide ((f:Int)≤F.getD (j-1) 0))=true:=by
       rw[hj0,Bool.true_and]
       exact decide_eq_true h2.2
      repeat' (first|(apply bp;simp only[ai];rfl)|(apply aH;rfl;(·first|exact hlj|exact ht))|(apply aN;rfl)|(apply aA;rfl;rfl;(·first|exact hgd|exact hg2);simp only[ai];rfl)|(apply cC;rfl;rfl;omega;simp only[ai];rfl)|(apply aD;rfl;simp only[ai];rfl)|(apply aF;rfl;rfl;exact h46;rfl;simp only[ai];rfl)|(apply bL;rfl)|(apply bg;rfl)|refine au ?_|exact aq rfl rfl|(apply aq;rfl;first|exact rfl|(refine bH ?_)|(refine bF ?_)|(refine bG ?_))|(intro hz;(try simp only[bA] at hz)))
     have o3:(tl d f).key∉acC d Q F j:=by
      intro hm3
      unfold okF at aiz
      rw[o1,hff,Int.toNat_natCast,decide_eq_true hm3,Bool.true_and,Bool.and_true,Bool.or_eq_false_iff,beq_eq_false_iff_ne,decide_eq_false_iff_not] at aiz
      exact h2 ⟨by omega,by omega⟩
     rw[hff] at hgd h46
     have hgm:=acP (j:=j) (k:=(tl d f).key) (ks:=acC d Q F j)
     rw[decide_eq_false o3] at hgm
     unfold kyD Tal.key at hgm
     simp only at hgm
     have hc1:(decide ((j:Int) > 0)&&decide ((f:Int)≤F.getD (j-1) 0))=false:=by
      rw[Bool.and_eq_false_iff,decide_eq_false_iff_not,decide_eq_false_iff_not]
      omega
     rcases Nat.eq_zero_or_pos j with h0 | h0
     ·have hj0:decide ((j:Int) > 0)=false:=by simp;omega
      repeat' (first|(apply bp;simp only[ai];rfl)|(apply ir;rfl;exact hj0)|(apply aH;rfl;(·first|exact hlj|exact rfl))|(apply aK;rfl;exact rfl)|(apply aN;rfl)|(apply aA;rfl;rfl;(·first|exact hgd|exact abe hfd);simp only[ai];rfl)|(apply Xg;rfl;rfl;rfl;rfl;exact hgm;simp only[ai];rfl)|(apply cC;rfl;rfl;omega;simp only[ai];rfl)|(apply aD;rfl;simp only[ai];rfl)|(apply aF;rfl;rfl;exact h46;rfl;simp only[ai];rfl)|(apply bL;rfl)|refine au ?_|exact aq rfl rfl|(apply aq;rfl;first|exact rfl|(refine bH ?_)|(refine bF ?_)|(refine bG ?_))|(intro hz;(try simp only[bA] at hz)))
     ·have hg2:=ac1 (L:=F) (j:=j) (by omega) (by omega)
      repeat' (first|(apply bp;simp only[ai];rfl)|(apply aH;rfl;(·first|exact hlj|exact rfl))|(apply aK;rfl;exact hc1)|(apply aN;rfl)|(apply aA;rfl;rfl;(·first|exact hgd|exact hg2|exact abe hfd);simp only[ai];rfl)|(apply Xg;rfl;rfl;rfl;rfl;exact hgm;simp only[ai];rfl)|(apply cC;rfl;rfl;omega;simp only[ai];rfl)|(apply aD;rfl;simp only[ai];rfl)|(apply aF;rfl;rfl;exact h46;rfl;simp only[ai];rfl)|(apply bL;rfl)|(apply bg;rfl)|refine au ?_|exact aq rfl rfl|(apply aq;rfl;first|exact rfl|(refine bH ?_)|(refine bF ?_)|(refine bG ?_))|(intro hz;(try simp only[bA] at hz)))
   ·exfalso
    omega
  ·have afs:∀j,j<F.length→okF d i Q F j=true:=fun j hj=>List.all_eq_true.1 hall j (List.mem_range.2 hj)
   refine⟨[.iE (mkB F.length (acC d Q F F.length))],?_⟩
   refine aid.W rfl ?_
   unfold u91
   simp only[aC,aG,List.cons_append,List.nil_append]
   repeat' (first|(apply bp;simp only[ai];rfl)|(apply aK;rfl;(·first|exact rfl|exact hvf))|(apply aN;rfl)|(apply aA;rfl;rfl;exact ajg;simp only[ai];rfl)|(apply ar;rfl;exact cT;simp only[ai];rfl)|(apply ar;rfl;exact ak;simp only[ai];rfl)|(apply cC;rfl;rfl;omega;simp only[ai];rfl)|(apply aD;rfl;simp only[ai];rfl)|(apply aF;rfl;rfl;(·first|exact af1|exact Lw|exact h94|exact h95);rfl;simp only[ai];rfl)|(apply bL;rfl)|exact aq rfl rfl|(intro hz;(try simp only[bA] at hz)))
   refine x_ (fun ds=>ds=[.st [.iE (om Q)]]) ?_ ?_
   ·refine bf (fun k=>[In k,.st [.iE (om (Q.take k))]]) (fun _=>True) Q.length rfl (fun _=>rfl) trivial (fun k hk _ R hR=>?_) (fun _ R=>?_)
    ·have hlk:decide ((k:Int)<(Q.length:Int))=true:=by simp;omega
     have hR:=hR trivial
     have hkt:(Q.take (k+1))=Q.take k++[Q[k]]:=by
      rw[List.take_add_one,List.getElem?_eq_getElem hk]
      rfl
     have hni:Q[k]∉Q.take k:=by
      intro hm
      have h:=hnd.sublist (List.take_sublist (k+1) Q)
      rw[hkt] at h
      exact(List.nodup_append.1 h).2.2 _ hm _ (List.mem_singleton.2 rfl) rfl
     have hpt:=acL hni
     rw[hkt] at hR
     have IS:D.aj 3 (Kys Q) (In k)=some (.ptr (kyD Q[k]).cells):=b_ hk rfl
     unfold kyD at hpt IS
     repeat' (first|(apply bp;simp only[ai];rfl)|(apply aH;rfl;exact hlk)|(apply aN;rfl)|(apply aA;rfl;rfl;exact IS;simp only[ai];rfl)|(apply Xg;rfl;rfl;rfl;rfl;exact hpt;simp only[ai];rfl)|(apply aW;rfl;omega;simp only[ai];rfl)|(apply aD;rfl;simp only[ai];rfl)|refine au ?_|(apply av;rfl;rfl)|refine Qav ?_|refine kj rfl ?_)
     exact hR
    ·have hlf:decide ((Q.length:Int)<(Q.length:Int))=false:=by simp
     rw[List.take_length]
     repeat' (first|(apply bp;simp only[ai];rfl)|(apply aK;rfl;exact hlf)|(apply aD;rfl;simp only[ai];rfl)|(apply av;rfl;rfl)|refine Qav ?_|(refine aB (by decide) ?_))
     exact rfl
   rintro _ rfl
   refine⟨rfl,?_⟩
   repeat' (first|(apply Xg;rfl;rfl;rfl;rfl;exact afj;simp only[ai];rfl)|(apply aD;rfl;simp only[ai];rfl))
   refine x_ (fun ds=>ds=[I (abt (tl d i).kind Q)]) ?_ ?_
   ·rw[←af0]
    by_cases k3:(tl d i).kind=3
    ·have ht:((tl d i).kind==3)=true:=by simp[k3]
     rw[if_pos k3]
     repeat' (first|(apply aH;rfl;exact ht)|(apply aD;rfl;simp only[ai];rfl)|(apply av;rfl;rfl)|refine Qav ?_)
     exact rfl
    ·have hf:((tl d i).kind==3)=false:=by simp[k3]
     rw[if_neg k3]
     repeat' (first|(apply aK;rfl;exact hf)|(apply av;rfl;rfl)|refine Qav ?_)
     exact rfl
   rintro _ rfl
   refine⟨rfl,?_⟩
   repeat' (first|(apply aK;rfl;exact hmf)|(apply ar;rfl;exact ak;simp only[ai];rfl)|(apply aD;rfl;simp only[ai];rfl)|refine au ?_)
   refine bf (fun j=>[In j,.st [.iE (mkB j (acC d Q F j))]]) (fun j=>j≤F.length) F.length rfl (fun _=>rfl) (Nat.zero_le _) (fun j hj hJ R hR=>?_) (fun hJ R=>?_)
   ·have hok:=afs j hj
    have hR:=hR (by omega)
    rw[afM hj] at hR
    have h46:=Ft (bs:=[.iE (mkB j (acC d Q F j))]) (F.getD j 0) 0 ((i:Int)-1)
    unfold okF at hok
    simp only[Bool.and_eq_true,Bool.or_eq_true,beq_iff_eq,decide_eq_true_eq] at hok
    obtain⟨o1,o2,o3⟩:=hok
    rw[o1] at h46
    have b1:=iG o1
    obtain⟨f,hff⟩:∃f:Nat,F.getD j 0=f:=⟨(F.getD j 0).toNat,by omega⟩
    have hfd:f<d.length:=by omega
    have hgd:=iK hj
    rw[hff] at hgd h46 o3 hR
    rw[Int.toNat_natCast] at o3 hR
    have hgm:=acP (j:=j) (k:=(tl d f).key) (ks:=acC d Q F j)
    rw[decide_eq_true o3] at hgm
    have FO:=ah7 (j:=j) (x:=.agg []) o3
    unfold kyD Tal.key at hgm FO
    simp only at hgm FO
    have hlj:decide ((j:Int)<(F.length:Int))=true:=by simp;omega
    have hc1:(decide ((j:Int) > 0)&&decide ((f:Int)≤F.getD (j-1) 0))=false:=by
     rw[Bool.and_eq_false_iff,decide_eq_false_iff_not,decide_eq_false_iff_not]
     rw[hff] at o2
     omega
    rcases Nat.eq_zero_or_pos j with h0 | h0
    ·have hj0:decide ((j:Int) > 0)=false:=by simp;omega
     repeat' (first|(apply bp;simp only[ai];rfl)|(apply ir;rfl;exact hj0)|(apply aH;rfl;exact hlj)|(apply aK;rfl;exact rfl)|(apply aN;rfl)|(apply aA;rfl;rfl;(·first|exact hgd|exact abe hfd);simp only[ai];rfl)|(apply Xg;rfl;rfl;rfl;rfl;(·first|exact hgm|exact FO);simp only[ai];rfl)|(apply aW;rfl;omega;simp only[ai];rfl)|(apply cC;rfl;rfl;omega;simp only[ai];rfl)|(apply aD;rfl;simp only[ai];rfl)|(apply aF;rfl;rfl;exact h46;rfl;simp only[ai];rfl)|(apply bL;rfl)|refine au ?_|(apply av;rfl;rfl)|refine Qav ?_|refine kj rfl ?_|exact aq rfl rfl|(intro hz;(try simp only[bA] at hz)))
     exact hR
    ·have hj0:decide ((j:Int) > 0)=true:=by simp;omega
     have hg2:=ac1 (L:=F) (j:=j) (by omega) (by omega)
     repeat' (first|(apply bp;simp only[ai];rfl)|(apply aH;rfl;exact hlj)|(apply aK;rfl;(·first|exact rfl|exact hc1))|(apply aN;rfl)|(apply aA;rfl;rfl;(·first|exact hgd|exact hg2|exact abe hfd);simp only[ai];rfl)|(apply Xg;rfl;rfl;rfl;rfl;(·first|exact hgm|exact FO);simp only[ai];rfl)|(apply bM;rfl;rfl;omega;simp only[ai];rfl)|(apply cC;rfl;rfl;omega;simp only[ai];rfl)|(apply aD;rfl;simp only[ai];rfl)|(apply aF;rfl;rfl;exact h46;rfl;simp only[ai];rfl)|(apply bL;rfl)|(apply bg;rfl)|refine au ?_|(apply av;rfl;rfl)|refine Qav ?_|refine kj rfl ?_|exact aq rfl rfl|(intro hz;(try simp only[bA] at hz)))
     exact hR
   ·have hlf:decide ((F.length:Int)<(F.length:Int))=false:=by simp
    repeat' (first|(apply bp;simp only[ai];rfl)|(apply aK;rfl;exact hlf)|(apply aD;rfl;simp only[ai];rfl)|(apply av;rfl;rfl)|refine Qav ?_|(refine aB (by decide) ?_)|refine kj rfl ?_|exact aq rfl rfl)
 ·have hmt:((F.length:Int)==abt (tl d i).kind Q)=false:=by simp[hm]
  have hmf:((F.length:Int) != abt (tl d i).kind Q)=true:=by simp[hm]
  rw[hmt,Bool.false_and]
  refine⟨[.iE (om Q)],?_⟩
  refine aid.W rfl ?_
  unfold u91
  simp only[aC,aG,List.cons_append,List.nil_append]
  repeat' (first|(apply bp;simp only[ai];rfl)|(apply aK;rfl;(·first|exact rfl|exact hvf))|(apply aN;rfl)|(apply aA;rfl;rfl;exact ajg;simp only[ai];rfl)|(apply ar;rfl;exact cT;simp only[ai];rfl)|(apply ar;rfl;exact ak;simp only[ai];rfl)|(apply cC;rfl;rfl;omega;simp only[ai];rfl)|(apply aD;rfl;simp only[ai];rfl)|(apply aF;rfl;rfl;(·first|exact af1|exact Lw|exact h94|exact h95);rfl;simp only[ai];rfl)|(apply bL;rfl)|exact aq rfl rfl|(intro hz;(try simp only[bA] at hz)))
  refine x_ (fun ds=>ds=[.st [.iE (om Q)]]) ?_ ?_
  ·refine bf (fun k=>[In k,.st [.iE (om (Q.take k))]]) (fun _=>True) Q.length rfl (fun _=>rfl) trivial (fun k hk _ R hR=>?_) (fun _ R=>?_)
   ·have hlk:decide ((k:Int)<(Q.length:Int))=true:=by simp;omega
    have hR:=hR trivial
    have hkt:(Q.take (k+1))=Q.take k++[Q[k]]:=by
     rw[List.take_add_one,List.getElem?_eq_getElem hk]
     rfl
    have hni:Q[k]∉Q.take k:=by
     intro hm
     have h:=hnd.sublist (List.take_sublist (k+1) Q)
     rw[hkt] at h
     exact(List.nodup_append.1 h).2.2 _ hm _ (List.mem_singleton.2 rfl) rfl
    have hpt:=acL hni
    rw[hkt] at hR
    have IS:D.aj 3 (Kys Q) (In k)=some (.ptr (kyD Q[k]).cells):=b_ hk rfl
    unfold kyD at hpt IS
    repeat' (first|(apply bp;simp only[ai];rfl)|(apply aH;rfl;exact hlk)|(apply aN;rfl)|(apply aA;rfl;rfl;exact IS;simp only[ai];rfl)|(apply Xg;rfl;rfl;rfl;rfl;exact hpt;simp only[ai];rfl)|(apply aW;rfl;omega;simp only[ai];rfl)|(apply aD;rfl;simp only[ai];rfl)|refine au ?_|(apply av;rfl;rfl)|refine Qav ?_|refine kj rfl ?_)
    exact hR
   ·have hlf:decide ((Q.length:Int)<(Q.length:Int))=false:=by simp
    rw[List.take_length]
    repeat' (first|(apply bp;simp only[ai];rfl)|(apply aK;rfl;exact hlf)|(apply aD;rfl;simp only[ai];rfl)|(apply av;rfl;rfl)|refine Qav ?_|(refine aB (by decide) ?_))
    exact rfl
  rintro _ rfl
  refine⟨rfl,?_⟩
  repeat' (first|(apply Xg;rfl;rfl;rfl;rfl;exact afj;simp only[ai];rfl)|(apply aD;rfl;simp only[ai];rfl))
  refine x_ (fun ds=>ds=[I (abt (tl d i).kind Q)]) ?_ ?_
  ·rw[←af0]
   by_cases k3:(tl d i).kind=3
   ·have ht:((tl d i).kind==3)=true:=by simp[k3]
    rw[if_pos k3]
    repeat' (first|(apply aH;rfl;exact ht)|(apply aD;rfl;simp only[ai];rfl)|(apply av;rfl;rfl)|refine Qav ?_)
    exact rfl
   ·have hf:((tl d i).kind==3)=false:=by simp[k3]
    rw[if_neg k3]
    repeat' (first|(apply aK;rfl;exact hf)|(apply av;rfl;rfl)|refine Qav ?_)
    exact rfl
  rintro _ rfl
  refine⟨rfl,?_⟩
  repeat' (first|(apply aH;rfl;exact hmf)|(apply ar;rfl;exact ak;simp only[ai];rfl)|(apply aD;rfl;simp only[ai];rfl)|exact aq rfl rfl)
end

section
open Go.Proofs
set_option maxRecDepth 100000
set_option maxHeartbeats 4000000

attribute [local irreducible] gR fV dQ

variable {bs:List D} {p:aL} {c:aS} {l:List aS}
end

section
open Go.Proofs
set_option maxRecDepth 100000
set_option maxHeartbeats 4000000

attribute [local irreducible] gR fV dQ

variable {bs:List D} {p:aL} {l:List aS} {d:List Tal}

theorem agd (t:Tal):t.d.iw=true:=by
 simp only[Tal.d,D.iw,eG,jK (enc:=I) (fun _=>rfl),Bool.and_self]

theorem ah_:(abE d).iw=true:=by
 simp only[D.iw,jK (enc:=Tal.d) agd]

theorem c91 (hp:p.Ok)(hok:p.ok=true)(hc:br p l=true)(hL:d.length≤100000){i:Nat}(hi:i<d.length)(hfl:(tl d i).frm.length≤maxLen):aP Tryz.prog 91 (.st bs) [iW p l,abE d,In i] (B (abj p l d i)):=by
 obtain⟨st,h⟩:=aq_ hp hok hc hL hi hfl
 exact P6 h (by simp only[eG,I6,D.iw,jK (enc:=Tal.d) agd,Bool.and_self]) bs

theorem aiZ (p:aL):p.d.iw=true:=by
 simp only[aL.d,aL.cs,D.iw,eG,jK (enc:=I) (fun _=>rfl),jK (enc:=Item.d) (fun x=>rfl),Bool.and_self]

theorem afy:eG [p.d,dM l,abE d]=true:=by
 have h1:(abE d).iw=true:=ah_
 have h2:(dM l).iw=true:=tC l
 unfold eG eG eG eG
 rw[aiZ,h1,h2]
 rfl

theorem ahV (hp:p.Ok)(hl:Qbz l)(h:(p.ok&&br p l)=false):aP Tryz.prog 39 (.st bs) [p.d,dM l,abE d] (B false):=by
 have JM:=O4 (bs:=[]) hp hl h
 have hW:bk Tryz.prog 39 (.st []) [p.d,dM l,abE d] (B false) (.st []):=by
  refine alx.W rfl ?_
  unfold u39
  simp only[aC,aG,List.cons_append,List.nil_append]
  repeat' (first|(apply bp;simp only[ai];rfl)|(apply iF;rfl;exact rfl)|(apply aH;rfl;exact rfl)|(apply aN;rfl)|(apply aD;rfl;simp only[ai];rfl)|(apply aF;rfl;rfl;exact JM;rfl;simp only[ai];rfl)|exact aq rfl rfl)
 exact P6 hW afy bs



theorem aga (hp:p.Ok)(hl:Qbz l)(hok:p.ok=true)(hc:br p l=true)(hd:acH d)(hL:d.length≤100000):aP Tryz.prog 39 (.st bs) [p.d,dM l,abE d] (B (abl p l d d.length)):=by
 have JM:=zA (bs:=[]) hp hl hok hc
 have hLf:decide ((d.length:Int) > 100000)=false:=by simp;omega
 cases hall:abl p l d d.length
 ·obtain⟨j0,hj0,aiz,afs⟩:=adS hall
  have hW:bk Tryz.prog 39 (.st []) [p.d,dM l,abE d] (B false) (.st [.iE (om ((d.take j0).map Tal.key))]):=by
   refine alx.W rfl ?_
   unfold u39
   simp only[aC,aG,List.cons_append,List.nil_append]
   repeat' (first|(apply bp;simp only[ai];rfl)|(apply aK;rfl;exact hLf)|(apply aN;rfl)|(apply ar;rfl;exact ak;simp only[ai];rfl)|(apply aD;rfl;simp only[ai];rfl)|(apply aF;rfl;rfl;exact JM;rfl;simp only[ai];rfl)|(apply bL;rfl)|exact aq rfl rfl|(intro hz;(try simp only[bA] at hz)))
   refine au ?_
   refine bf (fun k=>[In k,.st [.iE (om ((d.take k).map Tal.key))]]) (fun k=>k≤j0) d.length rfl (fun _=>rfl) (Nat.zero_le _) (fun k hk hJ R hR=>?_) (fun hJ R=>?_)
   ·rcases Nat.lt_or_ge k j0 with hlt | hge
    ·have hgd:=afs k hlt
     simp only[Bool.and_eq_true,decide_eq_true_eq] at hgd
     have hR:=hR (by omega)
     rw[show d.take (k+1)=d.take k++[tl d k] by rw[List.take_add_one,afZ hk];rfl,List.map_append,List.map_cons,List.map_nil] at hR
     have h91:=c91 (bs:=[.iE (om ((d.take k).map Tal.key))]) hp hok hc hL hk (hd.2.1 _ (afU hk))
     rw[hgd.2] at h91
     have hgm:D.m4 (.get MK false) (.st [.iE (om ((d.take k).map Tal.key))]) (.mp 0) (kyD (tl d k).key) (B false)=some (B (decide ((tl d k).key∈(d.take k).map Tal.key))):=acP (j:=0)
     rw[decide_eq_false hgd.1] at hgm
     have hpm:=acL hgd.1
     unfold kyD Tal.key at hgm hpm
     simp only at hgm hpm
     have hlk:decide ((k:Int)<(d.length:Int))=true:=by simp;omega
     repeat' (first|(apply bp;simp only[ai];rfl)|(apply aH;rfl;exact hlk)|(apply aK;rfl;exact rfl)|(apply aN;rfl)|(apply aA;rfl;rfl;exact abe hk;simp only[ai];rfl)|(apply Xg;rfl;rfl;rfl;rfl;(·first|exact hgm|exact hpm);simp only[ai];rfl)|(apply aW;rfl;omega;simp only[ai];rfl)|(apply aD;rfl;simp only[ai];rfl)|(apply aF;rfl;rfl;exact h91;rfl;simp only[ai];rfl)|(apply bL;rfl)|refine au ?_|(apply av;rfl;rfl)|refine Qav ?_|refine kj rfl ?_|exact aq rfl rfl|(intro hz;(try simp only[bA] at hz)))
     exact hR
    ·obtain rfl:k=j0:=by omega
     have hgm:D.m4 (.get MK false) (.st [.iE (om ((d.take k).map Tal.key))]) (.mp 0) (kyD (tl d k).key) (B false)=some (B (decide ((tl d k).key∈(d.take k).map Tal.key))):=acP (j:=0)
     have hlk:decide ((k:Int)<(d.length:Int))=true:=by simp;omega
     by_cases hm:(tl d k).key∈(d.take k).map Tal.key
     ·rw[decide_eq_true hm] at hgm
      unfold kyD Tal.key at hgm
      simp only at hgm
      repeat' (first|(apply bp;simp only[ai];rfl)|(apply iF;rfl;exact rfl)|(apply aH;rfl;(·first|exact hlk|exact rfl))|(apply aN;rfl)|(apply aA;rfl;rfl;exact abe hk;simp only[ai];rfl)|(apply Xg;rfl;rfl;rfl;rfl;exact hgm;simp only[ai];rfl)|(apply aD;rfl;simp only[ai];rfl)|refine au ?_|(apply aq;rfl;first|exact rfl|(refine bH ?_)|(refine bF ?_)|(refine bG ?_)))
     ·rw[decide_eq_false hm] at hgm
      rw[decide_eq_true hm,Bool.true_and] at aiz
      have h91:=c91 (bs:=[.iE (om ((d.take k).map Tal.key))]) hp hok hc hL hk (hd.2.1 _ (afU hk))
      rw[aiz] at h91
      unfold kyD Tal.key at hgm
      simp only at hgm
      repeat' (first|(apply bp;simp only[ai];rfl)|(apply aH;rfl;(·first|exact hlk|exact rfl))|(apply aN;rfl)|(apply aA;rfl;rfl;exact abe hk;simp only[ai];rfl)|(apply Xg;rfl;rfl;rfl;rfl;exact hgm;simp only[ai];rfl)|(apply aD;rfl;simp only[ai];rfl)|(apply aF;rfl;rfl;exact h91;rfl;simp only[ai];rfl)|(apply bL;rfl)|refine au ?_|exact aq rfl rfl|(apply aq;rfl;first|exact rfl|(refine bH ?_)|(refine bF ?_)|(refine bG ?_))|(intro hz;(try simp only[bA] at hz)))
   ·exfalso
    omega
  exact P6 hW afy bs
 ·have afs:∀k,k<d.length→(decide ((tl d k).key∉(d.take k).map Tal.key)&&abj p l d k)=true:=fun k hk=>List.all_eq_true.1 hall k (List.mem_range.2 hk)
  have hW:bk Tryz.prog 39 (.st []) [p.d,dM l,abE d] (B true) (.st [.iE (om ((d.take d.length).map Tal.key))]):=by
   refine alx.W rfl ?_
   unfold u39
   simp only[aC,aG,List.cons_append,List.nil_append]
   repeat' (first|(apply bp;simp only[ai];rfl)|(apply aK;rfl;exact hLf)|(apply aN;rfl)|(apply ar;rfl;exact ak;simp only[ai];rfl)|(apply aD;rfl;simp only[ai];rfl)|(apply aF;rfl;rfl;exact JM;rfl;simp only[ai];rfl)|(apply bL;rfl)|exact aq rfl rfl|(intro hz;(try simp only[bA] at hz)))
   refine au ?_
   refine bf (fun k=>[In k,.st [.iE (om ((d.take k).map Tal.key))]]) (fun k=>k≤d.length) d.length rfl (fun _=>rfl) (Nat.zero_le _) (fun k hk hJ R hR=>?_) (fun hJ R=>?_)
   ·have hgd:=afs k hk
    simp only[Bool.and_eq_true,decide_eq_true_eq] at hgd
    have hR:=hR (by omega)
    rw[show d.take (k+1)=d.take k++[tl d k] by rw[List.take_add_one,afZ hk];rfl,List.map_append,List.map_cons,List.map_nil] at hR
    have h91:=c91 (bs:=[.iE (om ((d.take k).map Tal.key))]) hp hok hc hL hk (hd.2.1 _ (afU hk))
    rw[hgd.2] at h91
    have hgm:D.m4 (.get MK false) (.st [.iE (om ((d.take k).map Tal.key))]) (.mp 0) (kyD (tl d k).key) (B false)=some (B (decide ((tl d k).key∈(d.take k).map Tal.key))):=acP (j:=0)
    rw[decide_eq_false hgd.1] at hgm
    have hpm:=acL hgd.1
    unfold kyD Tal.key at hgm hpm
    simp only at hgm hpm
    have hlk:decide ((k:Int)<(d.length:Int))=true:=by simp;omega
    repeat' (first|(apply bp;simp only[ai];rfl)|(apply aH;rfl;exact hlk)|(apply aK;rfl;exact rfl)|(apply aN;rfl)|(apply aA;rfl;rfl;exact abe hk;simp only[ai];rfl)|(apply Xg;rfl;rfl;rfl;rfl;(·first|exact hgm|exact hpm);simp only[ai];rfl)|(apply aW;rfl;omega;simp only[ai];rfl)|(apply aD;rfl;simp only[ai];rfl)|(apply aF;rfl;rfl;exact h91;rfl;simp only[ai];rfl)|(apply bL;rfl)|refine au ?_|(apply av;rfl;rfl)|refine Qav ?_|refine kj rfl ?_|exact aq rfl rfl|(intro hz;(try simp only[bA] at hz)))
    exact hR
   ·have hlf:decide ((d.length:Int)<(d.length:Int))=false:=by simp
    repeat' (first|(apply bp;simp only[ai];rfl)|(apply aK;rfl;exact hlf)|(apply aD;rfl;simp only[ai];rfl)|(apply av;rfl;rfl)|refine Qav ?_|(refine aB (by decide) ?_)|refine kj rfl ?_|exact aq rfl rfl)
  exact P6 hW afy bs
end
end Go.Am.Sc
