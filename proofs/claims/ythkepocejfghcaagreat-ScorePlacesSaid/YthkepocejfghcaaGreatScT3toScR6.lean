/-
  Several texts, one behind the other.
-/
import Derived.Test.YthkepocejfghcaaGreatScC1toScShelf
import Derived.Test.YthkepocejfghcaaGreatAmSortUtoAmRow
import Derived.Test.YthkepocejfghcaaGreatAmFntoAmTabK
import Derived.Test.YthkepocejfghcaaGreatScCfgtoScAct
set_option linter.unusedSimpArgs false
set_option linter.unusedVariables false
namespace Go.Am.Sc
section
open Go.Proofs
set_option maxRecDepth 100000
set_option maxHeartbeats 4000000

attribute [local irreducible] gR fV dQ

variable {bs:List D} {p:aL} {c:aS} {l:List aS}

def outs (p:aL)(l:List aS):List Int:=l.map (kX p)

def LL (p:aL)(l:List aS)(s:D):List D:=[.bq (p.items.map Item.d),I p.dW,I p.late,I p.early,I p.jW,I p.jX,Is p.jumps,B p.ret,I p.mG,I p.ez,I p.jV,I p.power,Is p.points,Is p.extra,dM l,s]
def iW (p:aL)(l:List aS):D:=.ptr (LL p l (Is (outs p l)))

theorem yI {k:Nat}(h:k<l.length):D.aj 1 (Is (outs p l)) (In k)=some (.ptr [I (kX p (cd l k))]):=by
 have:=b_ (enc:=I) (sz:=1) (xs:=outs p l) (i:=k) (by simpa[outs] using h) rfl
 have e:(outs p l)[k]'(by simpa[outs] using h)=kX p (cd l k):=by simp[outs,cd,List.getD,h]
 rw[e] at this
 exact this

theorem c55 {k:Nat}(h:k<l.length)(i:Int):aP Tryz.prog 55 (.st bs) [iW p l,In k,I i] (B (gA p (cd l k) i)):=by
 refine aks.R rfl rfl ?_
 unfold u55
 simp only[aC,aG,List.cons_append,List.nil_append]
 repeat' (first|(apply bp;simp only[ai];rfl)|(apply aN;rfl)|(apply aA;rfl;rfl;exact yI h;simp only[ai];rfl)|(apply aD;rfl;simp only[ai];rfl)|(apply bL;rfl)|exact aq rfl rfl|(intro hz;(try simp only[bA] at hz)))

theorem c54 {i:Nat}(hi:i<p.n):aP Tryz.prog 54 (.st bs) [iW p l,In i] (B ((p.it i).kind==2)):=by
 refine akt.R rfl rfl ?_
 unfold u54
 simp only[aC,aG,List.cons_append,List.nil_append]
 repeat' (first|(apply aN;rfl)|(apply aA;rfl;rfl;exact dR hi;simp only[ai];rfl)|(apply aD;rfl;simp only[ai];rfl)|exact aq rfl rfl)

theorem c66 {k i:Nat}(hk:k<l.length)(hi:i<(cd l k).lines.length):aP Tryz.prog 66 (.st bs) [iW p l,In k,In i] (I (oC l i k)):=by
 refine akj.R rfl rfl ?_
 unfold u66
 simp only[aC,aG,List.cons_append,List.nil_append]
 repeat' (first|(apply aN;rfl)|(apply aA;rfl;rfl;(·first|exact cw hk|exact cQ hi);simp only[ai];rfl)|(apply aD;rfl;simp only[ai];rfl)|exact aq rfl rfl)


theorem am3 {P:aS→Bool}{f:Nat}{us cs:List D}{l:List aS}(hL:l.length≤maxLen)(hc:bJ Tryz.prog f=true)(hf:∀x,x∈l→aP Tryz.prog f (.st bs) (us++[aS.d x]++cs) (B (P x))):aP Tryz.prog 127 (.st bs) [.bq (l.map aS.d),.fn f us cs] (I (fi P l)):=by
 have hL':l.length≤9223372036854775807:=hL
 refine aeP.R rfl rfl ?_
 unfold ac_
 simp only[aC,aG,List.cons_append,List.nil_append]
 repeat' (first|(apply ar;rfl;exact ak;simp only[ai];rfl)|refine au ?_)
 refine bf (fun i=>[I i]) (fun i=>∀k (h:k<i) (h2:k<l.length),P l[k]=false) l.length rfl (fun _=>rfl) (fun k h=>absurd h (Nat.not_lt_zero _)) (fun i hi hJ R hR=>?_) (fun hJ R=>?_)
 ·have ku:=hf l[i] (List.getElem_mem hi)
  have gH:decide ((i:Int)<(l.length:Int))=true:=by simp;omega
  cases hP:P l[i]
  ·rw[hP] at ku
   repeat' (first|(apply bp;simp only[ai];rfl)|(apply aH;rfl;exact gH)|(apply aK;rfl;exact rfl)|(apply aA;rfl;rfl;exact b_ hi rfl;simp only[ai];rfl)|(apply bM;rfl;rfl;omega;simp only[ai];rfl)|(apply aD;rfl;simp only[ai];rfl)|(apply fJ;rfl;exact hc;rfl;rfl;exact ku;rfl;simp only[ai];rfl)|refine au ?_|(apply av;rfl;rfl)|refine Qav ?_|refine kj rfl ?_)
   refine hR fun k hk h2=>?_
   rcases Nat.lt_or_ge k i with h3 | h3
   ·exact hJ k h3 h2
   ·have e:k=i:=by omega
    subst e
    exact hP
  ·rw[hP] at ku
   repeat' (first|(apply bp;simp only[ai];rfl)|(apply aH;rfl;(·first|exact gH|exact rfl))|(apply aA;rfl;rfl;exact b_ hi rfl;simp only[ai];rfl)|(apply aD;rfl;simp only[ai];rfl)|(apply fJ;rfl;exact hc;rfl;rfl;exact ku;rfl;simp only[ai];rfl)|refine au ?_|(apply aq;rfl;first|exact rfl|(refine bH ?_)|(refine bF ?_)|(refine bG ?_)))
   exact(VX hi hP fun k hk=>hJ k hk (by omega)).symm
 ·repeat' (first|(apply bp;simp only[ai];rfl)|(apply aD;rfl;simp only[ai];rfl)|(apply av;rfl;rfl)|refine Qav ?_|(refine aB (by decide) ?_)|refine kj rfl ?_|(apply aX;rfl;all_goals (intro hz;(try simp only[bA] at hz);first|(exact absurd hz (by decide))|(exfalso;omega)|skip))|(apply aq;rfl;first|exact rfl|(refine bH ?_)|(refine bF ?_)|(refine bG ?_)))
  refine(VW fun a ha=>?_).symm
  obtain⟨k,hk,rfl⟩:=List.mem_iff_getElem.1 ha
  exact hJ k hk hk

theorem ahs {P:aS→Bool}{f:Nat}{us cs:List D}{l:List aS}(hL:l.length≤maxLen)(hc:bJ Tryz.prog f=true)(hf:∀x,x∈l→aP Tryz.prog f (.st bs) (us++[x.d]++cs) (B (P x))):aP Tryz.prog 101 (.st bs) [dM l,.fn f us cs] (B (l.any P)):=by
 refine ae6.R rfl rfl ?_
 unfold ads
 simp only[aC,aG,List.cons_append,List.nil_append]
 repeat' (first|(apply aD;rfl;simp only[ai];rfl)|(apply aF;rfl;rfl;exact am3 hL hc hf;rfl;simp only[ai];rfl)|(apply aq;rfl;first|exact rfl|(refine bH ?_)|(refine bF ?_)|(refine bG ?_)))
 exact Ox P l

theorem ahr (hp:p.Ok)(hok:p.ok=true)(hc:c.Ok):aP Tryz.prog 102 (.st bs) [c.d,.ptr p.cs] (B (!fe p c)):=by
 have va:=c19 (bs:=bs) hp hc
 rw[hok,Bool.true_and] at va
 refine ae5.R rfl rfl ?_
 unfold adr
 simp only[aC,aG,List.cons_append,List.nil_append]
 repeat' (first|(apply aN;rfl)|(apply aD;rfl;simp only[ai];rfl)|(apply aF;rfl;rfl;exact va;rfl;simp only[ai];rfl)|(apply aq;rfl;first|exact rfl|(refine bH ?_)|(refine bF ?_)|(refine bG ?_)))
 cases fe p c <;> rfl

/-! ## what an event melts to -/

variable {n:Nat}

theorem xm:bD bs (n+3) (.bq (p.items.map Item.d))=some (.bq (p.items.map Item.d)):=by
 rw[bD,jj (enc:=Item.d) fun a _=>by rfl]
 rfl

theorem Ry (c:aS):bD bs (n+4) c.d=some c.d:=by
 have h1:bD bs (n+3) (Is c.dH)=some (Is c.dH):=oJ
 have h2:bD bs (n+3) (.bq (c.lines.map gL.d))=some (.bq (c.lines.map gL.d)):=by
  rw[bD,jj (enc:=gL.d) fun a _=>by rfl]
  rfl
 have h3:bD bs (n+3) (I c.cls)=some (I c.cls):=rfl
 rw[aS.d,bD]
 simp only[aS.cs,dK,h1,h2,h3,Option.bind_some,Option.map_some]

theorem DT:bD bs (n+5) (dM l)=some (dM l):=by
 rw[bD,jj (enc:=aS.d) fun a _=>Ry a]
 rfl

theorem abO {x y:D}{r:List D}:∀{xs:List Int},(gB (x :: r) xs).set 0 y=gB (y :: r) xs
 | []=>rfl
 | _ :: _=>rfl

abbrev Qt (p:aL)(l:List aS)(s:D):D:=.blk 99 16 (LL p l s)

theorem agH {s:D}{xs:List Int}:D.ld false 1 (.st (gB [Qt p l s] xs)) (.loc 0 15)=some s:=gX (e:=99) (sz:=16) (cs:=LL p l s) (by rw[Ey (by simp)];rfl) rfl

theorem abW {s s':D}{xs:List Int}(hs:s'.one=true):D.gQ 1 (.st (gB [Qt p l s] xs)) (.loc 0 15) s'=some (.st (gB [Qt p l s'] xs)):=by
 rw[mr (e:=99) (sz:=16) (cs:=LL p l s) (by rw[Ey (by simp)];rfl) (by simp[LL]) hs,abO]
 rfl

theorem abM {m:Nat}:∀xs:List Int,(gS m xs).one=true
 | []=>rfl
 | _ :: _=>rfl

theorem YJ:bD (gB [Qt p l (gS 1 (outs p l))] (outs p l)) 8 (.bh [.loc 0 0,B true])=some (.bh [iW p l,B true]):=by
 have hs:bD (gB [Qt p l (gS 1 (outs p l))] (outs p l)) 6 (gS 1 (outs p l))=some (Is (outs p l)):=H9 (b0:=[Qt p l (gS 1 (outs p l))]) (n:=4)
 have h0:(gB [Qt p l (gS 1 (outs p l))] (outs p l))[0]? = some (Qt p l (gS 1 (outs p l))):=by rw[Ey (by simp)];rfl
 generalize gB [Qt p l (gS 1 (outs p l))] (outs p l)=st at *
 have hl:bD st 7 (.loc 0 0)=some (iW p l):=by
  have h1:bD st 6 (.bq (p.items.map Item.d))=some (.bq (p.items.map Item.d)):=xm
  have h2:bD st 6 (dM l)=some (dM l):=DT
  have h3:∀x:List Int,bD st 6 (Is x)=some (Is x):=fun x=>oJ
  have h4:∀x:Int,bD st 6 (I x)=some (I x):=fun x=>rfl
  have h5:∀x:Bool,bD st 6 (B x)=some (B x):=fun x=>rfl
  rw[bD]
  simp only[h0,List.drop_zero,LL,dK,h1,h2,h3,h4,h5,hs,Option.bind_some,Option.map_some]
  rfl
 have hb:bD st 7 (B true)=some (B true):=rfl
 rw[bD]
 simp only[dK,hl,hb,Option.bind_some,Option.map_some]

theorem zA (hp:p.Ok)(hl:Qbz l)(hok:p.ok=true)(hc:br p l=true):aP Tryz.prog 53 (.st bs) [p.d,dM l] (.bh [iW p l,B true]):=by
 have hcs:=cr hc
 have wR:=c18 (bs:=[]) hp
 rw[hok] at wR
 replace wR:aP Tryz.prog 18 (.st []) [p.d] (I 0):=wR
 have YA:aP Tryz.prog 101 (.st []) [dM l,.fn 102 [] [.ptr p.cs]] (B (l.any fun c=>!fe p c)):=ahs (us:=[]) (cs:=[.ptr p.cs]) hl.2 (by kernel_rfl) fun x hx=>ahr hp hok (hl.1 x hx)
 have hall:(l.any fun c=>!fe p c)=false:=by
  have h1:=Cv (fe p) l
  simp only[br,Bool.and_eq_true] at hc
  rw[hc.2] at h1
  simpa using h1
 rw[hall] at YA
 have hW:bk Tryz.prog 53 (.st []) [p.d,dM l] (.bh [.loc 0 0,B true]) (.st (gB [Qt p l (gS 1 (outs p l))] (outs p l))):=by
  refine aeM.W rfl ?_
  unfold u53
  simp only[aC,aG,List.cons_append,List.nil_append]
  repeat' (first|(apply bp;simp only[ai];rfl)|(apply ar;rfl;exact ak;simp only[ai];rfl)|(apply aD;rfl;simp only[ai];rfl)|(apply aF;rfl;rfl;(·first|exact wR|exact YA);rfl;simp only[ai];rfl)|(apply bL;rfl)|refine au ?_|(apply aX;rfl;all_goals (intro hz;(try simp only[bA] at hz);first|(exact absurd hz (by decide))|(exfalso;omega)|skip))|exact aq rfl rfl|(intro hz;(try simp only[bA] at hz)))
  ·rcases hz with h | h
   ·exact absurd trivial h
   ·omega
  refine bf (fun k=>[In k,.st (gB [Qt p l (gS 1 ((outs p l).take k))] ((outs p l).take k))]) (fun _=>True) l.length rfl (fun _=>rfl) trivial (fun k hk _ R hR=>?_) (fun _ R=>?_)
  ·have hlk:decide ((k:Int)<(l.length:Int))=true:=by simp;omega
   have hR:=hR trivial
   have GM:k<(outs p l).length:=by simpa[outs] using hk
   have e:(outs p l).take (k+1)=(outs p l).take k++[kX p (cd l k)]:=by
    rw[List.take_add_one,List.getElem?_eq_getElem GM]
    simp[outs,cd,List.getD,hk]
   rw[e] at hR
   have hlen:((outs p l).take k).length≤200:=by rw[List.length_take];omega
   generalize(outs p l).take k=xs at hR hlen ⊢
   have h89:=c89 (bs:=gB [Qt p l (gS 1 xs)] xs) hp hok (hcs.2 k hk)
   have ha1:=I1 (b0:=[Qt p l (gS 1 xs)]) (xs:=xs) (x:=kX p (cd l k)) (by omega)
   have ha2:=IZ (b0:=[Qt p l (gS 1 xs)]) (xs:=xs) (x:=kX p (cd l k))
   repeat' (first|(apply bp;simp only[ai];rfl)|(apply aH;rfl;exact hlk)|(apply aN;rfl)|(apply zZ;rfl;rfl;rfl;rfl;rfl;exact ha2;(·exact abW (abM _));simp only[ai];rfl)|(apply jI;rfl;rfl;exact agH;simp only[ai];rfl)|(apply aA;rfl;rfl;exact cw hk;simp only[ai];rfl)|(apply qN;rfl;rfl;rfl;exact ha1;simp only[ai];rfl)|(apply aD;rfl;simp only[ai];rfl)|(apply aF;rfl;rfl;exact h89;rfl;simp only[ai];rfl)|refine au ?_)
   refine av (xY rfl (xY (mN rfl rfl rfl ha2) (xY rfl (xY rfl (xY rfl V0))))) rfl ?_
   repeat' (first|(apply bp;simp only[ai];rfl)|(apply aW;rfl;omega;simp only[ai];rfl)|(apply av;rfl;rfl)|refine Qav ?_|refine kj rfl ?_)
   exact hR
  ·have hlf:decide ((l.length:Int)<(l.length:Int))=false:=by simp
   have e:(outs p l).take l.length=outs p l:=List.take_of_length_le (by simp[outs])
   repeat' (first|(apply bp;simp only[ai];rfl)|(apply aK;rfl;exact hlf)|(apply aD;rfl;simp only[ai];rfl)|(apply av;rfl;rfl)|refine Qav ?_|(refine aB (by decide) ?_)|refine kj rfl ?_)
   rw[e]
   repeat' ((with_reducible exact aq rfl rfl))
 exact hW.bD (n:=8) (by simp[eG,rE,tC]) YJ bs
end

section
inductive Dry:D→Prop
 | v (x:Value):Dry (.v x)
 | bh {cs:List D} (h:∀c,c∈cs→∃x,c=.v x):Dry (.bh cs)

theorem Dry.rd {d:D}(hd:Dry d){w w':World}{S S':Sets}{v:Value}(h:bU w S v d):bU w' S' v d:=by
 cases hd with
 | v x=>cases h with | v hp=>exact .v hp
 | bh hc=>
  cases h with
  | bh hl hr=>
   refine .bh hl fun i u d hu hd=>?_
   obtain⟨x,rfl⟩:=hc d (List.mem_of_getElem? hd)
   have:=hr i u _ hu hd
   cases this with | v hp=>exact .v hp

theorem zX {P:Program}{f:FuncId}{ds ds':List D}{bs:List D}{n:Nat}{d:D}(h:aP P f (.st []) ds' d)(hm:dK (bD bs n) ds=some ds')(hd:Dry d):aP P f (.st bs) ds d:=by
 intro w S aJ rp vs hb hst dP hfl hS hvl hrd
 cases hb
 let S0:Sets:={ mem:=(S.or fun b _=>aJ b).mem,loc:=fun _=>0,n:=0,cap:=fun _=>0 }
 have IL:dF w S0 (fun _=>False) []:=⟨rfl,fun i e sz cs hi=>by simp at hi,fun b off hf=>hf.elim,fun i dL hi=>by simp at hi,fun i j x y hi=>by simp at hi,fun i z hi=>by simp at hi⟩
 have hS0:∀b o,S0 b o→b<w.heap.size:=fun b o h=>by
  rcases h with h | h
  ·exact hS b o h
  ·exact hfl b h
 obtain⟨hl,hg⟩:=jk hm
 refine(h w S0 (fun _=>False) [] vs rfl IL (fun l rec hl=>by cases hl) (fun _ hf=>hf.elim) hS0 (by rw[hvl,hl]) fun i v x' hv hx'=>?_).mono ?_
 ·obtain⟨x,hx,MB⟩:=hg i x' hx'
  exact(yR hst n n (Nat.le_refl _) (hrd i v x hv hx) MB).free (fun _ _ h=>h) (pe MB)
 ·rintro e w' ⟨v,S',gj,hb,hle,CC,hnew,hlt⟩
  exact⟨v,S,⟨gj.1,hd.rd gj.2⟩,hb,Sets.le_refl _,rfl,fun b o h=>.inl h,fun b o h=>Nat.lt_of_lt_of_le (hS b o h) hb.size⟩
end

section
def Mv (s:List D):Prop:=∀(i:Nat) (x:D),s[i]? = some x→x=.bh []∨∃e sz cs,x=.blk e sz cs∧∀c,c∈cs→∃v,c=.v v

theorem V5 (xs:List Int):Mv (gB [] xs):=by
 intro i x hx
 cases xs with
 | nil=>simp[gB] at hx
 | cons y r=>
  simp only[gB,List.nil_append] at hx
  have:=List.mem_of_getElem? hx
  rcases List.mem_append.1 this with h | h
  ·exact .inl (List.eq_of_mem_replicate h)
  ·exact .inr ⟨_,_,_,by simpa using h,fun c hc=>by
    rw[←List.map_cons] at hc
    obtain⟨z,_,rfl⟩:=List.mem_map.1 hc
    exact⟨_,rfl⟩⟩

theorem Mv.set {s:List D}(h:Mv s){i:Nat}{x:D}(hx:x=.bh []∨∃e sz cs,x=.blk e sz cs∧∀c,c∈cs→∃v,c=.v v):Mv (s.set i x):=by
 intro j y hy
 rw[List.getElem?_set] at hy
 split at hy
 ·split at hy
  ·cases hy;exact hx
  ·cases hy
 ·exact h j y hy

inductive SS:D→Prop
 | sl (i off n:Nat):SS (.sl i off n)
 | cq:SS .cq

theorem SS.rd {d:D}(hd:SS d){w:World}{S S':Sets}{v:Value}(h:bU w S v d)(h1:S'.loc=S.loc)(h2:S'.n=S.n)(h3:S'.cap=S.cap):bU w S' v d:=by
 cases hd with
 | sl i off n=>
  cases h with
  | sl a1 a2 a3 a4=>
   have e:S.loc i=S'.loc i:=by rw[h1]
   rw[e]
   exact .sl (by rw[h2];exact a1) a2 a3 (by rw[h3];exact a4)
 | cq=>cases h with | cq=>exact .cq

theorem TI {w:World}{S S':Sets}{aJ:Nat→Prop}{s:List D}(h:dF w S aJ s)(hd:Mv s)(h1:S'.loc=S.loc)(h2:S'.n=S.n)(h3:S'.cap=S.cap)(hm:∀b o,S' b o→S b o):dF w S' aJ s where
 n:=by rw[h2];exact h.n
 cells i e sz cs hi:=by
  obtain⟨a1,vs,a2,a3,a4,a5,a6,a7⟩:=h.cells i e sz cs hi
  rw[h1,h3]
  refine⟨a1,vs,a2,a3,a4,a5,fun j v d hv fz=>?_,fun off ho=>a7 off (hm _ _ ho)⟩
  rcases hd i _ hi with h0 | ⟨_,_,_,h0,h4⟩
  ·cases h0
  ·cases h0
   obtain⟨x,rfl⟩:=h4 d (List.mem_of_getElem? fz)
   have:=a6 j v _ hv fz
   cases this with | v hp=>exact .v hp
 Cw b off hf ho:=h.Cw b off hf (hm _ _ ho)
 maps i dL hi:=by
  rcases hd i _ hi with h0 | ⟨_,_,_,h0,_⟩ <;> cases h0
 inj i j x y hi hj hx hy e:=h.inj i j x y hi hj hx hy (by rw[h1] at e;exact e)
 FJ i z hi hz:=by
  rcases hd i _ hi with h0 | ⟨_,_,_,h0,_⟩
  ·subst h0;cases hz
  ·subst h0;cases hz

theorem Xe {P:Program}{f:FuncId}{ds ds':List D}{bs s:List D}{n m:Nat}{d d':D}(h:bk P f (.st []) ds' d (.st s))(hm:dK (bD bs n) ds=some ds')(alU:Mv s)(hd:SS d)(hm2:bD s m d=some d'):aP P f (.st bs) ds d':=by
 intro w S aJ rp vs hb hst dP hfl hS hvl hrd
 cases hb
 let S0:Sets:={ mem:=(S.or fun b _=>aJ b).mem,loc:=fun _=>0,n:=0,cap:=fun _=>0 }
 have IL:dF w S0 (fun _=>False) []:=⟨rfl,fun i e sz cs hi=>by simp at hi,fun b off hf=>hf.elim,fun i dL hi=>by simp at hi,fun i j x y hi=>by simp at hi,fun i z hi=>by simp at hi⟩
 have hS0:∀b o,S0 b o→b<w.heap.size:=fun b o h=>by
  rcases h with h | h
  ·exact hS b o h
  ·exact hfl b h
 obtain⟨hl,hg⟩:=jk hm
 refine(h w S0 (fun _=>False) [] vs rfl IL (fun l rec hl=>by cases hl) (fun _ hf=>hf.elim) hS0 (by rw[hvl,hl]) fun i v x' hv hx'=>?_).mono ?_
 ·obtain⟨x,hx,MB⟩:=hg i x' hx'
  exact(yR hst n n (Nat.le_refl _) (hrd i v x hv hx) MB).free (fun _ _ h=>h) (pe MB)
 ·rintro e w' ⟨v,S',bV,ia,gj,oh,fp,hK,hle,hos,BD,hout,hsz,hold,hft,hnew,hlt⟩
  cases oh
  let S1:Sets:={ S' with mem:=S.mem }
  have RN:dF w' S1 bV s:=TI fp alU rfl rfl rfl fun b o h=>hle.mem b o (.inl h)
  have Li:bU w' S1 v d:=hd.rd gj.2 rfl rfl rfl
  refine⟨v,{ S with mem:=(S1.or fun b _=>bV b).mem },⟨gj.1,(yR RN m m (Nat.le_refl _) Li hm2).free (fun _ _ h=>h) (pe hm2)⟩,⟨⟨hos,BD.tape,hout,hsz,fun b hb=>hold b hb fun hf=>hf⟩,BD.dr⟩,⟨fun b o h=>.inl h,Nat.le_refl _,fun _ _=>rfl,fun _ _=>rfl,rfl,fun _ _=>rfl⟩,rfl,fun b o hs=>?_,fun b o hs=>?_⟩
  ·rcases hs with hs | hs
   ·exact .inl hs
   ·exact .inr ((hft b hs).1.elim (fun h=>h.elim) id)
  ·rcases hs with hs | hs
   ·exact Nat.lt_of_lt_of_le (hS b o hs) hsz
   ·exact(hft b hs).2
end

section
open Go.Proofs
set_option maxRecDepth 100000
set_option maxHeartbeats 4000000

attribute [local irreducible] gR fV dQ

variable {bs:List D} {p:aL} {c:aS} {l:List aS}

abbrev ints (L:List Nat):List Int:=L.map fun n:Nat=>Int.ofNat n
theorem K8 (L:List Nat):Ix L=Is (ints L):=by simp only[Ix,Is,ints,List.map_map];rfl

theorem I6:(iW p l).iw=true:=by
 simp only[iW,LL,D.iw,eG,jK (enc:=I) (fun _=>rfl),jK (enc:=Item.d) (fun x=>rfl),jK (enc:=aS.d) A6,Bool.and_self]

theorem ace (hc:br p l=true){i:Nat}(hi:i<p.n)(cls:Int):bk Tryz.prog 64 (.st bs) [iW p l,In i,I cls] (gS bs.length (ints (eY p l i cls))) (.st (gB bs (ints (eY p l i cls)))):=by
 have hcs:=cr hc
 refine akl.W rfl ?_
 unfold u64
 simp only[aC,aG,List.cons_append,List.nil_append]
 repeat' (first|(apply aN;rfl)|(apply ar;rfl;exact ak;simp only[ai];rfl)|(apply aD;rfl;simp only[ai];rfl)|refine au ?_)
 refine bf (fun k=>[gS bs.length (ints (jS p l i cls k)),In k,.st (gB bs (ints (jS p l i cls k)))]) (fun _=>True) l.length rfl (fun _=>rfl) trivial (fun k hk _ R hR=>?_) (fun _ R=>?_)
 ·have hlk:decide ((k:Int)<(l.length:Int))=true:=by simp;omega
  have h:=hcs.2 k hk
  have qz:=h.len
  have hR:=hR trivial
  rw[Bm] at hR
  have hrl:=kf (p:=p) (l:=l) (i:=i) (cls:=cls) (n:=k)
  have Lv:=c55 (bs:=gB bs (ints (jS p l i cls k))) (p:=p) hk i
  cases hr:nB p l i cls k
  ·rw[if_neg (by simp[hr])] at hR
   have hf:(((cd l k).ln i).mark==0&&gA p (cd l k) i&&(decide (cls<0)||(cd l k).cls==cls))=false:=by rw[Bool.and_assoc];exact hr
   repeat' (first|(apply bp;simp only[ai];rfl)|(apply aH;rfl;exact hlk)|(apply aK;rfl;exact hf)|(apply aN;rfl)|(apply aA;rfl;rfl;(·first|exact cw hk|exact cQ (by omega));simp only[ai];rfl)|(apply aW;rfl;omega;simp only[ai];rfl)|(apply aD;rfl;simp only[ai];rfl)|(apply aF;rfl;rfl;exact Lv;rfl;simp only[ai];rfl)|(apply bL;rfl)|(apply bg;rfl)|refine au ?_|(apply av;rfl;rfl)|refine Qav ?_|refine kj rfl ?_|exact aq rfl rfl|(intro hz;(try simp only[bA] at hz)))
   exact hR
  ·rw[if_pos hr,ints,List.map_append,List.map_cons,List.map_nil] at hR
   have ht:(((cd l k).ln i).mark==0&&gA p (cd l k) i&&(decide (cls<0)||(cd l k).cls==cls))=true:=by rw[Bool.and_assoc];exact hr
   have ha1:=I1 (b0:=bs) (xs:=ints (jS p l i cls k)) (x:=(k:Int)) (by simp only[ints,List.length_map];omega)
   have ha2:=IZ (b0:=bs) (xs:=ints (jS p l i cls k)) (x:=(k:Int))
   repeat' (first|(apply bp;simp only[ai];rfl)|(apply aH;rfl;(·first|exact hlk|exact ht))|(apply aN;rfl)|(apply aA;rfl;rfl;(·first|exact cw hk|exact cQ (by omega));simp only[ai];rfl)|(apply qN;rfl;rfl;rfl;exact ha1;simp only[ai];rfl)|(apply aW;rfl;omega;simp only[ai];rfl)|(apply aD;rfl;simp only[ai];rfl)|(apply aF;rfl;rfl;exact Lv;rfl;simp only[ai];rfl)|(apply bL;rfl)|(apply bg;rfl)|refine au ?_|(apply av;rfl;(·exact xY (mN rfl rfl rfl ha2) (xY rfl V0)))|(apply av;rfl;rfl)|refine Qav ?_|refine kj rfl ?_|exact aq rfl rfl|(intro hz;(try simp only[bA] at hz)))
   exact hR
 ·have hlf:decide ((l.length:Int)<(l.length:Int))=false:=by simp
  repeat' (first|(apply bp;simp only[ai];rfl)|(apply aK;rfl;exact hlf)|(apply aD;rfl;simp only[ai];rfl)|(apply av;rfl;rfl)|refine Qav ?_|(refine aB (by decide) ?_)|refine kj rfl ?_|exact aq rfl rfl)
  all_goals exact rfl

theorem c64 (hp:p.Ok)(hok:p.ok=true)(hc:br p l=true){i:Nat}(hi:i<p.n)(cls:Int):aP Tryz.prog 64 (.st bs) [iW p l,In i,I cls] (Ix (eY p l i cls)):=by
 have hW:=ace (bs:=[]) hc hi cls
 rw[K8]
 exact hW.bD (n:=2) (by simp[eG,I6,D.iw]) H9 bs

theorem ang (hp:p.Ok)(hok:p.ok=true)(hc:br p l=true){i aO:Nat}(hi:i<p.n)(cF:aO<l.length):aP Tryz.prog 103 (.st bs) [iW p l,In aO,In i] (Ix (basis p l i aO)):=by
 have h1:=c64 (bs:=bs) hp hok hc hi (cd l aO).cls
 have h2:=c64 (bs:=bs) hp hok hc hi (-1)
 refine ae4.R rfl rfl ?_
 unfold adq
 simp only[aC,aG,List.cons_append,List.nil_append]
 repeat' (first|(apply aN;rfl)|(apply aA;rfl;rfl;exact cw cF;simp only[ai];rfl)|(apply ar;rfl;exact ak;simp only[ai];rfl)|(apply aD;rfl;simp only[ai];rfl)|(apply aF;rfl;rfl;(·first|exact h1|exact h2);rfl;simp only[ai];rfl)|(apply aX;rfl;all_goals (intro hz;(try simp only[bA] at hz);first|(exact absurd hz (by decide))|(exfalso;omega)|skip))|(apply aq;rfl;first|exact rfl|(refine bH ?_)|(refine bF ?_)|(refine bG ?_)))
 ·rw[basis,if_pos (by omega)]
 ·rw[basis,if_neg (by omega)]

theorem c96 {xs:List Int}(hL:xs.length≤1000):∃st,Mv st∧bk Tryz.prog 96 (.st (gB [] xs)) [gS 0 xs] (.bh []) (.st st)∧∀n,bD st (n+2) (gS 0 xs)=some (Is (lp xs)):=by
 by_cases hx:xs=[]
 ·subst hx
  exact⟨[],V5 [],jy.adM fun p cap w=>(Tryz.slices_Sort_int_none p cap w).mono fun e w' h=>⟨h.1,0,by rw[h.2];rfl⟩,fun n=>by rw[show lp []=[] by simp[lp]];rfl⟩
 ·have hg:=Ez (b0:=[]) hx
  have h:bk Tryz.prog 96 (.st (gB [] xs)) [.sl (([]:List D).length+(xs.length-1)) 0 xs.length] (.bh []) (.st ((gB [] xs).set (([]:List D).length+(xs.length-1)) (.blk 3 1 ((lp xs).map I)))):=jy.adL (P:=Tryz.prog) (f:=96) (fun blk off cap zs w h1 h2 h3=>Tryz.slices_Sort_int blk off cap zs w h1 h2 h3) (xs:=xs) hg (by omega)
  have e:=tc (m:=([]:List D).length) hx
  refine⟨_,(V5 xs).set (x:=.blk 3 1 ((lp xs).map I)) (.inr ⟨_,_,_,rfl,fun c hc=>by
   obtain⟨z,_,rfl⟩:=List.mem_map.1 hc
   exact⟨_,rfl⟩⟩),by rw[show gS 0 xs=_ from e];exact h,fun n=>?_⟩
  rw[show gS 0 xs=_ from e,bD]
  have hl:([]:List D).length+(xs.length-1)<(gB [] xs).length:=(List.getElem?_eq_some_iff.1 hg).1
  simp only[XG hl]
  have xB:=kH xs
  rw[if_pos (by simp[xB])]
  simp only[Nat.mul_one,Nat.zero_add,List.drop_zero]
  rw[show((lp xs).map I).take xs.length=(lp xs).map I from List.take_of_length_le (by simp[xB]),jj (enc:=I) fun a _=>by rw[bD]]
  simp

theorem ahj {i:Nat}{b:List Nat}(hb:∀k,k∈b→k<l.length∧i<(cd l k).lines.length)(hL:b.length≤1000):∃st,Mv st∧bk Tryz.prog 67 (.st []) [iW p l,Ix b,In i] (gS 0 (jO l i b)) (.st st)∧bD st 2 (gS 0 (jO l i b))=some (Is (lp (jO l i b))):=by
 obtain⟨st,hd,hs,hm⟩:=c96 (xs:=jO l i b) (by rw[gM];omega)
 refine⟨st,hd,?_,hm 0⟩
 refine aki.W rfl ?_
 unfold u67
 simp only[aC,aG,List.cons_append,List.nil_append]
 repeat' (first|(apply ar;rfl;exact ak;simp only[ai];rfl)|refine au ?_)
 refine bf (fun k=>[gS 0 (jO l i (b.take k)),In k,.st (gB [] (jO l i (b.take k)))]) (fun _=>True) b.length rfl (fun _=>rfl) trivial (fun k hk _ R hR=>?_) (fun _ R=>?_)
 ·have hlk:decide ((k:Int)<(b.length:Int))=true:=by simp;omega
  have hbk:=hb b[k] (List.getElem_mem hk)
  have hR:=hR trivial
  rw[yb hk] at hR
  have Yx:=c66 (bs:=gB [] (jO l i (b.take k))) (p:=p) hbk.1 hbk.2
  have hlen:(jO l i (b.take k)).length≤1000:=by rw[gM,List.length_take];omega
  generalize jO l i (b.take k)=xs at hR hlen Yx ⊢
  have ha1:=I1 (b0:=[]) (xs:=xs) (x:=oC l i b[k]) (by omega)
  have ha2:=IZ (b0:=[]) (xs:=xs) (x:=oC l i b[k])
  repeat' (first|(apply bp;simp only[ai];rfl)|(apply aH;rfl;exact hlk)|(apply aA;rfl;rfl;exact kr hk;simp only[ai];rfl)|(apply qN;rfl;rfl;rfl;exact ha1;simp only[ai];rfl)|(apply aD;rfl;simp only[ai];rfl)|(apply aF;rfl;rfl;exact Yx;rfl;simp only[ai];rfl)|refine au ?_)
  refine av (xY (mN rfl rfl rfl ha2) V0) (xY (mN rfl rfl rfl ha2) (xY rfl V0)) ?_
  repeat' (first|(apply bp;simp only[ai];rfl)|(apply aW;rfl;omega;simp only[ai];rfl)|(apply av;rfl;rfl)|refine Qav ?_|refine kj rfl ?_)
  exact hR
 ·have hlf:decide ((b.length:Int)<(b.length:Int))=false:=by simp
  rw[List.take_length]
  repeat' (first|(apply bp;simp only[ai];rfl)|(apply aK;rfl;exact hlf)|(apply aD;rfl;simp only[ai];rfl)|(apply eZ;rfl;rfl;exact hs;rfl;simp only[ai];rfl)|(apply av;rfl;rfl)|refine Qav ?_|(refine aB (by decide) ?_)|refine kj rfl ?_|exact aq rfl rfl)

theorem c67 {i:Nat}{b:List Nat}(hb:∀k,k∈b→k<l.length∧i<(cd l k).lines.length)(hL:b.length≤1000):aP Tryz.prog 67 (.st bs) [iW p l,Ix b,In i] (Is (lp (jO l i b))):=by
 obtain⟨st,_,hW,hm⟩:=ahj (p:=p) hb hL
 exact hW.bD (n:=2) (by simp[eG,I6,D.iw,jK (enc:=In) (fun _=>rfl)]) hm bs


theorem anf (hok:p.ok=true)(hc:br p l=true){i aO:Nat}(hi:i<p.n)(h0:0<(basis p l i aO).length):aP Tryz.prog 104 (.st bs) [iW p l,Ix (basis p l i aO),In aO,In i] (I ((lp (jO l i (basis p l i aO))).getD (((basis p l i aO).length-1) / 2) 0)):=by
 have hcs:=cr hc
 have hm:=aL.mC hok
 have q_:=mi (p:=p) (l:=l) (i:=i) (aO:=aO)
 have hmb:∀k,k∈basis p l i aO→k<l.length∧i<(cd l k).lines.length:=fun k hk=>⟨(fm hk).1,by rw[(hcs.2 k (fm hk).1).len];exact hi⟩
 have Te:=c67 (bs:=bs) (p:=p) hmb (by omega)
 have hlb:=lJ hc (aO:=aO) hi
 have W9:(lp (jO l i (basis p l i aO))).length=(basis p l i aO).length:=by rw[kH,gM]
 have hg1:D.aj 1 (Is (lp (jO l i (basis p l i aO)))) (I (((((basis p l i aO).length-1:Nat)):Int) / 2))=some (.ptr [I ((lp (jO l i (basis p l i aO))).getD (((basis p l i aO).length-1) / 2) 0)]):=by
  rw[show(((((basis p l i aO).length-1:Nat)):Int) / 2)=((((basis p l i aO).length-1) / 2:Nat):Int) by omega]
  exact iK (by omega)
 refine ae3.R rfl rfl ?_
 unfold adp
 simp only[aC,aG,List.cons_append,List.nil_append]
 repeat' (first|(apply aA;rfl;rfl;exact hg1;simp only[ai];rfl)|(apply eX;rfl;rfl;(·exact CN (a:=((((basis p l i aO).length-1:Nat)):Int)) (by decide) (by omega));simp only[ai];rfl)|(apply ar;rfl;exact ak;simp only[ai];rfl)|(apply bZ;rfl;omega;simp only[ai];rfl)|(apply aD;rfl;simp only[ai];rfl)|(apply aF;rfl;rfl;exact Te;rfl;simp only[ai];rfl)|exact aq rfl rfl)

theorem ane (hok:p.ok=true)(hc:br p l=true){i aO:Nat}(hi:i<p.n)(h0:0<(basis p l i aO).length):aP Tryz.prog 105 (.st bs) [iW p l,Ix (basis p l i aO),In aO,In i] (I ((lp (jO l i (basis p l i aO))).getD ((basis p l i aO).length-1) 0)):=by
 have hcs:=cr hc
 have hm:=aL.mC hok
 have q_:=mi (p:=p) (l:=l) (i:=i) (aO:=aO)
 have hmb:∀k,k∈basis p l i aO→k<l.length∧i<(cd l k).lines.length:=fun k hk=>⟨(fm hk).1,by rw[(hcs.2 k (fm hk).1).len];exact hi⟩
 have Te:=c67 (bs:=bs) (p:=p) hmb (by omega)
 have hlb:=lJ hc (aO:=aO) hi
 have W9:(lp (jO l i (basis p l i aO))).length=(basis p l i aO).length:=by rw[kH,gM]
 refine ae2.R rfl rfl ?_
 unfold ado
 simp only[aC,aG,List.cons_append,List.nil_append]
 repeat' (first|(apply aA;rfl;rfl;(·exact iK (by omega));simp only[ai];rfl)|(apply ar;rfl;exact ak;simp only[ai];rfl)|(apply bZ;rfl;omega;simp only[ai];rfl)|(apply aD;rfl;simp only[ai];rfl)|(apply aF;rfl;rfl;exact Te;rfl;simp only[ai];rfl)|exact aq rfl rfl)

theorem anb (hok:p.ok=true)(hc:br p l=true){i aO:Nat}(hi:i<p.n)(h0:0<(basis p l i aO).length):aP Tryz.prog 107 (.st bs) [iW p l,Ix (basis p l i aO),In aO,In i] (I ((least l i (basis p l i aO)*p.jV+99) / 100)):=by
 have hcs:=cr hc
 have hm:=aL.mC hok
 have q_:=mi (p:=p) (l:=l) (i:=i) (aO:=aO)
 have hmb:∀k,k∈basis p l i aO→k<l.length∧i<(cd l k).lines.length:=fun k hk=>⟨(fm hk).1,by rw[(hcs.2 k (fm hk).1).len];exact hi⟩
 have Te:=c67 (bs:=bs) (p:=p) hmb (by omega)
 have hlb:=lJ hc (aO:=aO) hi
 have W9:(lp (jO l i (basis p l i aO))).length=(basis p l i aO).length:=by rw[kH,gM]
 have Ql:D.aj 1 (Is (lp (jO l i (basis p l i aO)))) (I 0)=some (.ptr [I (least l i (basis p l i aO))]):=iK (i:=0) (by omega)
 have hmul:=mF hlb ⟨(by omega:0≤p.jV),hm.2.1.2⟩
 refine ae0.R rfl rfl ?_
 unfold adm
 simp only[aC,aG,List.cons_append,List.nil_append]
 repeat' (first|(apply aN;rfl)|(apply aA;rfl;rfl;exact Ql;simp only[ai];rfl)|(apply eX;rfl;rfl;(·first|exact kR (by omega)|exact CN (by decide) (by omega));simp only[ai];rfl)|(apply bM;rfl;rfl;omega;simp only[ai];rfl)|(apply aD;rfl;simp only[ai];rfl)|(apply aF;rfl;rfl;exact Te;rfl;simp only[ai];rfl)|exact aq rfl rfl)

theorem anc (hok:p.ok=true)(hc:br p l=true){i aO:Nat}(hi:i<p.n)(cF:aO<l.length)(h0:0<(basis p l i aO).length):aP Tryz.prog 106 (.st bs) [iW p l,Ix (basis p l i aO),In aO,In i] (I ((basis p l i aO).foldl (p_ l i (vQ l i aO)) (-1,least l i (basis p l i aO))).2):=by
 have hcs:=cr hc
 have hm:=aL.mC hok
 have q_:=mi (p:=p) (l:=l) (i:=i) (aO:=aO)
 have hmb:∀k,k∈basis p l i aO→k<l.length∧i<(cd l k).lines.length:=fun k hk=>⟨(fm hk).1,by rw[(hcs.2 k (fm hk).1).len];exact hi⟩
 have Te:=c67 (bs:=bs) (p:=p) hmb (by omega)
 have hlb:=lJ hc (aO:=aO) hi
 have W9:(lp (jO l i (basis p l i aO))).length=(basis p l i aO).length:=by rw[kH,gM]
 have dG:=(hcs.2 aO cF).len
 have Ql:D.aj 1 (Is (lp (jO l i (basis p l i aO)))) (I 0)=some (.ptr [I (least l i (basis p l i aO))]):=iK (i:=0) (by omega)
 refine ae1.R rfl rfl ?_
 unfold adn
 simp only[aC,aG,List.cons_append,List.nil_append]
 repeat' (first|(apply aA;rfl;rfl;exact Ql;simp only[ai];rfl)|(apply ar;rfl;exact ak;simp only[ai];rfl)|(apply aD;rfl;simp only[ai];rfl)|(apply aF;rfl;rfl;exact Te;rfl;simp only[ai];rfl)|refine au ?_)
 generalize basis p l i aO=b at hmb q_ hlb W9 h0 Ql ⊢
 refine bf (fun k=>[I ((b.take k).foldl (p_ l i (vQ l i aO)) (-1,least l i b)).1,I ((b.take k).foldl (p_ l i (vQ l i aO)) (-1,least l i b)).2,In k]) (fun _=>True) b.length rfl (fun _=>rfl) trivial (fun k hk _ R hR=>?_) (fun _ R=>?_)
 ·have hlk:decide ((k:Int)<(b.length:Int))=true:=by simp;omega
  have hbk:=hmb b[k] (List.getElem_mem hk)
  have hR:=hR trivial
  rw[List.take_add_one,List.getElem?_eq_getElem hk,Option.toList_some,List.foldl_append,List.foldl_cons,List.foldl_nil] at hR
  generalize(b.take k).foldl (p_ l i (vQ l i aO)) (-1,least l i b)=s at hR ⊢
  have Yx:=c66 (bs:=bs) (p:=p) hbk.1 hbk.2
  repeat' (first|(apply bp;simp only[ai];rfl)|(apply aH;rfl;exact hlk)|(apply aN;rfl)|(apply aA;rfl;rfl;(·first|exact kr hk|exact cw hbk.1|exact cQ hbk.2|exact cw cF|exact cQ (by omega));simp only[ai];rfl)|(apply aW;rfl;omega;simp only[ai];rfl)|(apply aD;rfl;simp only[ai];rfl)|(apply aF;rfl;rfl;exact Yx;rfl;simp only[ai];rfl)|(apply bL;rfl)|(apply bg;rfl)|refine au ?_|(apply av;rfl;rfl)|refine Qav ?_|refine kj rfl ?_|(apply Tp;rfl;all_goals (intro hz;(try simp only[bA] at hz);first|(exact absurd hz (by decide))|(exfalso;omega)|(refine⟨_,rfl,?_⟩)))|exact aq rfl rfl|(intro hz;(try simp only[bA] at hz)))
  all_goals first
  |(rw[Qz (by simp only[vQ,oC] at *;omega)] at hR;exact hR)
  |(rw[Mm (by simp only[vQ,oC] at *;omega)] at hR;exact hR)
 ·have hlf:decide ((b.length:Int)<(b.length:Int))=false:=by simp
  repeat' (first|(apply bp;simp only[ai];rfl)|(apply aK;rfl;exact hlf)|(apply aD;rfl;simp only[ai];rfl)|(apply av;rfl;rfl)|refine Qav ?_|(refine aB (by decide) ?_)|refine kj rfl ?_|(apply aq;rfl;first|exact rfl|(refine bH ?_)|(refine bF ?_)|(refine bG ?_)))
  rw[List.take_length]
end

section
open Go.Proofs
set_option maxRecDepth 100000
set_option maxHeartbeats 4000000

attribute [local irreducible] gR fV dQ

variable {bs:List D} {p:aL} {c:aS} {l:List aS}


theorem c56 (hp:p.Ok)(hok:p.ok=true)(hc:br p l=true){i aO:Nat}(hi:i<p.n)(cF:aO<l.length):aP Tryz.prog 56 (.st bs) [iW p l,In aO,In i] (I (cS p l aO i)):=by
 have hcs:=cr hc
 have hm:=aL.mC hok
 have rT:=hcs.2 aO cF
 have dG:=rT.len
 have hmk:=rT.mark hi
 have hr:=aL.gd hok
 have q_:=mi (p:=p) (l:=l) (i:=i) (aO:=aO)
 have hmb:∀k,k∈basis p l i aO→k<l.length∧i<(cd l k).lines.length:=fun k hk=>⟨(fm hk).1,by rw[(hcs.2 k (fm hk).1).len];exact hi⟩
 have hlb:=lJ hc (aO:=aO) hi
 have W9:(lp (jO l i (basis p l i aO))).length=(basis p l i aO).length:=by rw[kH,gM]
 have LB:=ang (bs:=[]) hp hok hc hi cF
 have Yx:=c66 (bs:=[]) (p:=p) cF (i:=i) (by omega)
 have Te:=c67 (bs:=[]) (p:=p) hmb (by omega)
 have k4:bJ Tryz.prog 104=true:=by kernel_rfl
 have k5:bJ Tryz.prog 105=true:=by kernel_rfl
 have k6:bJ Tryz.prog 106=true:=by kernel_rfl
 have k7:bJ Tryz.prog 107=true:=by kernel_rfl
 have hd:eG [iW p l,In aO,In i]=true:=by simp[eG,I6,D.iw]
 unfold cS
 rcases hmk with hmk | hmk | hmk
 ·rw[if_pos hmk]
  have hW:bk Tryz.prog 56 (.st []) [iW p l,In aO,In i] (I (oC l i aO)) (.st []):=by
   refine K4.W rfl ?_
   unfold Xh
   simp only[aC,aG,List.cons_append,List.nil_append]
   repeat' (first|(apply aN;rfl)|(apply aA;rfl;rfl;(·first|exact cw cF|exact cQ (by omega));simp only[ai];rfl)|(apply aD;rfl;simp only[ai];rfl)|(apply aF;rfl;rfl;(·first|exact LB|exact Yx);rfl;simp only[ai];rfl)|refine au ?_|(apply aX;rfl;all_goals (intro hz;(try simp only[bA] at hz);first|(exact absurd hz (by decide))|(exfalso;omega)|skip))|(apply aq;rfl;first|exact rfl|(refine bH ?_)|(refine bF ?_)|(refine bG ?_)))
  exact hW.bD (n:=1) hd rfl bs
 ·rw[if_neg (by omega),if_pos hmk]
  unfold qS
  by_cases h0:(basis p l i aO).length=0
  ·rw[if_pos h0]
   have hW:bk Tryz.prog 56 (.st []) [iW p l,In aO,In i] (I 0) (.st []):=by
    refine K4.W rfl ?_
    unfold Xh
    simp only[aC,aG,List.cons_append,List.nil_append]
    repeat' (first|(apply bp;simp only[ai];rfl)|(apply aN;rfl)|(apply aA;rfl;rfl;(·first|exact cw cF|exact cQ (by omega));simp only[ai];rfl)|(apply ar;rfl;exact ak;simp only[ai];rfl)|(apply aD;rfl;simp only[ai];rfl)|(apply aF;rfl;rfl;exact LB;rfl;simp only[ai];rfl)|refine au ?_|(apply av;rfl;rfl)|refine Qav ?_|refine kj rfl ?_|(apply aX;rfl;all_goals (intro hz;(try simp only[bA] at hz);first|(exact absurd hz (by decide))|(exfalso;omega)|skip))|exact aq rfl rfl)
   exact hW.bD (n:=1) hd rfl bs
  ·rw[if_neg h0]
   obtain h1 | h1 | h1 | h1:p.ez=1∨p.ez=2∨p.ez=4∨p.ez=3:=by omega
   ·rw[if_pos h1]
    refine P6 (st:=[.blk 129 5 [.v .nilFunc,.fn 104 [iW p l] [],.fn 105 [iW p l] [],.fn 106 [iW p l] [],.fn 107 [iW p l] []]]) ?_ hd bs
    refine K4.W rfl ?_
    unfold Xh
    simp only[aC,aG,List.cons_append,List.nil_append]
    have hm4:∀x y:D,D.m4 (.tN 5 1) (.loc 0 0) (I p.ez) x y=some (.loc 0 1):=fun x y=>by rw[h1];rfl
    repeat' (first|(apply bp;simp only[ai];rfl)|(apply aN;rfl)|(apply aA;rfl;rfl;(·first|exact cw cF|exact cQ (by omega));simp only[ai];rfl)|(apply Xg;rfl;rfl;rfl;rfl;exact hm4 _ _;simp only[ai];rfl)|(apply ar;rfl;exact ak;simp only[ai];rfl)|(apply aD;rfl;simp only[ai];rfl)|(apply aF;rfl;rfl;exact LB;rfl;simp only[ai];rfl)|(apply fJ;rfl;exact k4;rfl;rfl;(·exact anf hok hc hi (by omega));rfl;simp only[ai];rfl)|refine au ?_|(apply av;rfl;rfl)|refine Qav ?_|refine kj rfl ?_|(apply aX;rfl;all_goals (intro hz;(try simp only[bA] at hz);first|(exact absurd hz (by decide))|(exfalso;omega)|skip))|exact aq rfl rfl)
   ·rw[if_neg (by omega),if_pos h1]
    refine P6 (st:=[.blk 129 5 [.v .nilFunc,.fn 104 [iW p l] [],.fn 105 [iW p l] [],.fn 106 [iW p l] [],.fn 107 [iW p l] []]]) ?_ hd bs
    refine K4.W rfl ?_
    unfold Xh
    simp only[aC,aG,List.cons_append,List.nil_append]
    have hm4:∀x y:D,D.m4 (.tN 5 1) (.loc 0 0) (I p.ez) x y=some (.loc 0 2):=fun x y=>by rw[h1];rfl
    repeat' (first|(apply bp;simp only[ai];rfl)|(apply aN;rfl)|(apply aA;rfl;rfl;(·first|exact cw cF|exact cQ (by omega));simp only[ai];rfl)|(apply Xg;rfl;rfl;rfl;rfl;exact hm4 _ _;simp only[ai];rfl)|(apply ar;rfl;exact ak;simp only[ai];rfl)|(apply aD;rfl;simp only[ai];rfl)|(apply aF;rfl;rfl;exact LB;rfl;simp only[ai];rfl)|(apply fJ;rfl;exact k5;rfl;rfl;(·exact ane hok hc hi (by omega));rfl;simp only[ai];rfl)|refine au ?_|(apply av;rfl;rfl)|refine Qav ?_|refine kj rfl ?_|(apply aX;rfl;all_goals (intro hz;(try simp only[bA] at hz);first|(exact absurd hz (by decide))|(exfalso;omega)|skip))|exact aq rfl rfl)
   ·rw[if_neg (by omega),if_neg (by omega),if_pos h1]
    refine P6 (st:=[.blk 129 5 [.v .nilFunc,.fn 104 [iW p l] [],.fn 105 [iW p l] [],.fn 106 [iW p l] [],.fn 107 [iW p l] []]]) ?_ hd bs
    refine K4.W rfl ?_
    unfold Xh
    simp only[aC,aG,List.cons_append,List.nil_append]
    have hm4:∀x y:D,D.m4 (.tN 5 1) (.loc 0 0) (I p.ez) x y=some (.loc 0 4):=fun x y=>by rw[h1];rfl
    repeat' (first|(apply bp;simp only[ai];rfl)|(apply aN;rfl)|(apply aA;rfl;rfl;(·first|exact cw cF|exact cQ (by omega));simp only[ai];rfl)|(apply Xg;rfl;rfl;rfl;rfl;exact hm4 _ _;simp only[ai];rfl)|(apply ar;rfl;exact ak;simp only[ai];rfl)|(apply aD;rfl;simp only[ai];rfl)|(apply aF;rfl;rfl;exact LB;rfl;simp only[ai];rfl)|(apply fJ;rfl;exact k7;rfl;rfl;(·exact anb hok hc hi (by omega));rfl;simp only[ai];rfl)|refine au ?_|(apply av;rfl;rfl)|refine Qav ?_|refine kj rfl ?_|(apply aX;rfl;all_goals (intro hz;(try simp only[bA] at hz);first|(exact absurd hz (by decide))|(exfalso;omega)|skip))|exact aq rfl rfl)
   ·rw[if_neg (by omega),if_neg (by omega),if_neg (by omega)]
    refine P6 (st:=[.blk 129 5 [.v .nilFunc,.fn 104 [iW p l] [],.fn 105 [iW p l] [],.fn 106 [iW p l] [],.fn 107 [iW p l] []]]) ?_ hd bs
    refine K4.W rfl ?_
    unfold Xh
    simp only[aC,aG,List.cons_append,List.nil_append]
    have hm4:∀x y:D,D.m4 (.tN 5 1) (.loc 0 0) (I p.ez) x y=some (.loc 0 3):=fun x y=>by rw[h1];rfl
    repeat' (first|(apply bp;simp only[ai];rfl)|(apply aN;rfl)|(apply aA;rfl;rfl;(·first|exact cw cF|exact cQ (by omega));simp only[ai];rfl)|(apply Xg;rfl;rfl;rfl;rfl;exact hm4 _ _;simp only[ai];rfl)|(apply ar;rfl;exact ak;simp only[ai];rfl)|(apply aD;rfl;simp only[ai];rfl)|(apply aF;rfl;rfl;exact LB;rfl;simp only[ai];rfl)|(apply fJ;rfl;exact k6;rfl;rfl;(·exact anc hok hc hi cF (by omega));rfl;simp only[ai];rfl)|refine au ?_|(apply av;rfl;rfl)|refine Qav ?_|refine kj rfl ?_|(apply aX;rfl;all_goals (intro hz;(try simp only[bA] at hz);first|(exact absurd hz (by decide))|(exfalso;omega)|skip))|exact aq rfl rfl)
 ·rw[if_neg (by omega),if_neg (by omega)]
  by_cases h0:(basis p l i aO).length=0
  ·rw[if_neg (by omega),Int.zero_add]
   have hW:bk Tryz.prog 56 (.st []) [iW p l,In aO,In i] (I p.mG) (.st []):=by
    refine K4.W rfl ?_
    unfold Xh
    simp only[aC,aG,List.cons_append,List.nil_append]
    repeat' (first|(apply aN;rfl)|(apply aA;rfl;rfl;(·first|exact cw cF|exact cQ (by omega));simp only[ai];rfl)|(apply ar;rfl;exact ak;simp only[ai];rfl)|(apply aD;rfl;simp only[ai];rfl)|(apply aF;rfl;rfl;exact LB;rfl;simp only[ai];rfl)|refine au ?_|(apply aX;rfl;all_goals (intro hz;(try simp only[bA] at hz);first|(exact absurd hz (by decide))|(exfalso;omega)|skip))|(apply aq;rfl;first|exact rfl|(refine bH ?_)|(refine bF ?_)|(refine bG ?_)))
   exact hW.bD (n:=1) hd rfl bs
  ·rw[if_pos (by omega)]
   have Ql:D.aj 1 (Is (lp (jO l i (basis p l i aO)))) (I 0)=some (.ptr [I (least l i (basis p l i aO))]):=iK (i:=0) (by omega)
   have hW:bk Tryz.prog 56 (.st []) [iW p l,In aO,In i] (I (least l i (basis p l i aO)+p.mG)) (.st []):=by
    refine K4.W rfl ?_
    unfold Xh
    simp only[aC,aG,List.cons_append,List.nil_append]
    repeat' (first|(apply aN;rfl)|(apply aA;rfl;rfl;(·first|exact cw cF|exact cQ (by omega)|exact Ql);simp only[ai];rfl)|(apply ar;rfl;exact ak;simp only[ai];rfl)|(apply bM;rfl;rfl;omega;simp only[ai];rfl)|(apply aD;rfl;simp only[ai];rfl)|(apply aF;rfl;rfl;(·first|exact LB|exact Te);rfl;simp only[ai];rfl)|refine au ?_|(apply aX;rfl;all_goals (intro hz;(try simp only[bA] at hz);first|(exact absurd hz (by decide))|(exfalso;omega)|skip))|(apply aq;rfl;first|exact rfl|(refine bH ?_)|(refine bF ?_)|(refine bG ?_)))
   exact hW.bD (n:=1) hd rfl bs
end

section
open Go.Proofs
set_option maxRecDepth 100000
set_option maxHeartbeats 4000000

attribute [local irreducible] gR fV dQ

variable {bs:List D} {p:aL} {c:aS} {l:List aS}

def Cb (p:aL)(c:aS)(i:Nat):Int:=cO p c i*p.late+Qay p c i*p.early

theorem ana (hok:p.ok=true)(hc:br p l=true){i aO:Nat}(hi:i<p.n)(cF:aO<l.length):aP Tryz.prog 108 (.st bs) [iW p l,In aO,In i] (.bh [I (l7 p (cd l aO) i),I (Cb p (cd l aO) i)]):=by
 have h:=(cr hc).2 aO cF
 have hd:=h.due hok hi
 have hm:=h.minute hi
 have hr:=aL.gd hok
 have oR:=Wy (bs:=bs) hok h hi
 by_cases GQ:FV p (cd l aO) i=true
 ·rcases Int.lt_trichotomy (jt p (cd l aO) i) ((cd l aO).ln i).minute with h1 | h1 | h1
  ·have hk:l7 p (cd l aO) i=1:=by rw[l7,if_pos GQ,if_pos h1]
   have hn:yu p (cd l aO) i=((cd l aO).ln i).minute-jt p (cd l aO) i:=by rw[yu,if_pos GQ,if_pos h1]
   have hp1:Cb p (cd l aO) i=(((cd l aO).ln i).minute-jt p (cd l aO) i)*p.late:=by
    have hl:cO p (cd l aO) i=((cd l aO).ln i).minute-jt p (cd l aO) i:=by rw[cO,if_pos GQ];omega
    have he:Qay p (cd l aO) i=0:=by unfold Qay;split <;> omega
    rw[Cb,hl,he,Int.zero_mul,Int.add_zero]
   have hmul:=mF (a:=((cd l aO).ln i).minute-jt p (cd l aO) i) (x:=200000) (by omega) hr.1
   rw[hk,hn] at oR
   rw[hk,hp1]
   refine K5.R rfl rfl ?_
   unfold QK
   simp only[aC,aG,List.cons_append,List.nil_append]
   repeat' (first|(apply aH;rfl;exact rfl)|(apply aN;rfl)|(apply aA;rfl;rfl;exact cw cF;simp only[ai];rfl)|(apply eX;rfl;rfl;(·exact kR (by omega));simp only[ai];rfl)|(apply aD;rfl;simp only[ai];rfl)|(apply aF;rfl;rfl;exact oR;rfl;simp only[ai];rfl)|refine au ?_|(apply aq;rfl;first|exact rfl|(refine bH ?_)|(refine bF ?_)|(refine bG ?_)))
  ·have hk:l7 p (cd l aO) i=0:=by rw[l7,if_pos GQ,if_neg (by omega),if_neg (by omega)]
   have hp1:Cb p (cd l aO) i=0:=by
    have hl:cO p (cd l aO) i=0:=by rw[cO,if_pos GQ];omega
    have he:Qay p (cd l aO) i=0:=by unfold Qay;split <;> omega
    rw[Cb,hl,he,Int.zero_mul,Int.zero_mul];rfl
   rw[hk] at oR
   rw[hk,hp1]
   refine K5.R rfl rfl ?_
   unfold QK
   simp only[aC,aG,List.cons_append,List.nil_append]
   repeat' (first|(apply bp;simp only[ai];rfl)|(apply ir;rfl;exact rfl)|(apply aK;rfl;exact rfl)|(apply aN;rfl)|(apply aA;rfl;rfl;exact cw cF;simp only[ai];rfl)|(apply aD;rfl;simp only[ai];rfl)|(apply aF;rfl;rfl;exact oR;rfl;simp only[ai];rfl)|refine au ?_|(apply av;rfl;rfl)|refine Qav ?_|refine kj rfl ?_|exact aq rfl rfl)
  ·have hk:l7 p (cd l aO) i=2:=by rw[l7,if_pos GQ,if_neg (by omega),if_pos (by omega)]
   have hn:yu p (cd l aO) i=jt p (cd l aO) i-((cd l aO).ln i).minute:=by rw[yu,if_pos GQ,if_neg (by omega)]
   have hl:cO p (cd l aO) i=0:=by rw[cO,if_pos GQ];omega
   have hmul:=mF (a:=jt p (cd l aO) i-((cd l aO).ln i).minute) (x:=200000) (by omega) hr.2.1
   rw[hk,hn] at oR
   rw[hk]
   cases hf:(p.it i).free
   ·have he:Qay p (cd l aO) i=jt p (cd l aO) i-((cd l aO).ln i).minute:=by
     rw[Qay,if_pos (by rw[GQ,hf];rfl)];omega
    have hfr:(true&&!(p.it i).free)=true:=by rw[hf];rfl
    rw[Cb,hl,he,Int.zero_mul,Int.zero_add]
    refine K5.R rfl rfl ?_
    unfold QK
    simp only[aC,aG,List.cons_append,List.nil_append]
    repeat' (first|(apply bp;simp only[ai];rfl)|(apply aH;rfl;exact hfr)|(apply aK;rfl;exact rfl)|(apply aN;rfl)|(apply aA;rfl;rfl;(·first|exact cw cF|exact dR hi);simp only[ai];rfl)|(apply eX;rfl;rfl;(·exact kR (by omega));simp only[ai];rfl)|(apply aD;rfl;simp only[ai];rfl)|(apply aF;rfl;rfl;exact oR;rfl;simp only[ai];rfl)|(apply bg;rfl)|refine au ?_|exact aq rfl rfl|(apply aq;rfl;first|exact rfl|(refine bH ?_)|(refine bF ?_)|(refine bG ?_))|(intro hz;(try simp only[bA] at hz)))
   ·have he:Qay p (cd l aO) i=0:=by rw[Qay,if_neg (by rw[hf];simp)]
    have hfr:(true&&!(p.it i).free)=false:=by rw[hf];rfl
    rw[Cb,hl,he,Int.zero_mul,Int.zero_mul]
    refine K5.R rfl rfl ?_
    unfold QK
    simp only[aC,aG,List.cons_append,List.nil_append]
    repeat' (first|(apply bp;simp only[ai];rfl)|(apply aK;rfl;(·first|exact rfl|exact hfr))|(apply aN;rfl)|(apply aA;rfl;rfl;(·first|exact cw cF|exact dR hi);simp only[ai];rfl)|(apply aD;rfl;simp only[ai];rfl)|(apply aF;rfl;rfl;exact oR;rfl;simp only[ai];rfl)|(apply bg;rfl)|refine au ?_|(apply av;rfl;rfl)|refine Qav ?_|refine kj rfl ?_|exact aq rfl rfl|(intro hz;(try simp only[bA] at hz)))
 ·have hk:l7 p (cd l aO) i=0:=by rw[l7,if_neg GQ]
  have hp1:Cb p (cd l aO) i=0:=by
   have hl:cO p (cd l aO) i=0:=by rw[cO,if_neg GQ]
   have he:Qay p (cd l aO) i=0:=by rw[Qay,if_neg (by simp[GQ])]
   rw[Cb,hl,he,Int.zero_mul,Int.zero_mul];rfl
  rw[hk] at oR
  rw[hk,hp1]
  refine K5.R rfl rfl ?_
  unfold QK
  simp only[aC,aG,List.cons_append,List.nil_append]
  repeat' (first|(apply bp;simp only[ai];rfl)|(apply ir;rfl;exact rfl)|(apply aK;rfl;exact rfl)|(apply aN;rfl)|(apply aA;rfl;rfl;exact cw cF;simp only[ai];rfl)|(apply aD;rfl;simp only[ai];rfl)|(apply aF;rfl;rfl;exact oR;rfl;simp only[ai];rfl)|refine au ?_|(apply av;rfl;rfl)|refine Qav ?_|refine kj rfl ?_|exact aq rfl rfl)

theorem am5 (hc:br p l=true){aO n:Nat}{m:Int}(hm:m+1=n)(hn:n≤p.n)(hN:p.n≤100)(cF:aO<l.length):aP Tryz.prog 123 (.st bs) [iW p l,In aO,I m] (Ix (tH p (cd l aO) n)):=by
 have h:=(cr hc).2 aO cF
 have qz:=h.len
 have abA:D.bin .add .int (I m) (I 1)=some (In n):=by
  show some (I (IntKind.i64.wrap (m+1)))=_
  rw[hm,wrap64 (by omega)]
 refine aeR.R rfl rfl ?_
 unfold adb
 simp only[aC,aG,List.cons_append,List.nil_append]
 repeat' (first|(apply eX;rfl;rfl;exact abA;simp only[ai];rfl)|refine au ?_)
 refine bf (fun k=>[Ix (tH p (cd l aO) k),In k]) (fun _=>True) n rfl (fun _=>rfl) trivial (fun k hk _ R hR=>?_) (fun _ R=>?_)
 ·have hlk:decide ((k:Int)<(n:Int))=true:=by simp;omega
  have hR:=hR trivial
  rw[Ee] at hR
  have Lv:=c55 (bs:=bs) (p:=p) cF k
  have nD:=xU (xs:=tH p (cd l aO) k) (x:=k) (by have:=UG (p:=p) (c:=cd l aO) (n:=k);omega)
  cases hj:(((cd l aO).ln k).jump&&gA p (cd l aO) k)
  ·rw[if_neg (by simp[hj])] at hR
   repeat' (first|(apply bp;simp only[ai];rfl)|(apply aH;rfl;exact hlk)|(apply aK;rfl;exact hj)|(apply aN;rfl)|(apply aA;rfl;rfl;(·first|exact cw cF|exact cQ (by omega));simp only[ai];rfl)|(apply aW;rfl;omega;simp only[ai];rfl)|(apply aD;rfl;simp only[ai];rfl)|(apply aF;rfl;rfl;exact Lv;rfl;simp only[ai];rfl)|(apply bg;rfl)|refine au ?_|(apply av;rfl;rfl)|refine Qav ?_|refine kj rfl ?_|exact aq rfl rfl|(intro hz;(try simp only[bA] at hz)))
   exact hR
  ·rw[if_pos hj] at hR
   repeat' (first|(apply bp;simp only[ai];rfl)|(apply aH;rfl;(·first|exact hlk|exact hj))|(apply aN;rfl)|(apply aA;rfl;rfl;(·first|exact cw cF|exact cQ (by omega));simp only[ai];rfl)|(apply mV;rfl;rfl;exact nD;simp only[ai];rfl)|(apply aW;rfl;omega;simp only[ai];rfl)|(apply aD;rfl;simp only[ai];rfl)|(apply aF;rfl;rfl;exact Lv;rfl;simp only[ai];rfl)|(apply bg;rfl)|refine au ?_|(apply av;rfl;rfl)|refine Qav ?_|refine kj rfl ?_|exact aq rfl rfl|(intro hz;(try simp only[bA] at hz)))
   exact hR
 ·have hlf:decide ((n:Int)<(n:Int))=false:=by simp
  repeat' (first|(apply bp;simp only[ai];rfl)|(apply aK;rfl;exact hlf)|(apply aD;rfl;simp only[ai];rfl)|(apply av;rfl;rfl)|refine Qav ?_|(refine aB (by decide) ?_)|refine kj rfl ?_|exact aq rfl rfl)

theorem am_ (hok:p.ok=true)(hc:br p l=true){i aO:Nat}(hi:i<p.n)(cF:aO<l.length)(hj:((cd l aO).ln i).jump=true)(hr:gA p (cd l aO) i=true):aP Tryz.prog 109 (.st bs) [iW p l,In aO,In i] (I (qx p (cd l aO) i)):=by
 have hh:=aL.gi hok
 have RO:=aL.gd hok
 have amn:=am5 (bs:=bs) hc (aO:=aO) (n:=i+1) (m:=i) (by omega) (by omega) hh.1.2 cF
 have hlen:(tH p (cd l aO) (i+1)).length=mI (cd l aO) i+1:=by
  rw[GH (.inr (by rwa [show((i+1:Nat):Int)-1=i by omega])),mI,if_pos hj]
 have Zw:D.aR (Ix (tH p (cd l aO) (i+1)))=some (In (mI (cd l aO) i+1)):=by
  rw[←hlen]
  exact ak
 have S_:D.mm false (In (mI (cd l aO) i+1)) (In p.jumps.length)=some (In (min (mI (cd l aO) i) (p.jumps.length-1)+1)):=by
  rw[In,In,No]
  congr 2
  omega
 have hle:=Ed (c:=cd l aO) i
 rw[qx,if_pos hj]
 refine aeZ.R rfl rfl ?_
 unfold adl
 simp only[aC,aG,List.cons_append,List.nil_append]
 repeat' (first|(apply aN;rfl)|(apply aA;rfl;rfl;(·exact iK (by omega));simp only[ai];rfl)|(apply ar;rfl;exact Zw;simp only[ai];rfl)|(apply Xf;rfl;rfl;exact S_;simp only[ai];rfl)|(apply ar;rfl;exact ak;simp only[ai];rfl)|(apply bZ;rfl;omega;simp only[ai];rfl)|(apply aD;rfl;simp only[ai];rfl)|(apply aF;rfl;rfl;exact amn;rfl;simp only[ai];rfl)|exact aq rfl rfl)

theorem c57 (hp:p.Ok)(hok:p.ok=true)(hc:br p l=true){aO:Nat}(cF:aO<l.length):aP Tryz.prog 57 (.st bs) [iW p l,In aO] (I (e_ p l aO)):=by
 have hh:=aL.gi hok
 have hcs:=cr hc
 have h:=hcs.2 aO cF
 have qz:=h.len
 refine akr.R rfl rfl ?_
 unfold u57
 simp only[aC,aG,List.cons_append,List.nil_append]
 repeat' (first|(apply aN;rfl)|(apply ar;rfl;exact cT;simp only[ai];rfl)|(apply aD;rfl;simp only[ai];rfl)|refine au ?_)
 refine bf (fun i=>[I (jw p l aO i),In i]) (fun _=>True) p.n rfl (fun _=>rfl) trivial (fun i hi _ R hR=>?_) (fun _ R=>?_)
 ·have hR:=hR trivial
  have gH:decide ((i:Int)<(p.n:Int))=true:=by simp;omega
  have Lv:=c55 (bs:=bs) (p:=p) cF i
  cases hr:gA p (cd l aO) i
  ·rw[hr] at Lv
   repeat' (first|(apply bp;simp only[ai];rfl)|(apply aH;rfl;(·first|exact gH|exact rfl))|(apply aD;rfl;simp only[ai];rfl)|(apply aF;rfl;rfl;exact Lv;rfl;simp only[ai];rfl)|refine au ?_|(apply av;rfl;rfl)|refine Qav ?_|(refine aB (by decide) ?_)|refine kj rfl ?_|(apply aq;rfl;first|exact rfl|(refine bH ?_)|(refine bF ?_)|(refine bG ?_)))
   rw[e_,w5 (Nat.le_of_lt hi) hr]
  ·rw[hr] at Lv
   rw[jw,if_pos hr] at hR
   have hb:=CY hok hc cF (i:=i) (by omega)
   have GN:=aL.yL hok hi
   have GV:=c54 (bs:=bs) (p:=p) (l:=l) hi
   have ZF:=c56 (bs:=bs) hp hok hc hi cF
   have LA:=ana (bs:=bs) hok hc hi cF
   have tM:=yf hok hc hi cF
   have tK:=Ec hok (cd l aO) i
   have hb3:=mF (h.late hok hi) (aL.gd hok).1
   have hb4:=mF (h.early hok hi) (aL.gd hok).2.1
   cases hk:(p.it i).kind==2
   ·have hj:=h.aaz hi (by simp at hk;omega)
    rw[oy,if_neg (by simpa using hk)] at hR
    rw[hk] at GV
    have hpc:Cb p (cd l aO) i=cO p (cd l aO) i*p.late+Qay p (cd l aO) i*p.early:=rfl
    repeat' (first|(apply bp;simp only[ai];rfl)|(apply aH;rfl;exact gH)|(apply aK;rfl;(·first|exact rfl|exact hj))|(apply aN;rfl)|(apply aA;rfl;rfl;(·first|exact cw cF|exact cQ (by omega));simp only[ai];rfl)|(apply aW;rfl;omega;simp only[ai];rfl)|(apply bM;rfl;rfl;omega;simp only[ai];rfl)|(apply aD;rfl;simp only[ai];rfl)|(apply aF;rfl;rfl;(·first|exact Lv|exact GV|exact LA);rfl;simp only[ai];rfl)|refine au ?_|(apply av;rfl;rfl)|refine Qav ?_|refine kj rfl ?_)
    exact hR
   ·have GQ:FV p (cd l aO) i=false:=by simp at hk;simp[FV,hk]
    have hpc:Cb p (cd l aO) i=0:=by simp[Cb,cO,Qay,GQ]
    rw[hk] at GV
    rw[hpc] at LA
    rw[oy,if_pos (by simpa using hk)] at hR
    cases hj:((cd l aO).ln i).jump
    ·have hjn:qx p (cd l aO) i=0:=by rw[qx,if_neg (by simp[hj])]
     rw[hjn] at hR
     repeat' (first|(apply bp;simp only[ai];rfl)|(apply aH;rfl;(·first|exact gH|exact rfl))|(apply aK;rfl;(·first|exact rfl|exact hj))|(apply aN;rfl)|(apply aA;rfl;rfl;(·first|exact cw cF|exact cQ (by omega));simp only[ai];rfl)|(apply aW;rfl;omega;simp only[ai];rfl)|(apply bM;rfl;rfl;omega;simp only[ai];rfl)|(apply aD;rfl;simp only[ai];rfl)|(apply aF;rfl;rfl;(·first|exact Lv|exact GV|exact ZF|exact LA);rfl;simp only[ai];rfl)|refine au ?_|(apply av;rfl;rfl)|refine Qav ?_|refine kj rfl ?_)
     rwa [Int.add_zero] at hR ⊢
    ·have amq:=am_ (bs:=bs) hok hc hi cF hj hr
     repeat' (first|(apply bp;simp only[ai];rfl)|(apply aH;rfl;(·first|exact gH|exact rfl|exact hj))|(apply aK;rfl;exact rfl)|(apply aN;rfl)|(apply aA;rfl;rfl;(·first|exact cw cF|exact cQ (by omega));simp only[ai];rfl)|(apply aW;rfl;omega;simp only[ai];rfl)|(apply bM;rfl;rfl;omega;simp only[ai];rfl)|(apply aD;rfl;simp only[ai];rfl)|(apply aF;rfl;rfl;(·first|exact Lv|exact GV|exact ZF|exact LA|exact amq);rfl;simp only[ai];rfl)|refine au ?_|(apply av;rfl;rfl)|refine Qav ?_|refine kj rfl ?_)
     rw[Int.add_zero,Int.add_assoc]
     exact hR
 ·have hlf:decide ((p.n:Int)<(p.n:Int))=false:=by simp
  repeat' (first|(apply bp;simp only[ai];rfl)|(apply aK;rfl;exact hlf)|(apply aD;rfl;simp only[ai];rfl)|(apply av;rfl;rfl)|refine Qav ?_|(refine aB (by decide) ?_)|refine kj rfl ?_|exact aq rfl rfl)
  all_goals exact rfl
end

section
open Go.Proofs
set_option maxRecDepth 100000
set_option maxHeartbeats 4000000

attribute [local irreducible] gR fV dQ

variable {bs:List D} {p:aL} {c:aS} {l:List aS}

theorem tE (hp:p.Ok)(hl:Qbz l)(hok:p.ok=true)(hc:br p l=true){k:Nat}(hk:k<l.length):aP Tryz.prog 23 (.st bs) [p.d,dM l,In k] (.bh [I (e_ p l k),I 0]):=by
 have JM:=zA (bs:=bs) hp hl hok hc
 have hn:=(cr hc).1
 have h46:=Ft (bs:=bs) k 0 (l.length-1)
 rw[uQ (by omega)] at h46
 have h57:=c57 (bs:=bs) hp hok hc hk
 refine aaQ.R rfl rfl ?_
 unfold u23
 simp only[aC,aG,List.cons_append,List.nil_append]
 repeat' (first|(apply bp;simp only[ai];rfl)|(apply aK;rfl;exact rfl)|(apply aN;rfl)|(apply ar;rfl;exact ak;simp only[ai];rfl)|(apply cC;rfl;rfl;omega;simp only[ai];rfl)|(apply aD;rfl;simp only[ai];rfl)|(apply aF;rfl;rfl;(·first|exact JM|exact h46|exact h57);rfl;simp only[ai];rfl)|(apply bL;rfl)|exact aq rfl rfl|(intro hz;(try simp only[bA] at hz)))
end

section
def fT (l:List Int):List Int:=(lp (l.map fun x=>-x)).map fun x=>-x

theorem vX (l:List Int):(fT l).Perm l:=by
 have:=(ue (l.map fun x=>-x)).map fun x:Int=>-x
 simpa[fT,List.map_map,Function.comp_def] using this
theorem rY (l:List Int):(fT l).length=l.length:=(vX l).length_eq
theorem BL (l:List Int):(fT l).Pairwise (·≥·):=by
 rw[fT,List.pairwise_map]
 exact(pL _).imp fun h=>by omega
theorem LJ {l:List Int}{x:Int}:x∈fT l↔x∈l:=(vX l).mem_iff

def ij:List Int→List Int→Int
 | [],[]=>0
 | [],_ :: _=>-1
 | _ :: _,[]=>1
 | x :: xs,y :: ys=>if x<y then -1 else if y<x then 1 else ij xs ys

def fE (x y:Int):Int:=if x<y then -1 else if y<x then 1 else 0

variable (pts:List (List Int)) (drop:Int)

def pt (i:Nat):List Int:=pts.getD i []
def fO (i:Nat):Int:=((fT (pt pts i)).take (((pt pts i).length:Int)-drop).toNat).foldl (·+·) 0

def L8 (a b:Nat):Int:=
 if fE (fO pts drop b) (fO pts drop a)≠0 then fE (fO pts drop b) (fO pts drop a) else ij (fT (pt pts b)) (fT (pt pts a))
end

section
open jy (lt Ord so)

theorem zu:∀xs ys:List Int,ij ys xs=- ij xs ys
 | [],[]=>rfl
 | [],_ :: _=>rfl
 | _ :: _,[]=>rfl
 | x :: xs,y :: ys=>by
  rw[ij,ij]
  have:=zu xs ys
  rcases Int.lt_trichotomy x y with h | h | h
  ·rw[if_neg (by omega),if_pos h,if_pos h]
   rfl
  ·rw[if_neg (by omega),if_neg (by omega),if_neg (by omega),if_neg (by omega)]
   exact this
  ·rw[if_pos h,if_neg (by omega),if_pos h]

theorem xR:∀xs ys zs:List Int,ij xs ys≤0→ij ys zs≤0→ij xs zs≤0
 | [],_,[],_,_=>by simp[ij]
 | [],_,_ :: _,_,_=>by simp[ij]
 | _ :: _,[],_,h,_=>by simp[ij] at h
 | x :: xs,y :: ys,[],_,h=>by simp[ij] at h
 | x :: xs,y :: ys,z :: zs,h1,h2=>by
  have ih:=xR xs ys zs
  rw[ij] at h1 h2 ⊢
  split at h1
  ·split at h2
   ·rw[if_pos (by omega)];omega
   ·split at h2
    ·omega
    ·rw[if_pos (by omega)];omega
  ·split at h1
   ·omega
   ·split at h2
    ·rw[if_pos (by omega)];omega
    ·split at h2
     ·omega
     ·rw[if_neg (by omega),if_neg (by omega)]
      exact ih h1 h2

variable (pts:List (List Int)) (drop:Int)

def mq (x y:Int):Int:=L8 pts drop x.toNat y.toNat

def xz (A:Nat→Nat→Bool)(i:Nat):List Nat→List Nat
 | []=>[i]
 | o :: r=>if A i o=true then i :: o :: r else o :: xz A i r

theorem rQ (A:Nat→Nat→Bool)(i:Nat):∀l:List Nat,(xz A i l).Perm (i :: l)
 | []=>.refl _
 | o :: r=>by
  rw[xz]
  split
  ·exact .refl _
  ·exact((rQ A i r).cons o).trans (.swap i o r)
end

section
open jy (lt Ord so)

/-! ## comparisons,one behind the other -/

structure ZZ (x:Nat→Nat→Int):Prop where
 neg:∀a b,x b a=- x a b
 trans:∀a b c,x a b≤0→x b c≤0→x a c≤0

def lx (x y:Int):Int:=if x≠0 then x else y

theorem ZZ.lx {x y:Nat→Nat→Int}(hx:ZZ x)(hy:ZZ y):ZZ fun a b=>lx (x a b) (y a b) where
 neg a b:=by
  have h1:=hx.neg a b
  have h2:=hy.neg a b
  unfold Sc.lx
  split <;> split <;> omega
 trans a b c h1 h2:=by
  have n1:=hx.neg a b
  have n2:=hx.neg b c
  have n3:=hx.neg a c
  have t1:=hx.trans a b c
  have t2:=hx.trans c a b
  have t3:=hx.trans b c a
  have t4:=hy.trans a b c
  unfold Sc.lx at *
  split at h1 <;> split at h2 <;> split <;> omega

theorem EX (x y:Int):fE y x=- fE x y:=by unfold fE;split <;> split <;> (try split) <;> omega
theorem Jf {x y:Int}:fE x y≤0↔x≤y:=by unfold fE;split <;> (try split) <;> omega
theorem jR {x y:Int}:fE x y=0↔x=y:=by unfold fE;split <;> (try split) <;> omega
theorem zw {x y:Int}:fE x y<0↔x<y:=by unfold fE;split <;> (try split) <;> omega

theorem Wm (f:Nat→Int):ZZ fun a b=>fE (f a) (f b) where
 neg a b:=EX _ _
 trans a b c h1 h2:=by
  rw[Jf] at *
  omega

theorem ab9 (f:Nat→Int):ZZ fun a b=>fE (f b) (f a) where
 neg a b:=EX _ _
 trans a b c h1 h2:=by
  rw[Jf] at *
  omega

theorem ab_ (f:Nat→List Int):ZZ fun a b=>ij (f a) (f b) where
 neg a b:=zu _ _
 trans a b c:=xR _ _ _

/-! ## the order of the cars -/

variable (p:aL) (l:List aS)

def uN (aO i:Nat):Bool:=(p.it i).kind==2&&(((cd l aO).ln i).mark==0&&decide (least l i (eY p l i (-1))=oC l i aO))
def jF (aO:Nat):Nat→Nat
 | 0=>0
 | i+1=>jF aO i+if uN p l aO i=true then 1 else 0
def jG (aO:Nat):Nat:=jF p l aO p.n
def ew (aO:Nat):Nat→List Int
 | 0=>[]
 | i+1=>if(p.it i).kind==2 then ew aO i++[cS p l aO i] else ew aO i
def iT (aO:Nat):List Int:=ew p l aO p.n

def vu (a b:Nat):Int:=lx (fE (e_ p l a) (e_ p l b)) (lx (fE (jG p l b) (jG p l a)) (lx (ij (iT p l a) (iT p l b)) (fE a b)))

theorem jo:ZZ (vu p l):=
 (Wm (e_ p l)).lx ((ab9 fun a=>(jG p l a:Int)).lx ((ab_ (iT p l)).lx (Wm fun a=>(a:Int))))

theorem Qdv {a b:Nat}:vu p l a b=0↔a=b:=by
 constructor
 ·intro h
  unfold vu lx at h
  have:fE (a:Int) (b:Int)=0:=by
   split at h <;> (try split at h) <;> (try split at h) <;> first | exact h | omega
  have:=jR.1 this
  omega
 ·intro h
  have:=(jo p l).neg a b
  subst h
  omega

def jZ (a b:Nat):Bool:=decide (vu p l a b<0)

variable {p l}

theorem Fe {a b c:Nat}(h1:jZ p l a b=true)(h2:jZ p l b c=true):jZ p l a c=true:=by
 simp only[jZ,decide_eq_true_eq] at *
 have t:=(jo p l).trans a b c (by omega) (by omega)
 rcases Int.lt_or_eq_of_le t with h | h
 ·exact h
 ·rw[Qdv] at h
  subst h
  have:=(jo p l).neg a b
  omega

theorem Ml {a b:Nat}(h1:jZ p l a b=true):jZ p l b a=false:=by
 simp only[jZ,decide_eq_true_eq,decide_eq_false_iff_not] at *
 have:=(jo p l).neg a b
 omega

theorem Ff {a b:Nat}(h:a≠b)(h1:jZ p l a b=false):jZ p l b a=true:=by
 simp only[jZ,decide_eq_true_eq,decide_eq_false_iff_not] at *
 have:=(jo p l).neg a b
 have h2:vu p l a b≠0:=fun e=>h ((Qdv p l).1 e)
 omega

theorem Mk {x y:List Nat}(h:x.Perm y)(hx:x.Pairwise fun a b=>jZ p l a b=true)(hy:y.Pairwise fun a b=>jZ p l a b=true):x=y:=
 h.eq_of_pairwise (fun a b _ _ h1 h2=>absurd (Ml h1) (by rw[h2];decide)) hx hy

def gl (p:aL)(l:List aS)(k:Nat):Bool:=decide (kX p (cd l k)<0)
def fW (p:aL)(l:List aS)(n:Nat):List Nat:=(List.range n).filter (gl p l)
def fo (p:aL)(l:List aS)(n:Nat):List Nat:=(List.range n).filter fun k=>!gl p l k

theorem p9 {n:Nat}:fW p l (n+1)=if gl p l n=true then fW p l n++[n] else fW p l n:=by
 unfold fW
 rw[List.range_succ,List.filter_append]
 cases h:gl p l n <;> simp[h]
theorem xk {n:Nat}:fo p l (n+1)=if gl p l n=true then fo p l n else fo p l n++[n]:=by
 unfold fo
 rw[List.range_succ,List.filter_append]
 cases h:gl p l n <;> simp[h]
theorem v8 {n:Nat}:(fW p l n).length≤n:=by simpa[fW] using List.length_filter_le (gl p l) (List.range n)
theorem vM {n:Nat}:(fo p l n).length≤n:=by simpa[fo] using List.length_filter_le (fun k=>!gl p l k) (List.range n)

def nU (p:aL)(l:List aS):Nat→List Nat
 | 0=>[]
 | n+1=>if gl p l n=true then xz (fun i o=>!jZ p l o i) n (nU p l n) else nU p l n
def cG (p:aL)(l:List aS):List Nat:=nU p l l.length

theorem lW:∀n,(nU p l n).Perm (fW p l n)
 | 0=>.refl _
 | n+1=>by
  rw[nU,p9]
  split
  ·exact(rQ _ n _).trans (((lW n).cons n).trans (List.perm_append_singleton n _).symm)
  ·exact lW n

theorem vS {n k:Nat}:k∈nU p l n↔k<n∧gl p l k=true:=by
 rw[(lW n).mem_iff]
 simp[fW]
theorem yP {k:Nat}:k∈cG p l↔k<l.length∧gl p l k=true:=vS
theorem Du:(cG p l).Nodup:=(lW _).nodup_iff.2 (List.Pairwise.filter _ List.nodup_range)
theorem uw:(cG p l).length=(fW p l l.length).length:=(lW _).length_eq

theorem Lc {i:Nat}:∀{x:List Nat},(∀a,a∈x→a≠i)→x.Pairwise (fun a b=>jZ p l a b=true)→(xz (fun i o=>!jZ p l o i) i x).Pairwise fun a b=>jZ p l a b=true
 | [],_,_=>by simp[xz]
 | o :: r,hn,h=>by
  have h1:=List.pairwise_cons.1 h
  rw[xz]
  split
  ·rename_i hb
   have hb:jZ p l o i=false:=by simpa using hb
   have hio:=Ff (hn o (List.mem_cons_self ..)) hb
   refine List.pairwise_cons.2 ⟨fun y hy=>?_,h⟩
   rcases List.mem_cons.1 hy with rfl | hy
   ·exact hio
   ·exact Fe hio (h1.1 y hy)
  ·rename_i hb
   have hb:jZ p l o i=true:=by simpa using hb
   refine List.pairwise_cons.2 ⟨fun y hy=>?_,Lc (fun a ha=>hn a (List.mem_cons_of_mem _ ha)) h1.2⟩
   rcases List.mem_cons.1 ((rQ _ i r).mem_iff.1 hy) with rfl | hy
   ·exact hb
   ·exact h1.1 y hy

theorem oG:∀n,(nU p l n).Pairwise fun a b=>jZ p l a b=true
 | 0=>.nil
 | n+1=>by
  rw[nU]
  split
  ·exact Lc (fun a ha=>by
    have:=(vS.1 ha).1
    omega) (oG n)
  ·exact oG n

theorem Ki {x:List Nat}(h:x.Perm (fW p l l.length))(hs:x.Pairwise fun a b=>jZ p l a b=true):x=cG p l:=
 Mk (h.trans (lW _).symm) hs (oG _)

/-! ## stages,one by one -/

theorem z8 {aO:Nat}:∀n,(ew p l aO n).length≤n
 | 0=>Nat.le_refl _
 | n+1=>by
  have:=z8 (aO:=aO) n
  rw[ew]
  split <;> simp <;> omega

theorem CT {aO:Nat}:∀n,jF p l aO n≤n
 | 0=>Nat.le_refl _
 | n+1=>by
  have:=CT (aO:=aO) n
  rw[jF]
  split <;> omega

/-! ## the power stage -/

theorem BC {c:Int→Int→Int}{dom:Int→Prop}(hO:Ord c dom):∀{x:List Int} {k:Nat} (hk:k<x.length),(∀a,a∈x→dom a)→x.Pairwise (lt c)→(x.filter fun y=>decide (lt c y x[k])).length=k
 | a :: x,0,_,hd,hs=>by
  have h1:=List.pairwise_cons.1 hs
  have:(a :: x).filter (fun y=>decide (lt c y ((a :: x)[0])))=[]:=by
   rw[List.filter_eq_nil_iff]
   intro y hy
   rw[decide_eq_true_eq]
   intro hl
   rcases List.mem_cons.1 hy with rfl | hy2
   ·exact hO.lt_asymm (hd _ (by simp)) (hd _ (by simp)) hl hl
   ·exact hO.lt_asymm (hd _ hy) (hd a (by simp)) hl (h1.1 y hy2)
  rw[this]
  rfl
 | a :: x,k+1,hk,hd,hs=>by
  have h1:=List.pairwise_cons.1 hs
  have hk2:k<x.length:=by simpa using hk
  have ih:=BC hO hk2 (fun b hb=>hd b (List.mem_cons_of_mem _ hb)) h1.2
  rw[List.getElem_cons_succ,List.filter_cons,if_pos (by rw[decide_eq_true_eq];exact h1.1 _ (List.getElem_mem hk2)),List.length_cons,ih]

def eF (p:aL)(l:List aS):List Nat:=if p.power<0 then[] else eY p l p.power.toNat (-1)
def powC (p:aL)(l:List aS)(x y:Int):Int:=fE (oC l p.power.toNat x.toNat) (oC l p.power.toNat y.toNat)

theorem DD (dom:Int→Prop):Ord (powC p l) dom where
 anti x y _ _:=by
  unfold powC
  rw[EX (oC l p.power.toNat x.toNat)]
  omega
 trans x y z _ _ _ h1 h2:=by
  unfold powC at h1 h2 ⊢
  rw[Jf] at h1 h2 ⊢
  omega

def Rg (p:aL)(l:List aS)(aO:Nat):Nat:=((eF p l).filter fun k:Nat=>decide (lt (powC p l) (k:Int) (aO:Int))).length

def jm (p:aL)(l:List aS)(aO:Nat):Int:=if aO∈eF p l then p.extra.getD (Rg p l aO) 0 else 0

def kL (p:aL)(l:List aS):List Int:=so (powC p l) ((eF p l).map Int.ofNat)

theorem Bo:(eF p l).Pairwise (·< ·):=by
 unfold eF
 split
 ·exact .nil
 ·exact List.Pairwise.filter _ List.pairwise_lt_range
theorem Kr {k:Nat}(h:k∈eF p l):k<l.length:=by
 unfold eF at h
 split at h
 ·simp at h
 ·exact(yQ.1 h).1
theorem Nc:((eF p l).map Int.ofNat).Nodup:=by
 rw[List.Nodup,List.pairwise_map]
 exact Bo.imp fun h e=>by simp only[Int.ofNat_eq_natCast] at e;omega
theorem Kq:(kL p l).Pairwise (lt (powC p l)):=jy.iL (DD fun _=>True) (fun _ _=>trivial) Nc
theorem rD:(kL p l).Perm ((eF p l).map Int.ofNat):=jy.lS _
theorem yG:(kL p l).length=(eF p l).length:=by simpa using(rD (p:=p) (l:=l)).length_eq
theorem DB {x:Int}(h:x∈kL p l):∃k,x=((k:Nat):Int)∧k∈eF p l:=by
 obtain⟨k,hk,rfl⟩:=List.mem_map.1 (rD.mem_iff.1 h)
 exact⟨k,rfl,hk⟩

theorem DC {k:Nat}(hk:k<(kL p l).length):jm p l ((kL p l)[k]).toNat=p.extra.getD k 0:=by
 have h:=BC (DD (p:=p) (l:=l) fun _=>True) hk (fun _ _=>trivial) Kq
 obtain⟨aO,hc,hm⟩:=DB (List.getElem_mem hk)
 rw[hc] at h ⊢
 rw[Int.toNat_natCast,jm,if_pos hm]
 have h2:Rg p l aO=k:=by
  rw[←h,Rg,(rD.filter _).length_eq,List.filter_map,List.length_map]
  rfl
 rw[h2]

def nZ (p:aL)(l:List aS)(k:Nat):List Int:=(List.range l.length).map fun aO:Nat=>if(aO:Int)∈(kL p l).take k then jm p l aO else 0

theorem EJ:nZ p l 0=List.replicate l.length 0:=by
 refine List.ext_getElem (by simp[nZ]) fun k h1 h2=>?_
 simp[nZ]
theorem AW {k:Nat}:(nZ p l k).length=l.length:=by simp[nZ]
theorem OA {k:Nat}(hk:k<(kL p l).length):nZ p l (k+1)=(nZ p l k).set ((kL p l)[k]).toNat (p.extra.getD k 0):=by
 obtain⟨aO,hc,hm⟩:=DB (List.getElem_mem hk)
 have hx:=DC hk
 rw[hc,Int.toNat_natCast] at hx
 rw[hc,Int.toNat_natCast]
 refine List.ext_getElem (by simp[nZ]) fun j h1 h2=>?_
 rw[List.getElem_set]
 simp only[nZ,List.getElem_map,List.getElem_range]
 have ht:(j:Int)∈(kL p l).take (k+1)↔(j:Int)∈(kL p l).take k∨(j:Int)=(aO:Int):=by
  rw[List.take_add_one,List.getElem?_eq_getElem hk,Option.toList_some,List.mem_append,List.mem_singleton,hc]
 by_cases hj:aO=j
 ·subst hj
  rw[if_pos (ht.2 (.inr rfl)),if_pos rfl,hx]
 ·rw[if_neg hj]
  have hn:¬(j:Int)=(aO:Int):=by omega
  simp only[ht,hn,or_false]

theorem G3 {aO:Nat}(h:aO<l.length):(nZ p l (kL p l).length).getD aO 0=jm p l aO:=by
 have hl:aO<(nZ p l (kL p l).length).length:=by rw[AW];exact h
 rw[List.getD_eq_getElem?_getD,List.getElem?_eq_getElem hl,Option.getD_some]
 simp only[nZ,List.getElem_map,List.getElem_range,List.take_length]
 split
 ·rfl
 ·rename_i hn
  rw[jm,if_neg]
  intro hm
  exact hn (rD.mem_iff.2 (List.mem_map.2 ⟨aO,hm,rfl⟩))

/-! ## placings -/

structure Jz where
 aO:Int
 counts:Bool
 out:Int
 total:Int
 place:Int
 X8:Int
 points:Int

def kZ (l:List aS)(o:List Nat)(k:Nat)(c:Int):Nat:=((o.take k).filter fun j=>(cd l j).cls==c).length

theorem He {o:List Nat}{k:Nat}(h:k<o.length){c:Int}:kZ l o (k+1) c=kZ l o k c+if((cd l o[k]).cls==c)=true then 1 else 0:=by
 unfold kZ
 rw[List.take_add_one,List.getElem?_eq_getElem h,Option.toList_some,List.filter_append,List.length_append]
 cases hb:(cd l o[k]).cls==c <;> simp[hb]
theorem Jg {o:List Nat}{k:Nat}{c:Int}:kZ l o k c≤k:=by
 have h1:=List.length_filter_le (fun j=>(cd l j).cls==c) (o.take k)
 have h2:=List.length_take_le k o
 unfold kZ
 omega

def FA (p:aL)(l:List aS)(o:List Nat)(k:Nat):Jz:=⟨(o.getD k 0:Nat),true,-1,e_ p l (o.getD k 0),k+1,kZ l o k (cd l (o.getD k 0)).cls+1,p.points.getD k 0+jm p l (o.getD k 0)⟩
def wj (p:aL)(l:List aS)(aO:Nat):Jz:=⟨aO,false,kX p (cd l aO),e_ p l aO,0,0,0⟩

def results (p:aL)(l:List aS):List Jz:=(List.range (cG p l).length).map (FA p l (cG p l))++(fo p l l.length).map (wj p l)
end

section
open Go.Proofs

noncomputable def u29:U:=(aI [.ev (.gE (.bB 14 y0)),
 .ev (.ld true 14 y2 y3),
 .call 53 y2 [y4,y1] [true,true],
 .ev (.cI 90 1 y2 (.const (.agg [(.v (.pointer none))]))),
 .ev (.gQ 1 y6 (.aU y2) (.az 0 y5)),
 .ev (.un .not (.az 1 y5))]
 (.ite y8 (.ret (.aa (.aa (.const (.bq [])) (.aa (ki 2) .ax)) (.aa y7 .ax))) (aI [.ev (.aR y1),
 .ev (.rep 8 y9 (.v (.int .i64 0))),
 .ev (.aR y1),
 .ev (.rep 8 y11 (.v (.int .i64 0))),
 .ev (.aR y1),
 .ev (.rep 24 y13 .cq),
 .ev (.aR y1),
 .join 0 3 (.loop 1 [(.const .cq),(.const (.bq [])),(ki 0),(.cI 1000000000 1 (.cI 1000000000 1 (.cI 1000000000 1 (.a_ 1000000000 1 (.a_ 1000000000 1 (.a_ 1000000000 1 y7 y10) y12) y14) (.cons (.bO y7 y10) .nil)) (.cons (.bO (.a_ 1000000000 1 y7 y10) y12) .nil)) (.cons (.bO (.a_ 1000000000 1 (.a_ 1000000000 1 y7 y10) y12) y14) .nil))] (aI [.ev (.bin .lss .int y18 y15)]
 (.ite y20 (aI [.join 2 3 (aI [.ev (.ld false 1 y19 (.aU (.a_ 1000000000 1 (.a_ 1000000000 1 (.a_ 1000000000 1 y7 y10) y12) y14))),
 .ev (.ld false 1 y19 (.aU y2)),
 .call 57 y19 [y22,y18] [true],
 .ev (.aj 1 y21 y18),
 .ev (.gQ 1 y19 y24 y23),
 .ev (.ld false 1 y25 (.aU y2)),
 .aY (.nn y26),
 .aY (.ay 15 y26),
 .ev (.ld false 1 y25 (.ay 15 y26)),
 .ev (.aj 1 y27 y18),
 .ev (.ld false 1 y25 y28),
 .ev (.bin .geq .int y29 (ki 0))]
 (.ite y30 (aI [.ev (.bz (.bt y18) (.const (.bq []))),
 .ev (.app 1 8 y17 y31)]
 (.jump 2 [y16,y32,y25] [])) (aI [.ev (.bz (.bt y18) (.const (.bq []))),
 .ev (.fU 3 1 8 y25 y16 y31),
 .aY (.ay 0 y3),
 .ev (.ld false 1 y32 (.ay 0 y3)),
 .ev (.aR y33),
 .join 3 1 (.loop 4 [(ki 0),y32] (aI [.ev (.bin .lss .int y35 y34)]
 (.ite y37 (aI [.join 5 1 (aI [.ev (.ld false 1 y36 (.aU y2)),
 .call 54 y36 [y38,y35] [true],
 .ev (.un .not y39)]
 (.ite y40 (.jump 5 [y36] []) (aI [.ev (.ld false 1 y36 (.aU (.cI 1000000000 1 (.cI 1000000000 1 (.a_ 1000000000 1 (.a_ 1000000000 1 (.a_ 1000000000 1 y7 y10) y12) y14) (.cons (.bO y7 y10) .nil)) (.cons (.bO (.a_ 1000000000 1 y7 y10) y12) .nil)))),
 .ev (.ld false 1 y36 (.aU (.cI 1000000000 1 (.cI 1000000000 1 (.a_ 1000000000 1 (.a_ 1000000000 1 (.a_ 1000000000 1 y7 y10) y12) y14) (.cons (.bO y7 y10) .nil)) (.cons (.bO (.a_ 1000000000 1 y7 y10) y12) .nil)))),
 .ev (.aj 1 y42 y18),
 .ev (.ld false 1 y36 y43),
 .ev (.ld false 1 y36 (.aU y2)),
 .call 56 y36 [y45,y18,y35] [true],
 .ev (.bz (.bt y46) (.const (.bq []))),
 .ev (.fU 3 1 8 y36 y44 y47),
 .ev (.aj 1 y41 y18),
 .ev (.gQ 1 y48 y49 (.apps y36 y44 y47)),
 .ev (.m4 .same (.ld false 1 y36 (.aU (.cI 1000000000 1 (.cI 1000000000 1 (.a_ 1000000000 1 (.a_ 1000000000 1 (.a_ 1000000000 1 y7 y10) y12) y14) (.cons (.bO y7 y10) .nil)) (.cons (.bO (.a_ 1000000000 1 y7 y10) y12) .nil)))) (.ld false 1 y48 (.aU (.cI 1000000000 1 (.cI 1000000000 1 (.a_ 1000000000 1 (.a_ 1000000000 1 (.a_ 1000000000 1 y7 y10) y12) y14) (.cons (.bO y7 y10) .nil)) (.cons (.bO (.a_ 1000000000 1 y7 y10) y12) .nil)))) .nil .nil),
 .ev (.ld false 1 y50 (.aU y2)),
 .bQ 64 y50 [y52,y35,(ki (-1))] [true],
 .call 65 y54 [y53,y18] [true],
 .chain false y55 (aI [.ev (.ld false 1 y54 (.aU y2)),
 .call 66 y54 [y56,y18,y35] [true],
 .ev (.ld false 1 y54 (.aU y2)),
 .call 67 y54 [y58,y53,y35] [true],
 .ev (.aj 1 y59 (ki 0)),
 .ev (.ld false 1 y54 y60),
 .ev (.bin .eql .int y57 y61)]
 (.ret y62)),
 .join 6 1 (.ite y56 (aI [.ev (.ld false 1 y54 (.aU (.cI 1000000000 1 (.a_ 1000000000 1 (.a_ 1000000000 1 (.a_ 1000000000 1 y7 y10) y12) y14) (.cons (.bO y7 y10) .nil)))),
 .ev (.aj 1 y57 y18),
 .ev (.ld false 1 y54 y58),
 .ev (.bin .add .int y59 (ki 1)),
 .ev (.aj 1 y57 y18),
 .ev (.gQ 1 y54 y61 y60)]
 (.jump 6 [y62] [])) (.jump 6 [y54] []))]
 (.jump 5 [y57] [])))),
 .ev (.bin .add .int y35 (ki 1))]
 (.jump 4 [y39,y38] [])) (.jump 3 [y36] []))))]
 (.jump 2 [(.apps y25 y16 y31),y17,y35] [])))),
 .ev (.bin .add .int y18 (ki 1))]
 (.jump 1 [y21,y22,y24,y23] [])) (.jump 0 [y16,y17,y19] [])))),
 .ev (.gV 70 .ax (.aa (.aU (.a_ 1000000000 1 (.a_ 1000000000 1 (.a_ 1000000000 1 y7 y10) y12) y14)) .ax)),
 .ev (.gV 72 .ax (.aa (.aU (.cI 1000000000 1 (.a_ 1000000000 1 (.a_ 1000000000 1 (.a_ 1000000000 1 y7 y10) y12) y14) (.cons (.bO y7 y10) .nil))) .ax)),
 .ev (.gV 73 .ax (.aa (.aU (.cI 1000000000 1 (.cI 1000000000 1 (.a_ 1000000000 1 (.a_ 1000000000 1 (.a_ 1000000000 1 y7 y10) y12) y14) (.cons (.bO y7 y10) .nil)) (.cons (.bO (.a_ 1000000000 1 y7 y10) y12) .nil))) .ax)),
 .ev (.bz (.bt y19) (.bz (.bt y20) (.bz (.bt y21) (.bz (.bt (.const (.fn 75 [] []))) (.const (.bq [])))))),
 .call 69 y18 [y22] [true],
 .bQ 68 y18 [y16,y23] [],
 .ev (.aR y1),
 .ev (.rep 8 y26 (.v (.int .i64 0))),
 .aY (.ay 2 y3),
 .aY (.ay 9 (.ay 2 y3)),
 .ev (.ld false 1 y25 (.ay 9 (.ay 2 y3))),
 .ev (.bin .geq .int y28 (ki 0)),
 .join 0 2 (.ite y29 (aI [.ev (.ld false 1 y25 (.aU y2)),
 .aY (.ay 2 y3),
 .aY (.ay 9 (.ay 2 y3)),
 .ev (.ld false 1 y25 (.ay 9 (.ay 2 y3))),
 .bQ 64 y25 [y30,y31,(ki (-1))] [true],
 .ev (.gV 77 .ax (.aa (.aU y2) (.aa y3 .ax))),
 .bQ 76 y33 [y32,y34] [],
 .ev (.aR y32),
 .join 1 1 (.loop 2 [(ki 0),y27] (aI [.ev (.bin .lss .int y38 y37)]
 (.ite y40 (aI [.join 3 1 (aI [.ev (.aj 1 y32 y38),
 .ev (.ld false 1 y36 y41),
 .aY (.ay 2 y3),
 .aY (.ay 11 (.ay 2 y3)),
 .ev (.ld false 1 y36 (.ay 11 (.ay 2 y3))),
 .call 78 y36 [y43,y38] [true],
 .ev (.idx y39 y42),
 .ev (.set y39 y42 0 y44)]
 (.jump 3 [y46] [])),
 .ev (.bin .add .int y38 (ki 1))]
 (.jump 2 [y42,y41] [])) (.jump 1 [y39] []))))]
 (.jump 0 [y38,y36] [])) (.jump 0 [y27,y25] [])),
 .aY (.ay 1 y3),
 .ev (.ld false 1 y31 (.ay 1 y3)),
 .ev (.rep 8 y32 (.v (.int .i64 0))),
 .ev (.aR y16),
 .join 0 1 (.loop 1 [(.const (.bq [])),(ki 0),y33] (aI [.ev (.bin .lss .int y36 y34)]
 (.ite y38 (aI [.join 2 2 (aI [.ev (.aj 1 y16 y36),
 .ev (.ld false 1 y31 y39),
 .ev (.aj 3 y1 y40),
 .aY (.ay 0 y41),
 .ev (.ld false 1 y31 (.ay 0 y41)),
 .ev (.idx y37 y42),
 .ev (.cell 0 (.idx y37 y42)),
 .ev (.bin .add .int y44 (ki 1)),
 .ev (.idx y37 y42),
 .ev (.set y37 y42 0 y45),
 .ev (.ld false 1 y31 (.aU (.a_ 1000000000 1 (.a_ 1000000000 1 (.a_ 1000000000 1 y7 y10) y12) y14))),
 .ev (.aj 1 y48 y40),
 .ev (.ld false 1 y31 y49),
 .ev (.bin .add .int y36 (ki 1)),
 .ev (.idx y47 y42),
 .ev (.cell 0 (.idx y47 y42)),
 .aY (.ay 2 y3),
 .aY (.ay 10 (.ay 2 y3)),
 .ev (.ld false 1 y31 (.ay 10 (.ay 2 y3))),
 .call 78 y31 [y54,y36] [true],
 .ev (.idx y30 y40),
 .ev (.cell 0 (.idx y30 y40)),
 .ev (.bin .add .int y55 y57),
 .ev (.cons (.bt y40) (.cons (.bt (kb true)) (.cons (.bt (ki (-1))) (.cons (.bt y50) (.cons (.bt y51) (.cons (.bt y53) (.cons (.bt y58) .nil))))))),
 .ev (.bz (.bB 7 y59) (.const (.bq []))),
 .ev (.app 7 56 y35 y60)]
 (.jump 2 [y61,y47] [])),
 .ev (.bin .add .int y36 (ki 1))]
 (.jump 1 [y39,y41,y40] [])) (.jump 0 [y35] [])))),
 .ev (.aR y17),
 .join 0 1 (.loop 1 [y35,(ki 0)] (aI [.ev (.bin .lss .int y38 y36)]
 (.ite y39 (aI [.join 2 1 (aI [.ev (.aj 1 y17 y38),
 .ev (.ld false 1 y31 y40),
 .ev (.ld false 1 y31 (.aU y2)),
 .aY (.nn y42),
 .aY (.ay 15 y42),
 .ev (.ld false 1 y31 (.ay 15 y42)),
 .ev (.aj 1 y43 y41),
 .ev (.ld false 1 y31 y44),
 .ev (.ld false 1 y31 (.aU (.a_ 1000000000 1 (.a_ 1000000000 1 (.a_ 1000000000 1 y7 y10) y12) y14))),
 .ev (.aj 1 y46 y41),
 .ev (.ld false 1 y31 y47),
 .ev (.cons (.bt y41) (.cons (.const (.agg [(.v (.bool false))])) (.cons (.bt y45) (.cons (.bt y48) (.cons (.const (.agg [(.v (.int .i64 0))])) (.cons (.const (.agg [(.v (.int .i64 0))])) (.cons (.const (.agg [(.v (.int .i64 0))])) .nil))))))),
 .ev (.bz (.bB 7 y49) (.const (.bq []))),
 .ev (.app 7 56 y37 y50)]
 (.jump 2 [y51] [])),
 .ev (.bin .add .int y38 (ki 1))]
 (.jump 1 [y40,y41] [])) (.jump 0 [y37] []))))]
 (.ret (.aa (.aa y37 (.aa (ki 0) .ax)) (.aa y31 .ax))))))
theorem aeO:cm Tryz.prog 29 .plain (scg [64] [6,8] true [(7,1000037),(7,1000040),(7,1000043),(7,1000010),(7,1000011),(7,1000012)] Tryz.f29) [false,true] u29:=cm.plain Tryz.func29 (by kernel_rfl) (by kernel_rfl)

noncomputable def u10:U:=(aI [.aY (.bB 14 y0),
 .call 15 y2 [(fN 14 y0)] [true],
 .ev (.un .not y3),
 .chain true y4 (aI [.call 16 y2 [y1,(ki 20)] [true],
 .ev (.un .not y5)]
 (.ret y6)),
 .chain true y5 (aI [.call 20 y2 [(fN 14 y0)] [true],
 .ev (.un .not y6)]
 (.ret y7)),
 .chain true y6 (aI [.call 24 y2 [(fN 14 y0),y1] [true],
 .ev (.un .not y7)]
 (.ret y8))]
 (.ite y7 (aI [.call 17 y2 [] [true]]
 (.ret (.aa y8 (.aa y2 .ax)))) (aI [.call 29 y2 [(fN 14 y0),y1] [true,true],
 .ev (.bin .neq .int (.az 1 y8) (ki 0)),
 .chain true y9 (aI [.aY (.az 0 y8),
 .ev (.aR (.az 0 y8)),
 .ev (.aR y1),
 .ev (.bin .neq .int y10 y11)]
 (.ret y12))]
 (.ite y10 (.ret (.aa (kb false) (.aa y2 .ax))) (aI [.ev (.aR y1),
 .ev (.rep 1 y11 (.v (.bool false))),
 .ev (.rep 8 (.cell 1 y0) (.v (.int .i64 0))),
 .join 0 1 (.loop 1 [(ki 0),(ki 0),y12,y13] (aI [.ev (.aR (.az 0 y8)),
 .ev (.bin .lss .int y15 y18)]
 (.ite y19 (aI [.join 2 3 (aI [.ev (.aj 7 (.az 0 y8) y15),
 .ev (.ld true 7 y2 y20),
 .aY (.bB 7 y21),
 .ev (.bin .lss .int (.cell 0 y21) (ki 0)),
 .chain true y22 (aI [.aY (.cell 0 y21),
 .ev (.aR y1),
 .ev (.bin .geq .int (.cell 0 y21) y23)]
 (.ret y24)),
 .chain true y23 (aI [.aY (.cell 0 y21),
 .ev (.idx y16 (.cell 0 y21)),
 .ev (.cell 0 (.idx y16 (.cell 0 y21)))]
 (.ret y25))]
 (.ite y24 (.ret (.aa (kb false) (.aa y2 .ax))) (aI [.ev (.idx y16 (.cell 0 y21)),
 .ev (.set y16 (.cell 0 y21) 0 (kb true)),
 .ev (.aj 3 y1 (.cell 0 y21)),
 .ev (.ld true 3 y2 y27),
 .call 36 y2 [(fN 14 y0),y28] [true,true],
 .call 23 y2 [(fN 14 y0),y1,(.cell 0 y21)] [true,true],
 .ev (.bin .neq .int (.az 1 y29) (ki 0)),
 .chain true y31 (aI [.aY (.az 1 y30),
 .ev (.bin .neq .int (.az 1 y30) (ki 0))]
 (.ret y32)),
 .chain true y32 (aI [.aY (.cell 2 y21),
 .aY (.az 0 y29),
 .ev (.bin .neq .int (.cell 2 y21) (.az 0 y29))]
 (.ret y33)),
 .chain true y33 (aI [.aY (.cell 3 y21),
 .aY (.az 0 y30),
 .ev (.bin .neq .int (.cell 3 y21) (.az 0 y30))]
 (.ret y34)),
 .chain true y34 (aI [.aY (.cell 1 y21),
 .aY (.az 0 y29),
 .ev (.bin .lss .int (.az 0 y29) (ki 0)),
 .ev (.bin .neq .bool (.cell 1 y21) y35)]
 (.ret y36)),
 .chain true y35 (aI [.ev (.bin .gtr .int y15 (ki 0)),
 .chain false y36 (aI [.aY (.cell 1 y21)]
 (.ret (.cell 1 y21))),
 .chain false y37 (aI [.aY (.az 0 y8),
 .ev (.bin .sub .int y15 (ki 1)),
 .ev (.aj 7 (.az 0 y8) y38),
 .aY (.ay 1 y39),
 .ev (.ld false 1 y2 (.ay 1 y39)),
 .ev (.un .not y40)]
 (.ret y41))]
 (.ret y38))]
 (.ite y36 (.ret (.aa (kb false) (.aa y2 .ax))) (aI [.ev (.un .not (.cell 1 y21))]
 (.ite y37 (aI [.ev (.bin .neq .int (.cell 4 y21) (ki 0)),
 .chain true y38 (aI [.aY (.cell 5 y21),
 .ev (.bin .neq .int (.cell 5 y21) (ki 0))]
 (.ret y39)),
 .chain true y39 (aI [.aY (.cell 6 y21),
 .ev (.bin .neq .int (.cell 6 y21) (ki 0))]
 (.ret y40)),
 .chain true y40 (aI [.ev (.bin .gtr .int y15 (ki 0)),
 .chain false y41 (aI [.aY (.az 0 y8),
 .ev (.bin .sub .int y15 (ki 1)),
 .ev (.aj 7 (.az 0 y8) y42),
 .aY (.ay 1 y43),
 .ev (.ld false 1 y2 (.ay 1 y43)),
 .ev (.un .not y44)]
 (.ret y45)),
 .chain false y42 (aI [.aY (.az 0 y8),
 .ev (.bin .sub .int y15 (ki 1)),
 .ev (.aj 7 (.az 0 y8) y43),
 .aY (.ay 0 y44),
 .ev (.ld false 1 y2 (.ay 0 y44)),
 .aY (.cell 0 y21),
 .ev (.bin .gtr .int y45 (.cell 0 y21))]
 (.ret y46))]
 (.ret y43))]
 (.ite y41 (.ret (.aa (kb false) (.aa y2 .ax))) (.jump 2 [y14,y26,y17] [(.az 0 y29),(.az 1 y29),(.az 0 y30),(.az 1 y30),(.cell 0 y21),(.cell 0 y21),(.aa (.az 0 y29) (.aa (.az 1 y29) .ax)),(.cell 0 y21),(.aa (.az 0 y29) (.aa (.az 1 y29) .ax)),(.az 0 y29),(.az 1 y29),(.aa (.az 0 y30) (.aa (.az 1 y30) .ax)),(.cell 0 y21),(.aa (.az 0 y30) (.aa (.az 1 y30) .ax)),(.az 0 y30),(.az 1 y30),(.az 1 y29),(.cell 1 y21),(.cell 0 y21),(.cell 1 y21),(.cell 2 y21),(.cell 3 y21),(.cell 4 y21),(.cell 5 y21),(.cell 6 y21)]))) (aI [.ev (.aj 3 y1 (.cell 0 y21)),
 .aY (.ay 0 y38),
 .ev (.ld false 1 y2 (.ay 0 y38)),
 .ev (.idx y17 y39),
 .ev (.cell 0 (.idx y17 y39)),
 .ev (.bin .add .int y41 (ki 1)),
 .ev (.idx y17 y39),
 .ev (.set y17 y39 0 y42),
 .ev (.bin .add .int y15 (ki 1)),
 .ev (.bin .neq .int (.cell 4 y21) y45),
 .chain true y46 (aI [.aY (.cell 5 y21),
 .ev (.idx y44 y39),
 .ev (.cell 0 (.idx y44 y39)),
 .ev (.bin .neq .int (.cell 5 y21) y48)]
 (.ret y49)),
 .chain true y47 (aI [.ev (.bin .gtr .int y15 (ki 0)),
 .chain false y48 (aI [.aY (.az 0 y8),
 .ev (.bin .sub .int y15 (ki 1)),
 .ev (.aj 7 (.az 0 y8) y49),
 .aY (.ay 3 y50),
 .ev (.ld false 1 y2 (.ay 3 y50)),
 .aY (.cell 3 y21),
 .ev (.bin .gtr .int y51 (.cell 3 y21))]
 (.ret y52))]
 (.ret y49)),
 .chain true y48 (aI [.aY (.cell 6 y21),
 .ev (.bin .lss .int (.cell 6 y21) (ki 0))]
 (.ret y49))]
 (.ite y49 (.ret (.aa (kb false) (.aa y2 .ax))) (aI [.ev (.bin .add .int y14 (.cell 6 y21))]
 (.jump 2 [y50,y26,y44] [(.az 0 y29),(.az 1 y29),(.az 0 y30),(.az 1 y30),(.cell 0 y21),(.cell 0 y21),(.aa (.az 0 y29) (.aa (.az 1 y29) .ax)),(.cell 0 y21),(.aa (.az 0 y29) (.aa (.az 1 y29) .ax)),(.az 0 y29),(.az 1 y29),(.aa (.az 0 y30) (.aa (.az 1 y30) .ax)),(.cell 0 y21),(.aa (.az 0 y30) (.aa (.az 1 y30) .ax)),(.az 0 y30),(.az 1 y30),(.az 1 y29),(.cell 1 y21),(.cell 0 y21),(.cell 1 y21),(.cell 2 y21),(.cell 3 y21),(.cell 4 y21),(.cell 5 y21),(.cell 6 y21)])))))))))),
 .ev (.bin .add .int y15 (ki 1))]
 (.jump 1 [y20,y23,y21,y22] [])) (.jump 0 [y14] [])))),
 .join 0 1 (.loop 1 [(ki 0),(ki 0)] (aI [.ev (.aR (.cell 12 y0)),
 .ev (.bin .lss .int y16 y17)]
 (.ite y18 (aI [.join 2 1 (aI [.ev (.aj 1 (.cell 12 y0) y16),
 .ev (.ld false 1 y2 y19),
 .ev (.bin .add .int y15 y20)]
 (.jump 2 [y21] [])),
 .ev (.bin .add .int y16 (ki 1))]
 (.jump 1 [y19,y20] [])) (.jump 0 [y15] [])))),
 .join 0 1 (.loop 1 [y15,(ki 0)] (aI [.ev (.aR (.cell 13 y0)),
 .ev (.bin .lss .int y17 y18)]
 (.ite y19 (aI [.join 2 1 (aI [.ev (.aj 1 (.cell 13 y0) y17),
 .ev (.ld false 1 y2 y20),
 .ev (.bin .add .int y16 y21)]
 (.jump 2 [y22] [])),
 .ev (.bin .add .int y17 (ki 1))]
 (.jump 1 [y20,y21] [])) (.jump 0 [y16] [])))),
 .ev (.bin .leq .int y14 y16),
 .chain false y17 (aI [.call 17 y2 [] [true]]
 (.ret y18))]
 (.ret (.aa y18 (.aa y2 .ax))))))))
theorem aaR:cm Tryz.prog 10 .plain (bE true [] [] Tryz.f10) [false,true] u10:=cm.plain Tryz.func10 (by kernel_rfl) (by kernel_rfl)

noncomputable def u69:U:=(aI [.ev (.gE (.cons (.bt y0) .nil)),
 .ev (.gV 114 .ax (.aa y2 .ax))]
 (.ret (.aa y3 (.aa y1 .ax))))
theorem akh:cm Tryz.prog 69 .plain (bE true [] [] Tryz.f69) [true] u69:=cm.plain Tryz.func69 (by kernel_rfl) (by kernel_rfl)

noncomputable def u70:U:=(aI [.ev (.ld false 1 y3 y2),
 .ev (.aj 1 y4 y0),
 .ev (.ld false 1 y3 y5),
 .ev (.ld false 1 y3 y2),
 .ev (.aj 1 y7 y1),
 .ev (.ld false 1 y3 y8),
 .call 71 y3 [y6,y9] [true]]
 (.ret (.aa y10 (.aa y3 .ax))))
theorem akg:cm Tryz.prog 70 .plain (bE true [] [] Tryz.f70) [true,true,true] u70:=cm.plain Tryz.func70 (by kernel_rfl) (by kernel_rfl)

noncomputable def u72:U:=(aI [.ev (.ld false 1 y3 y2),
 .ev (.aj 1 y4 y1),
 .ev (.ld false 1 y3 y5),
 .ev (.ld false 1 y3 y2),
 .ev (.aj 1 y7 y0),
 .ev (.ld false 1 y3 y8),
 .call 71 y3 [y6,y9] [true]]
 (.ret (.aa y10 (.aa y3 .ax))))
theorem ake:cm Tryz.prog 72 .plain (bE true [] [] Tryz.f72) [true,true,true] u72:=cm.plain Tryz.func72 (by kernel_rfl) (by kernel_rfl)

noncomputable def u73:U:=(aI [.ev (.ld false 1 y3 y2),
 .ev (.aj 1 y4 y0),
 .ev (.ld false 1 y3 y5),
 .ev (.ld false 1 y3 y2),
 .ev (.aj 1 y7 y1),
 .ev (.ld false 1 y3 y8),
 .call 74 y3 [y6,y9] [true]]
 (.ret (.aa y10 (.aa y3 .ax))))
theorem akd:cm Tryz.prog 73 .plain (bE true [] [] Tryz.f73) [true,true,true] u73:=cm.plain Tryz.func73 (by kernel_rfl) (by kernel_rfl)

noncomputable def u75:U:=(aI [.call 71 y2 [y0,y1] [true]]
 (.ret (.aa y3 (.aa y2 .ax))))
theorem akb:cm Tryz.prog 75 .plain (bE true [] [] Tryz.f75) [true,true] u75:=cm.plain Tryz.func75 (by kernel_rfl) (by kernel_rfl)

noncomputable def u77:U:=(aI [.ev (.ld false 1 y4 y2),
 .aY (.ay 2 y3),
 .aY (.ay 9 (.ay 2 y3)),
 .ev (.ld false 1 y4 (.ay 9 (.ay 2 y3))),
 .call 66 y4 [y5,y0,y6] [true],
 .ev (.ld false 1 y4 y2),
 .aY (.ay 2 y3),
 .aY (.ay 9 (.ay 2 y3)),
 .ev (.ld false 1 y4 (.ay 9 (.ay 2 y3))),
 .call 66 y4 [y8,y1,y9] [true],
 .call 71 y4 [y7,y10] [true]]
 (.ret (.aa y11 (.aa y4 .ax))))
theorem aka:cm Tryz.prog 77 .plain (bE true [] [] Tryz.f77) [true,true,true,true] u77:=cm.plain Tryz.func77 (by kernel_rfl) (by kernel_rfl)

noncomputable def adi:U:=(aI [.ev (.ld false 1 y3 y2),
 .ev (.aR y4),
 .join 0 0 (.loop 1 [(ki 0)] (aI [.ev (.bin .lss .int y6 y5)]
 (.ite y7 (aI [.join 2 0 (aI [.ev (.aj 1 y4 y6),
 .ev (.ld false 1 y3 y8),
 .fu y9 y3 [y0,y1] [true],
 .ev (.bin .neq .int y10 (ki 0))]
 (.ite y11 (.ret (.aa y10 (.aa y3 .ax))) (.jump 2 [] []))),
 .ev (.bin .add .int y6 (ki 1))]
 (.jump 1 [y8] [])) (.jump 0 [] []))))]
 (.ret (.aa (ki 0) (.aa y3 .ax))))
theorem aeW:cm Tryz.prog 114 .plain (bE true [] [] Tryz.f114) [true,true,true] adi:=cm.plain Tryz.func114 (by kernel_rfl) (by kernel_rfl)
end

section
open Go.Proofs

noncomputable def u71:U:=(aI [.call 115 y2 [y0] [true],
 .call 115 y2 [y1] [true]]
 (.ite y3 (.ite y4 (.ret (.aa (ki 0) (.aa y2 .ax))) (.ret (.aa (ki (-1)) (.aa y2 .ax)))) (.ite y4 (.ret (.aa (ki 1) (.aa y2 .ax))) (aI [.ev (.bin .lss .int y0 y1)]
 (.ite y5 (.ret (.aa (ki (-1)) (.aa y2 .ax))) (aI [.ev (.bin .gtr .int y0 y1)]
 (.ite y6 (.ret (.aa (ki 1) (.aa y2 .ax))) (.ret (.aa (ki 0) (.aa y2 .ax))))))))))
theorem akf:cm Tryz.prog 71 .plain (bE true [] [] Tryz.f71) [true,true] u71:=cm.plain Tryz.func71 (by kernel_rfl) (by kernel_rfl)

noncomputable def u74:U:=(aI [.ev (.aR y0),
 .join 0 0 (.loop 1 [(ki 0)] (aI [.ev (.bin .lss .int y4 y3)]
 (.ite y5 (aI [.join 2 0 (aI [.ev (.aj 1 y0 y4),
 .ev (.ld false 1 y2 y6),
 .ev (.aR y1),
 .ev (.bin .geq .int y4 y8)]
 (.ite y9 (.ret (.aa (ki 1) (.aa y2 .ax))) (aI [.ev (.aj 1 y1 y4),
 .ev (.ld false 1 y2 y10),
 .call 71 y2 [y7,y11] [true],
 .ev (.bin .neq .int y12 (ki 0))]
 (.ite y13 (.ret (.aa y12 (.aa y2 .ax))) (.jump 2 [] []))))),
 .ev (.bin .add .int y4 (ki 1))]
 (.jump 1 [y6] [])) (.jump 0 [] [])))),
 .ev (.aR y0),
 .ev (.aR y1),
 .ev (.bin .lss .int y4 y5)]
 (.ite y6 (.ret (.aa (ki (-1)) (.aa y2 .ax))) (.ret (.aa (ki 0) (.aa y2 .ax)))))
theorem akc:cm Tryz.prog 74 .plain (bE true [] [] Tryz.f74) [true,true] u74:=cm.plain Tryz.func74 (by kernel_rfl) (by kernel_rfl)

noncomputable def adh:U:=(aI [.ev (.bin .neq .int y0 y0)]
 (.ret (.aa y2 (.aa y1 .ax))))
theorem aeV:cm Tryz.prog 115 .plain (bE true [] [] Tryz.f115) [true] adh:=cm.plain Tryz.func115 (by kernel_rfl) (by kernel_rfl)
end

section
open Go.Proofs
set_option maxRecDepth 100000
set_option maxHeartbeats 4000000

attribute [local irreducible] gR fV

variable {bs:List D}

theorem am6 (x:Int):aP Tryz.prog 115 (.st bs) [I x] (B false):=by
 refine aeV.R rfl rfl ?_
 unfold adh
 simp only[aC,aG,List.cons_append,List.nil_append]
 repeat' (first|(apply aD;rfl;simp only[ai];rfl)|(apply aq;rfl;first|exact rfl|(refine bH ?_)|(refine bF ?_)|(refine bG ?_)))
 simp

theorem c71 (x y:Int):aP Tryz.prog 71 (.st bs) [I x,I y] (I (fE x y)):=by
 refine akf.R rfl rfl ?_
 unfold u71
 simp only[aC,aG,List.cons_append,List.nil_append]
 repeat' (first|(apply aK;rfl;exact rfl)|(apply aD;rfl;simp only[ai];rfl)|(apply aF;rfl;rfl;exact am6 _;rfl;simp only[ai];rfl)|(apply aX;rfl;all_goals (intro hz;(try simp only[bA] at hz);first|(exact absurd hz (by decide))|(exfalso;omega)|skip))|(apply aq;rfl;first|exact rfl|(refine bH ?_)|(refine bF ?_)|(refine bG ?_)))
 all_goals (unfold fE;first | (rw[if_pos (by omega)];done) | (rw[if_neg (by omega),if_pos (by omega)];done) | (rw[if_neg (by omega),if_neg (by omega)];done))

theorem pE:∀{xs ys:List Int} {i:Nat},(∀k (h:k<i) (h1:k<xs.length) (h2:k<ys.length),xs[k]=ys[k])→i≤xs.length→i≤ys.length→ij xs ys=ij (xs.drop i) (ys.drop i)
 | xs,ys,0,_,_,_=>rfl
 | [],_,i+1,_,h1,_=>absurd h1 (by simp)
 | _ :: _,[],i+1,_,_,h2=>absurd h2 (by simp)
 | x :: xs,y :: ys,i+1,h,h1,h2=>by
  have h0:=h 0 (by omega) (by simp) (by simp)
  simp only[List.getElem_cons_zero] at h0
  rw[ij,if_neg (by omega),if_neg (by omega),List.drop_succ_cons,List.drop_succ_cons]
  exact pE (fun k hk a b=>by have:=h (k+1) (by omega) (by simpa using a) (by simpa using b);simpa using this) (by simpa using h1) (by simpa using h2)

theorem c74 {xs ys:List Int}(hL:xs.length≤1000):aP Tryz.prog 74 (.st bs) [Is xs,Is ys] (I (ij xs ys)):=by
 refine akc.R rfl rfl ?_
 unfold u74
 simp only[aC,aG,List.cons_append,List.nil_append]
 repeat' (first|(apply ar;rfl;exact ak;simp only[ai];rfl)|refine au ?_)
 refine bf (fun i=>[In i]) (fun i=>i≤ys.length∧∀k (h:k<i) (h1:k<xs.length) (h2:k<ys.length),xs[k]=ys[k]) xs.length rfl (fun _=>rfl) ⟨Nat.zero_le _,fun k h=>absurd h (Nat.not_lt_zero _)⟩ (fun i hi hJ R hR=>?_) (fun hJ R=>?_)
 ·have gH:decide ((i:Int)<(xs.length:Int))=true:=by simp;omega
  have hx:xs.drop i=xs[i] :: xs.drop (i+1):=List.drop_eq_getElem_cons hi
  rcases Nat.lt_or_ge i ys.length with h2 | h2
  ·have hy:ys.drop i=ys[i] :: ys.drop (i+1):=List.drop_eq_getElem_cons h2
   have hf:decide ((i:Int)≥(ys.length:Int))=false:=by simp;omega
   have h71:=c71 (bs:=bs) xs[i] ys[i]
   by_cases he:xs[i]=ys[i]
   ·have h0:fE xs[i] ys[i]=0:=by rw[fE,if_neg (by omega),if_neg (by omega)]
    rw[h0] at h71
    repeat' (first|(apply bp;simp only[ai];rfl)|(apply aH;rfl;exact gH)|(apply aK;rfl;(·first|exact hf|exact rfl))|(apply aA;rfl;rfl;(·first|exact b_ hi rfl|exact b_ h2 rfl);simp only[ai];rfl)|(apply ar;rfl;exact ak;simp only[ai];rfl)|(apply aW;rfl;omega;simp only[ai];rfl)|(apply aD;rfl;simp only[ai];rfl)|(apply aF;rfl;rfl;exact h71;rfl;simp only[ai];rfl)|refine au ?_|(apply av;rfl;rfl)|refine Qav ?_|refine kj rfl ?_)
    refine hR ⟨h2,fun k hk a b=>?_⟩
    rcases Nat.lt_or_ge k i with h3 | h3
    ·exact hJ.2 k h3 a b
    ·have e:k=i:=by omega
     subst e
     exact he
   ·have h0:ij xs ys=fE xs[i] ys[i]:=by
     rw[pE hJ.2 (by omega) (by omega),hx,hy,ij,fE]
     split
     ·rfl
     ·split
      ·rfl
      ·omega
    have hne:fE xs[i] ys[i]≠0:=by
     unfold fE
     split
     ·omega
     ·split <;> omega
    have ht:(fE xs[i] ys[i] != 0)=true:=by simpa using hne
    rw[h0]
    repeat' (first|(apply bp;simp only[ai];rfl)|(apply aH;rfl;(·first|exact gH|exact ht))|(apply aK;rfl;exact hf)|(apply aA;rfl;rfl;(·first|exact b_ hi rfl|exact b_ h2 rfl);simp only[ai];rfl)|(apply ar;rfl;exact ak;simp only[ai];rfl)|(apply aD;rfl;simp only[ai];rfl)|(apply aF;rfl;rfl;exact h71;rfl;simp only[ai];rfl)|refine au ?_|(apply aq;rfl;first|exact rfl|(refine bH ?_)|(refine bF ?_)|(refine bG ?_)))
  ·have ht:decide ((i:Int)≥(ys.length:Int))=true:=by simp;omega
   have hy:ys.drop i=[]:=List.drop_eq_nil_of_le h2
   rw[pE hJ.2 (by omega) hJ.1,hx,hy,ij]
   repeat' (first|(apply bp;simp only[ai];rfl)|(apply aH;rfl;(·first|exact gH|exact ht))|(apply aA;rfl;rfl;exact b_ hi rfl;simp only[ai];rfl)|(apply ar;rfl;exact ak;simp only[ai];rfl)|(apply aD;rfl;simp only[ai];rfl)|refine au ?_|(apply aq;rfl;first|exact rfl|(refine bH ?_)|(refine bF ?_)|(refine bG ?_)))
 ·have hlf:decide ((xs.length:Int)<(xs.length:Int))=false:=by simp
  have hx:xs.drop xs.length=[]:=List.drop_eq_nil_of_le (Nat.le_refl _)
  rw[pE hJ.2 (Nat.le_refl _) hJ.1,hx]
  rcases Nat.lt_or_ge xs.length ys.length with h2 | h2
  ·rw[List.drop_eq_getElem_cons h2,ij]
   repeat' (first|(apply bp;simp only[ai];rfl)|(apply aK;rfl;exact hlf)|(apply ar;rfl;exact ak;simp only[ai];rfl)|(apply aD;rfl;simp only[ai];rfl)|(apply av;rfl;rfl)|refine Qav ?_|(refine aB (by decide) ?_)|refine kj rfl ?_|(apply aX;rfl;all_goals (intro hz;(try simp only[bA] at hz);first|(exact absurd hz (by decide))|(exfalso;omega)|skip))|exact aq rfl rfl)
   all_goals (try omega)
  ·rw[List.drop_eq_nil_of_le h2,ij]
   repeat' (first|(apply bp;simp only[ai];rfl)|(apply aK;rfl;exact hlf)|(apply ar;rfl;exact ak;simp only[ai];rfl)|(apply aD;rfl;simp only[ai];rfl)|(apply av;rfl;rfl)|refine Qav ?_|(refine aB (by decide) ?_)|refine kj rfl ?_|(apply aX;rfl;all_goals (intro hz;(try simp only[bA] at hz);first|(exact absurd hz (by decide))|(exfalso;omega)|skip))|exact aq rfl rfl)
   all_goals (try omega)
end

section
open Go.Proofs
set_option maxRecDepth 100000
set_option maxHeartbeats 4000000

attribute [local irreducible] gR fV

variable {bs:List D} {pts:List (List Int)} {drop:Int}

abbrev Fu (l:List (List Int)):D:=.bq (l.map Is)



structure B6 (pts:List (List Int))(drop:Int):Prop where
 len:pts.length≤500
 dr:0≤drop
 each:∀i,i<pts.length→(pt pts i).length=(pt pts 0).length∧1≤(pt pts i).length∧(pt pts i).length≤40∧drop<(pt pts i).length∧∀x,x∈pt pts i→0≤x∧x≤100000
end

section
open Go.Proofs
set_option maxRecDepth 100000
set_option maxHeartbeats 4000000

attribute [local irreducible] gR fV

variable {bs:List D} {pts:List (List Int)} {drop:Int}

def w8 (pts:List (List Int))(drop:Int):List Int:=(List.range pts.length).map (fO pts drop)
theorem JR:(w8 pts drop).length=pts.length:=by simp[w8]
theorem Tu {i:Nat}(h:i<pts.length):(w8 pts drop).getD i 0=fO pts drop i:=by simp[w8,List.getD,h]
theorem sD {i:Nat}(h:i<pts.length):D.aj 1 (Is (w8 pts drop)) (In i)=some (.ptr [I (fO pts drop i)]):=by
 rw[←Tu h]
 exact iK (by rw[JR];exact h)

theorem uR {X:List Int}{i:Nat}(h:i<X.length):D.idx (Is X) (In i)=some (I (X.getD i 0)):=by
 simp[D.idx,h,List.getD]
theorem HN {X:List Int}{i:Nat}(h:i<X.length)(y:Int):D.set (Is X) (In i) 0 (I y)=some (Is (X.set i y)):=by
 simp[D.set,h,D.putAt,D.one]
theorem AY {x y:E}{env:List D}{X:List Int}{i:Nat}(h:i<X.length)(hx:x.eval env=some (Is X))(hy:y.eval env=some (In i)):(E.cell 0 (.idx x y)).eval env=some (I (X.getD i 0)):=by
 simp only[E.eval,hx,hy,Option.bind_some,uR h]
 rfl

theorem Dv {n:Nat}(h:n≤1000):D.rep 8 (I n) (I 0)=some (Is (List.replicate n 0)):=by
 simp only[D.rep,Int.toNat_natCast,List.map_replicate]
 rw[if_pos ⟨by omega,by omega,Nat.le_trans h (by decide)⟩,show Is (List.replicate n 0)=.bq ((List.replicate n 0).map I) from rfl,List.map_replicate]

theorem FX (o:List Nat):bK 1 (o.map In)=true:=by
 simp only[bK,List.all_map,List.all_eq_true]
 exact fun _ _=>rfl
theorem uc {o:List Nat}{a b:Nat}(h1:a≤b)(h2:b≤o.length):D.sub 1 (Ix o) (In a) (In b)=some (Ix ((o.drop a).take (b-a))):=by
 simp only[D.sub]
 rw[if_pos ⟨by omega,by omega,by simp;omega,FX o⟩,show((a:Int)).toNat=a by omega,show((b:Int)-(a:Int)).toNat=b-a by omega]
 show some (D.bq _)=some (D.bq (List.map In _))
 rw[List.map_take,List.map_drop]
theorem qJ {xs ys:List Nat}(h:xs.length+ys.length≤100000):D.app 1 8 (Ix xs) (Ix ys)=some (Ix (xs++ys)):=Ju (enc:=In) (by omega) (Nat.le_trans h (by decide)) (fun _=>rfl)
end

section
open Go.Proofs
set_option maxRecDepth 100000
set_option maxHeartbeats 4000000

attribute [local irreducible] gR fV dQ

variable {bs:List D} {p:aL} {c:aS} {l:List aS}

theorem Dx (hc:br p l=true){i:Nat}(hi:i<p.n){cls:Int}:∀k,k∈eY p l i cls→k<l.length∧i<(cd l k).lines.length:=fun k hk=>by
 have h:=(yQ.1 hk).1
 exact⟨h,by rw[((cr hc).2 k h).len];exact hi⟩

theorem Wg {aO:Nat}(h:gl p l aO=true)(i:Int):gA p (cd l aO) i=true:=by
 simp only[gl,decide_eq_true_eq] at h
 simp[gA,h]

theorem EV {aO i:Nat}(h:gl p l aO=true)(cF:aO<l.length):aO∈eY p l i (-1)↔((cd l aO).ln i).mark=0:=by
 rw[yQ,nB,Wg h]
 simp[cF]

theorem Dw {aO i:Nat}(h:aO∈eY p l i (-1)):D.aj 1 (Is (lp (jO l i (eY p l i (-1))))) (I 0)=some (.ptr [I (least l i (eY p l i (-1)))]):=by
 have:=List.length_pos_of_mem h
 exact iK (i:=0) (by rw[kH,gM];exact this)

theorem WE {a b:Nat}(h:e_ p l a≠e_ p l b):jZ p l a b=decide (e_ p l a<e_ p l b):=by
 have h1:fE (e_ p l a) (e_ p l b)≠0:=fun e=>h (jR.1 e)
 rw[jZ,vu,lx,if_pos h1]
 simp only[zw]
theorem aci {a b:Nat}(h:e_ p l a=e_ p l b)(h2:(jG p l a:Int)≠jG p l b):jZ p l a b=decide ((jG p l a:Int) > jG p l b):=by
 have h1:¬fE (e_ p l a) (e_ p l b)≠0:=fun e=>e (jR.2 h)
 have h3:fE (jG p l b:Int) (jG p l a)≠0:=fun e=>h2 (jR.1 e).symm
 rw[jZ,vu,lx,if_neg h1,lx,if_pos h3]
 simp only[zw]
theorem acj {a b:Nat}(h:e_ p l a=e_ p l b)(h2:(jG p l a:Int)=jG p l b)(h3:ij (iT p l a) (iT p l b)≠0):jZ p l a b=decide (ij (iT p l a) (iT p l b)<0):=by
 have h1:¬fE (e_ p l a) (e_ p l b)≠0:=fun e=>e (jR.2 h)
 have h4:¬fE (jG p l b:Int) (jG p l a)≠0:=fun e=>e (jR.2 h2.symm)
 rw[jZ,vu,lx,if_neg h1,lx,if_neg h4,lx,if_pos h3]
theorem ack {a b:Nat}(h:e_ p l a=e_ p l b)(h2:(jG p l a:Int)=jG p l b)(h3:ij (iT p l a) (iT p l b)=0):jZ p l a b=decide ((a:Int)<b):=by
 have h1:¬fE (e_ p l a) (e_ p l b)≠0:=fun e=>e (jR.2 h)
 have h4:¬fE (jG p l b:Int) (jG p l a)≠0:=fun e=>e (jR.2 h2.symm)
 rw[jZ,vu,lx,if_neg h1,lx,if_neg h4,lx,if_neg (by omega)]
 simp only[zw]

def K3 (p:aL)(l:List aS)(a:Nat):Nat→Int
 | 0=>jG p l a
 | i+1=>if(p.it i).kind=2 then cS p l a i else K3 p l a i

/-! ## the power stage -/

def EN (L:List Int)(x:Int):Int:=if x<0 then 0 else L.getD x.toNat 0

def yF (p:aL)(l:List aS)(aO k:Nat):Nat:=(((eF p l).take k).filter fun j:Nat=>decide (jy.lt (powC p l) (j:Int) (aO:Int))).length
def Nd (p:aL)(l:List aS)(aO:Nat):Int:=if aO∈eF p l then(Rg p l aO:Int) else -1

theorem Nb {aO k:Nat}(h:k<(eF p l).length):yF p l aO (k+1)=yF p l aO k+if jy.lt (powC p l) ((eF p l)[k]:Int) (aO:Int) then 1 else 0:=by
 unfold yF
 rw[List.take_add_one,List.getElem?_eq_getElem h,Option.toList_some,List.filter_append,List.length_append]
 by_cases hb:jy.lt (powC p l) ((eF p l)[k]:Int) (aO:Int) <;> simp[hb]
theorem T_ {aO k:Nat}:yF p l aO k≤k:=by
 have h1:=List.length_filter_le (fun j:Nat=>decide (jy.lt (powC p l) (j:Int) (aO:Int))) ((eF p l).take k)
 have h2:=List.length_take_le k (eF p l)
 unfold yF
 omega

theorem Qdq {L:List Nat}{k x:Nat}(h:k<L.length):x∈L.take (k+1)↔x∈L.take k∨x=L[k]:=by
 rw[List.take_add_one,List.getElem?_eq_getElem h,Option.toList_some,List.mem_append,List.mem_singleton]
end

section
open Go.Proofs
set_option maxRecDepth 100000
set_option maxHeartbeats 4000000

attribute [local irreducible] gR fV dQ

variable {bs:List D} {p:aL} {c:aS} {l:List aS}

def Jz.cs (x:Jz):List D:=[I x.aO,B x.counts,I x.out,I x.total,I x.place,I x.X8,I x.points]
def Jz.d (x:Jz):D:=.agg x.cs
abbrev wu (x:List Jz):D:=.bq (x.map Jz.d)

theorem CO {xs:List Jz}{x:Jz}(h:xs.length≤100000):D.app 7 56 (wu xs) (.bq [x.d])=some (wu (xs++[x])):=zJ (enc:=Jz.d) (by omega) (Nat.le_trans (Nat.succ_le_succ h) (by decide)) (fun _=>rfl)

theorem aL.As (hp:p.ok=true):(p.points.length≤60∧∀k,0≤p.points.getD k 0∧p.points.getD k 0≤1000)∧p.extra.length≤60∧∀k,0≤p.extra.getD k 0∧p.extra.getD k 0≤1000:=by
 have h:=(aL.nV hp).2.2.2.2
 simp only[aL.uA,Bool.and_eq_true,fV] at h
 obtain⟨⟨h1,h2⟩,h3,h4⟩:=h
 have h2:=iG h2
 have h4:=iG h4
 have key:∀{L:List Int},(L.all fun x=>gR x 0 1000)=true→∀k,0≤L.getD k 0∧L.getD k 0≤1000:=fun {L} hL k=>by
  rcases Nat.lt_or_ge k L.length with h | h
  ·have:=iG (List.all_eq_true.1 hL L[k] (List.getElem_mem h))
   simpa[List.getD,h] using this
  ·simp[List.getD,h]
 exact⟨⟨by omega,key h1⟩,by omega,key h3⟩

theorem rZ (hok:p.ok=true)(aO:Nat):0≤jm p l aO∧jm p l aO≤1000:=by
 unfold jm
 split
 ·exact(aL.As hok).2.2 _
 ·omega

theorem yB:(cG p l).length≤l.length:=by rw[uw];exact v8

def pQ (p:aL)(l:List aS)(o:List Nat)(k:Nat):List Jz:=(List.range k).map (FA p l o)
theorem DE {o:List Nat}{k:Nat}:pQ p l o (k+1)=pQ p l o k++[FA p l o k]:=by simp[pQ,List.range_succ]
theorem vL {o:List Nat}{k:Nat}:(pQ p l o k).length=k:=by simp[pQ]
end

section
open Go.Proofs
set_option maxRecDepth 100000
set_option maxHeartbeats 4000000

attribute [local irreducible] gR fV dQ

variable {bs:List D} {p:aL} {c:aS} {l:List aS}

/-! ## what the comparisons read -/

def uu (p:aL)(l:List aS):List Int:=(List.range l.length).map (e_ p l)
def uq (p:aL)(l:List aS):List Int:=(List.range l.length).map fun k=>if gl p l k=true then(jG p l k:Int) else 0
def ux (p:aL)(l:List aS):List (List Int):=(List.range l.length).map fun k=>if gl p l k=true then iT p l k else[]

theorem PT {k:Nat}(h:k<l.length):D.aj 1 (Is (uu p l)) (In k)=some (.ptr [I (e_ p l k)]):=by
 have:=iK (L:=uu p l) (i:=k) (by simpa[uu] using h)
 simpa[uu,List.getD,h] using this
theorem PS {k:Nat}(h:k<l.length)(hc:gl p l k=true):D.aj 1 (Is (uq p l)) (In k)=some (.ptr [I (jG p l k)]):=by
 have:=iK (L:=uq p l) (i:=k) (by simpa[uq] using h)
 simpa[uq,List.getD,h,hc] using this
theorem PU {k:Nat}(h:k<l.length)(hc:gl p l k=true):D.aj 1 (Fu (ux p l)) (In k)=some (.ptr [Is (iT p l k)]):=by
 have h2:k<(ux p l).length:=by simpa[ux] using h
 have:=b_ (enc:=Is) (sz:=1) (xs:=ux p l) (i:=k) h2 rfl
 have e:(ux p l)[k]=iT p l k:=by simp[ux,hc]
 rwa [e] at this

section
variable {a b:Nat} (ha:a<l.length) (hb:b<l.length) (ca:gl p l a=true) (cb:gl p l b=true)
include ha hb

theorem c70:aP Tryz.prog 70 (.st bs) [In a,In b,.ptr [Is (uu p l)]] (I (fE (e_ p l a) (e_ p l b))):=by
 refine akg.R rfl rfl ?_
 unfold u70
 simp only[aC,aG,List.cons_append,List.nil_append]
 repeat' (first|(apply aA;rfl;rfl;(·first|exact PT ha|exact PT hb);simp only[ai];rfl)|(apply aD;rfl;simp only[ai];rfl)|(apply aF;rfl;rfl;exact c71 _ _;rfl;simp only[ai];rfl)|exact aq rfl rfl)

include ca cb
theorem c72:aP Tryz.prog 72 (.st bs) [In a,In b,.ptr [Is (uq p l)]] (I (fE (jG p l b) (jG p l a))):=by
 refine ake.R rfl rfl ?_
 unfold u72
 simp only[aC,aG,List.cons_append,List.nil_append]
 repeat' (first|(apply aA;rfl;rfl;(·first|exact PS ha ca|exact PS hb cb);simp only[ai];rfl)|(apply aD;rfl;simp only[ai];rfl)|(apply aF;rfl;rfl;exact c71 _ _;rfl;simp only[ai];rfl)|exact aq rfl rfl)

theorem c73 (hn:p.n≤1000):aP Tryz.prog 73 (.st bs) [In a,In b,.ptr [Fu (ux p l)]] (I (ij (iT p l a) (iT p l b))):=by
 have hs:=z8 (p:=p) (l:=l) (aO:=a) p.n
 have h74:=c74 (bs:=bs) (xs:=iT p l a) (ys:=iT p l b) (by unfold iT;omega)
 refine akd.R rfl rfl ?_
 unfold u73
 simp only[aC,aG,List.cons_append,List.nil_append]
 repeat' (first|(apply aA;rfl;rfl;(·first|exact PU ha ca|exact PU hb cb);simp only[ai];rfl)|(apply aD;rfl;simp only[ai];rfl)|(apply aF;rfl;rfl;exact h74;rfl;simp only[ai];rfl)|exact aq rfl rfl)
end

theorem c75 (a b:Nat):aP Tryz.prog 75 (.st bs) [In a,In b] (I (fE a b)):=by
 have h71:=c71 (bs:=bs) (a:Int) (b:Int)
 refine akb.R rfl rfl ?_
 unfold u75
 simp only[aC,aG,List.cons_append,List.nil_append]
 repeat' (first|(apply aF;rfl;rfl;exact h71;rfl;simp only[ai];rfl)|exact aq rfl rfl)

def oz (t w g:D):List D:=[.fn 70 [] [t],.fn 72 [] [w],.fn 73 [] [g],.fn 75 [] []]

theorem agu {t w g:D}{i:Nat}(h:i<4):D.aj 1 (.bq (oz t w g)) (In i)=some (.ptr [(oz t w g).getD i .cq]):=by
 have h2:i<(oz t w g).length:=h
 have dG:∀k,k<4→((oz t w g).getD k .cq).cells=[(oz t w g).getD k .cq]:=fun k hk=>by
  match k,hk with
  | 0,_=>rfl
  | 1,_=>rfl
  | 2,_=>rfl
  | 3,_=>rfl
 have:=b_ (enc:=fun d:D=>d) (sz:=1) (xs:=oz t w g) (i:=i) h2 (by
  match i,h with
  | 0,_=>rfl
  | 1,_=>rfl
  | 2,_=>rfl
  | 3,_=>rfl)
 rw[List.map_id'] at this
 rw[this]
 match i,h with
 | 0,_=>rfl
 | 1,_=>rfl
 | 2,_=>rfl
 | 3,_=>rfl

theorem c69 (F:List D):aP Tryz.prog 69 (.st bs) [.bq F] (.fn 114 [] [.ptr [.bq F]]):=by
 refine akh.R rfl rfl ?_
 unfold u69
 simp only[aC,aG,List.cons_append,List.nil_append]
 repeat' (first|(apply aD;rfl;simp only[ai];rfl)|exact aq rfl rfl)

def vv (p:aL)(l:List aS)(a b i:Nat):Int:=
 match i with
 | 0=>fE (e_ p l a) (e_ p l b)
 | 1=>fE (jG p l b) (jG p l a)
 | 2=>ij (iT p l a) (iT p l b)
 | _=>fE a b

theorem CL {a b i:Nat}(hi:i<4)(h:∀k,k<i→vv p l a b k=0)(hne:vv p l a b i≠0):vu p l a b=vv p l a b i:=by
 have h0:=h 0
 have h1:=h 1
 have h2:=h 2
 unfold vu lx
 simp only[vv] at h0 h1 h2
 match i,hi with
 | 0,_=>exact if_pos (show fE (e_ p l a) (e_ p l b)≠0 from hne)
 | 1,_=>
  rw[if_neg (by rw[h0 (by omega)];decide)]
  exact if_pos (show fE (jG p l b:Int) (jG p l a)≠0 from hne)
 | 2,_=>
  rw[if_neg (by rw[h0 (by omega)];decide),if_neg (by rw[h1 (by omega)];decide)]
  exact if_pos (show ij (iT p l a) (iT p l b)≠0 from hne)
 | 3,_=>rw[if_neg (by rw[h0 (by omega)];decide),if_neg (by rw[h1 (by omega)];decide),if_neg (by rw[h2 (by omega)];decide)];rfl
theorem SF {a b:Nat}(h:∀k,k<4→vv p l a b k=0):vu p l a b=0:=by
 have h0:=h 0 (by omega)
 have h1:=h 1 (by omega)
 have h2:=h 2 (by omega)
 have h3:=h 3 (by omega)
 unfold vu lx
 simp only[vv] at h0 h1 h2 h3
 rw[h0,h1,h2,h3]
 rfl


theorem am7 (hok:p.ok=true){a b:Nat}(ha:a<l.length)(hb:b<l.length)(ca:gl p l a=true)(cb:gl p l b=true):aP Tryz.prog 114 (.st bs) [In a,In b,.ptr [.bq (oz (.ptr [Is (uu p l)]) (.ptr [Is (uq p l)]) (.ptr [Fu (ux p l)]))]] (I (vu p l a b)):=by
 have hh:=aL.gi hok
 refine aeW.R rfl rfl ?_
 unfold adi
 simp only[aC,aG,List.cons_append,List.nil_append]
 have hlen:D.aR (.bq (oz (.ptr [Is (uu p l)]) (.ptr [Is (uq p l)]) (.ptr [Fu (ux p l)])))=some (I 4):=rfl
 repeat' (first|(apply ar;rfl;exact hlen;simp only[ai];rfl)|(apply aD;rfl;simp only[ai];rfl)|refine au ?_)
 refine bf (fun i=>[In i]) (fun i=>∀k,k<i→vv p l a b k=0) 4 rfl (fun _=>rfl) (fun k h=>absurd h (Nat.not_lt_zero _)) (fun i hi hJ R hR=>?_) (fun hJ R=>?_)
 ·have gH:decide ((i:Int)<4)=true:=by simp;omega
  have IS:=agu (t:=.ptr [Is (uu p l)]) (w:=.ptr [Is (uq p l)]) (g:=.ptr [Fu (ux p l)]) hi
  match i,hi with
  | 0,_=>
   skip
   ·have hv:=c70 (bs:=bs) (p:=p) ha hb
    cases he:(vv p l a b 0 != 0)
    ·have hf:(fE (e_ p l a) (e_ p l b) != 0)=false:=he
     repeat' (first|(apply bp;simp only[ai];rfl)|(apply aH;rfl;exact gH)|(apply aK;rfl;exact hf)|(apply aA;rfl;rfl;exact IS;simp only[ai];rfl)|(apply aW;rfl;omega;simp only[ai];rfl)|(apply aD;rfl;simp only[ai];rfl)|(apply fJ;rfl;(·exact(by kernel_rfl:bJ Tryz.prog 70=true));rfl;rfl;exact hv;rfl;simp only[ai];rfl)|refine au ?_|(apply av;rfl;rfl)|refine Qav ?_|refine kj rfl ?_)
     refine hR fun k hk=>?_
     rcases Nat.lt_or_ge k 0 with h3 | h3
     ·exact hJ k h3
     ·rw[show k=0 by omega]
      simpa using he
    ·have hf:(fE (e_ p l a) (e_ p l b) != 0)=true:=he
     rw[CL (i:=0) (by omega) hJ (by simpa using he)]
     repeat' (first|(apply bp;simp only[ai];rfl)|(apply aH;rfl;(·first|exact gH|exact hf))|(apply aA;rfl;rfl;exact IS;simp only[ai];rfl)|(apply aD;rfl;simp only[ai];rfl)|(apply fJ;rfl;(·exact(by kernel_rfl:bJ Tryz.prog 70=true));rfl;rfl;exact hv;rfl;simp only[ai];rfl)|refine au ?_|(apply aq;rfl;first|exact rfl|(refine bH ?_)|(refine bF ?_)|(refine bG ?_)))
     all_goals rfl
  | 1,_=>
   skip
   ·have hv:=c72 (bs:=bs) (p:=p) ha hb ca cb
    cases he:(vv p l a b 1 != 0)
    ·have hf:(fE (jG p l b:Int) (jG p l a) != 0)=false:=he
     repeat' (first|(apply bp;simp only[ai];rfl)|(apply aH;rfl;exact gH)|(apply aK;rfl;exact hf)|(apply aA;rfl;rfl;exact IS;simp only[ai];rfl)|(apply aW;rfl;omega;simp only[ai];rfl)|(apply aD;rfl;simp only[ai];rfl)|(apply fJ;rfl;(·exact(by kernel_rfl:bJ Tryz.prog 72=true));rfl;rfl;exact hv;rfl;simp only[ai];rfl)|refine au ?_|(apply av;rfl;rfl)|refine Qav ?_|refine kj rfl ?_)
     refine hR fun k hk=>?_
     rcases Nat.lt_or_ge k 1 with h3 | h3
     ·exact hJ k h3
     ·rw[show k=1 by omega]
      simpa using he
    ·have hf:(fE (jG p l b:Int) (jG p l a) != 0)=true:=he
     rw[CL (i:=1) (by omega) hJ (by simpa using he)]
     repeat' (first|(apply bp;simp only[ai];rfl)|(apply aH;rfl;(·first|exact gH|exact hf))|(apply aA;rfl;rfl;exact IS;simp only[ai];rfl)|(apply aD;rfl;simp only[ai];rfl)|(apply fJ;rfl;(·exact(by kernel_rfl:bJ Tryz.prog 72=true));rfl;rfl;exact hv;rfl;simp only[ai];rfl)|refine au ?_|(apply aq;rfl;first|exact rfl|(refine bH ?_)|(refine bF ?_)|(refine bG ?_)))
     all_goals rfl
  | 2,_=>
   skip
   ·have hv:=c73 (bs:=bs) (p:=p) ha hb ca cb (by omega)
    cases he:(vv p l a b 2 != 0)
    ·have hf:(ij (iT p l a) (iT p l b) != 0)=false:=he
     repeat' (first|(apply bp;simp only[ai];rfl)|(apply aH;rfl;exact gH)|(apply aK;rfl;exact hf)|(apply aA;rfl;rfl;exact IS;simp only[ai];rfl)|(apply aW;rfl;omega;simp only[ai];rfl)|(apply aD;rfl;simp only[ai];rfl)|(apply fJ;rfl;(·exact(by kernel_rfl:bJ Tryz.prog 73=true));rfl;rfl;exact hv;rfl;simp only[ai];rfl)|refine au ?_|(apply av;rfl;rfl)|refine Qav ?_|refine kj rfl ?_)
     refine hR fun k hk=>?_
     rcases Nat.lt_or_ge k 2 with h3 | h3
     ·exact hJ k h3
     ·rw[show k=2 by omega]
      simpa using he
    ·have hf:(ij (iT p l a) (iT p l b) != 0)=true:=he
     rw[CL (i:=2) (by omega) hJ (by simpa using he)]
     repeat' (first|(apply bp;simp only[ai];rfl)|(apply aH;rfl;(·first|exact gH|exact hf))|(apply aA;rfl;rfl;exact IS;simp only[ai];rfl)|(apply aD;rfl;simp only[ai];rfl)|(apply fJ;rfl;(·exact(by kernel_rfl:bJ Tryz.prog 73=true));rfl;rfl;exact hv;rfl;simp only[ai];rfl)|refine au ?_|(apply aq;rfl;first|exact rfl|(refine bH ?_)|(refine bF ?_)|(refine bG ?_)))
     all_goals rfl
  | 3,_=>
   skip
   ·have hv:=c75 (bs:=bs) a b
    cases he:(vv p l a b 3 != 0)
    ·have hf:(fE (a:Int) (b:Int) != 0)=false:=he
     repeat' (first|(apply bp;simp only[ai];rfl)|(apply aH;rfl;exact gH)|(apply aK;rfl;exact hf)|(apply aA;rfl;rfl;exact IS;simp only[ai];rfl)|(apply aW;rfl;omega;simp only[ai];rfl)|(apply aD;rfl;simp only[ai];rfl)|(apply fJ;rfl;(·exact(by kernel_rfl:bJ Tryz.prog 75=true));rfl;rfl;exact hv;rfl;simp only[ai];rfl)|refine au ?_|(apply av;rfl;rfl)|refine Qav ?_|refine kj rfl ?_)
     refine hR fun k hk=>?_
     rcases Nat.lt_or_ge k 3 with h3 | h3
     ·exact hJ k h3
     ·rw[show k=3 by omega]
      simpa using he
    ·have hf:(fE (a:Int) (b:Int) != 0)=true:=he
     rw[CL (i:=3) (by omega) hJ (by simpa using he)]
     repeat' (first|(apply bp;simp only[ai];rfl)|(apply aH;rfl;(·first|exact gH|exact hf))|(apply aA;rfl;rfl;exact IS;simp only[ai];rfl)|(apply aD;rfl;simp only[ai];rfl)|(apply fJ;rfl;(·exact(by kernel_rfl:bJ Tryz.prog 75=true));rfl;rfl;exact hv;rfl;simp only[ai];rfl)|refine au ?_|(apply aq;rfl;first|exact rfl|(refine bH ?_)|(refine bF ?_)|(refine bG ?_)))
     all_goals rfl
 ·have hlf:decide ((4:Int)<4)=false:=by simp
  rw[SF hJ]
  repeat' (first|(apply bp;simp only[ai];rfl)|(apply aK;rfl;exact hlf)|(apply aD;rfl;simp only[ai];rfl)|(apply av;rfl;rfl)|refine Qav ?_|(refine aB (by decide) ?_)|refine kj rfl ?_|exact aq rfl rfl)
end

section
set_option maxRecDepth 100000

abbrev TB:TypeId:=1000000000

variable {p:aL} {l:List aS}

/-! ## lists aiY are filled -/

def upTo {α:Type}(n:Nat)(f:Nat→α)(d:α)(k:Nat):List α:=(List.range n).map fun j=>if j<k then f j else d

section
variable {α:Type} {n:Nat} {f:Nat→α} {d:α} {k:Nat}
theorem tY:(upTo n f d k).length=n:=by simp[upTo]
theorem zW:upTo n f d 0=List.replicate n d:=by
 refine List.ext_getElem (by simp[upTo]) fun k h1 h2=>?_
 simp[upTo]
theorem CU {j:Nat}(h:j<n):(upTo n f d k)[j]? = some (if j<k then f j else d):=by simp[upTo,h]
theorem vD (x:α)(h:f k=x):upTo n f d (k+1)=(upTo n f d k).set k x:=by
 refine List.ext_getElem (by simp[upTo]) fun j h1 h2=>?_
 rw[List.getElem_set]
 simp only[upTo,List.getElem_map,List.getElem_range]
 by_cases hj:k=j
 ·subst hj
  rw[if_pos (by omega),if_pos rfl,h]
 ·rw[if_neg hj]
  by_cases h3:j<k
  ·rw[if_pos (by omega),if_pos h3]
  ·rw[if_neg (by omega),if_neg h3]
theorem F8 (h:f k=d):upTo n f d (k+1)=upTo n f d k:=by
 rw[vD d h]
 refine List.ext_getElem (by simp) fun j h1 h2=>?_
 rw[List.getElem_set]
 split
 ·rename_i hj
  simp only[upTo,List.getElem_map,List.getElem_range]
  rw[if_neg (by omega)]
 ·rfl
theorem CV:upTo n f d n=(List.range n).map f:=by
 unfold upTo
 refine List.map_congr_left fun j hj=>?_
 rw[if_pos (List.mem_range.1 hj)]
theorem ac7 {β:Type}(g:α→β):(upTo n f d k).map g=upTo n (fun j=>g (f j)) (g d) k:=by
 unfold upTo
 rw[List.map_map]
 refine List.map_congr_left fun j _=>?_
 simp only[Function.comp_apply]
 split <;> rfl
end

theorem Dd {α:Type}{l:List α}{k:Nat}{x:α}(h:l[k]? = some x):l.set k x=l:=by
 obtain⟨hk,he⟩:=List.getElem?_eq_some_iff.1 h
 rw[←he]
 exact List.set_getElem_self hk

/-! ## the blocks behind the first seven -/

theorem abQ (a b:List D)(xs:List Int):gB (a++b) xs=a++gB b xs:=by
 cases xs with
 | nil=>rfl
 | cons x r=>simp[gB]

def adV (p:aL)(l:List aS)(i:Nat):List D:=gB [] (afb (eY p l i (-1)))
where afb (L:List Nat):List Int:=L.map fun n:Nat=>Int.ofNat n

def Je (p:aL)(l:List aS)(k:Nat):D:=.blk 3 1 ((fW p l k).map In)

def gn (p:aL)(l:List aS)(aO:Nat)(t0:List D):Nat→List D×Nat
 | 0=>(t0,0)
 | i+1=>if(p.it i).kind==2 then(((if ew p l aO i=[] then(gn p l aO t0 i).1 else(gn p l aO t0 i).1.set (gn p l aO t0 i).2 (.bh []))++[.blk 3 1 ((ew p l aO (i+1)).map I)])++adV p l i,(gn p l aO t0 i).1.length) else gn p l aO t0 i

def ua (p:aL)(l:List aS):Nat→List D×Nat
 | 0=>([],0)
 | k+1=>if gl p l k=true then((gn p l k ((ua p l k).1.set (ua p l k).2 (.bh [])++[Je p l (k+1)]) p.n).1,(ua p l k).1.length) else ua p l k

def q9 (p:aL)(l:List aS)(k:Nat):List D:=(ua p l k).1.set (ua p l k).2 (.bh [])++[Je p l (k+1)]
theorem Pr {k:Nat}:(q9 p l k).length=(ua p l k).1.length+1:=by simp[q9]

theorem IF {aO:Nat}{t0:List D}:∀i,t0.length≤(gn p l aO t0 i).1.length
 | 0=>Nat.le_refl _
 | i+1=>by
  have:=IF (aO:=aO) (t0:=t0) i
  rw[gn]
  split
  ·simp only[List.length_append]
   split
   ·omega
   ·rw[List.length_set];omega
  ·exact this

theorem Qax {aO:Nat}{t0:List D}:∀i,ew p l aO i≠[]→(gn p l aO t0 i).1[(gn p l aO t0 i).2]? = some (.blk 3 1 ((ew p l aO i).map I))∧t0.length≤(gn p l aO t0 i).2
 | 0,h=>absurd rfl h
 | i+1,h=>by
  have hg:=IF (p:=p) (l:=l) (aO:=aO) (t0:=t0) i
  rw[gn]
  split
  ·rename_i hk
   refine⟨?_,hg⟩
   have hl:(if ew p l aO i=[] then(gn p l aO t0 i).1 else(gn p l aO t0 i).1.set (gn p l aO t0 i).2 (.bh [])).length=(gn p l aO t0 i).1.length:=by split <;> simp
   simp only
   rw[List.getElem?_append_left (by rw[List.length_append,hl];simp),List.getElem?_append_right (by omega),hl,Nat.sub_self]
   rfl
  ·rename_i hk
   have e:ew p l aO (i+1)=ew p l aO i:=by rw[ew,if_neg hk]
   rw[e] at h ⊢
   exact Qax i h

theorem Ei {aO:Nat}{t0:List D}{j:Nat}(hj:j<t0.length):∀i,(gn p l aO t0 i).1[j]? = t0[j]?
 | 0=>rfl
 | i+1=>by
  have hg:=IF (p:=p) (l:=l) (aO:=aO) (t0:=t0) i
  have ih:=Ei (aO:=aO) hj i
  rw[gn]
  split
  ·have hl:(if ew p l aO i=[] then(gn p l aO t0 i).1 else(gn p l aO t0 i).1.set (gn p l aO t0 i).2 (.bh [])).length=(gn p l aO t0 i).1.length:=by split <;> simp
   simp only
   rw[List.getElem?_append_left (by rw[List.length_append,hl];simp;omega),List.getElem?_append_left (by omega),←ih]
   split
   ·rfl
   ·rename_i hs
    rw[List.getElem?_set_ne (by have:=(Qax (t0:=t0) i hs).2;omega)]
  ·exact ih

def Re (p:aL)(l:List aS)(k:Nat):Nat:=(gn p l k (q9 p l k) p.n).2

theorem rq {k:Nat}:ua p l (k+1)=if gl p l k=true then((gn p l k (q9 p l k) p.n).1,(ua p l k).1.length) else ua p l k:=by rw[ua,q9]

theorem ye:∀k,(fW p l k=[]→ua p l k=([],0))∧(fW p l k≠[]→(ua p l k).1[(ua p l k).2]? = some (Je p l k))
 | 0=>⟨fun _=>rfl,fun h=>absurd rfl h⟩
 | k+1=>by
  have ih:=ye k
  rw[rq]
  split
  ·rename_i h
   have hc:fW p l (k+1)≠[]:=by rw[p9,if_pos h];simp
   refine⟨fun e=>absurd e hc,fun _=>?_⟩
   have hl:=Pr (p:=p) (l:=l) (k:=k)
   rw[Ei (by omega),q9,List.getElem?_append_right (by simp),List.length_set,Nat.sub_self]
   rfl
  ·rename_i h
   have e:fW p l (k+1)=fW p l k:=by rw[p9,if_neg h]
   rw[Je,e]
   exact ih

theorem Hy:∀k j,j<k→gl p l j=true→iT p l j≠[]→(ua p l k).1[Re p l j]? = some (.blk 3 1 ((iT p l j).map I))∧(ua p l k).2≠Re p l j
 | 0,j,h,_,_=>absurd h (Nat.not_lt_zero _)
 | k+1,j,h,hc,hs=>by
  rw[rq]
  have hl:=Pr (p:=p) (l:=l) (k:=k)
  split
  ·rename_i hk
   rcases Nat.lt_or_ge j k with h1 | h1
   ·obtain⟨ih,ih2⟩:=Hy k j h1 hc hs
    have hlt:=(List.getElem?_eq_some_iff.1 ih).1
    refine⟨?_,?_⟩
    ·rw[Ei (by omega),q9,List.getElem?_append_left (by simpa using hlt),List.getElem?_set_ne ih2]
     exact ih
    ·simp only
     omega
   ·have e:j=k:=by omega
    subst e
    have hr:=Qax (p:=p) (l:=l) (aO:=j) (t0:=q9 p l j) p.n hs
    refine⟨hr.1,?_⟩
    simp only
    unfold Re
    omega
  ·rename_i hk
   rcases Nat.lt_or_ge j k with h1 | h1
   ·exact Hy k j h1 hc hs
   ·have e:j=k:=by omega
    subst e
    exact absurd hc hk

/-! ## the store -/

def rz (l:List aS)(ev:D)(T W:List Int)(R:List D):List D:=[.blk 90 1 [ev],.blk TB 1 (T.map I),.blk TB 1 (W.map I),.blk TB 1 R,.blk TB 1 [.sl 1 0 l.length],.blk TB 1 [.sl 2 0 l.length],.blk TB 1 [.sl 3 0 l.length]]

def lq (pos:Nat)(n:Nat):D:=if n=0 then .cq else .sl (7+pos) 0 n

def PR (p:aL)(l:List aS)(k:Nat):Int:=if gl p l k=true then(jG p l k:Int) else 0
def Dt (p:aL)(l:List aS)(k:Nat):D:=if gl p l k=true then lq (Re p l k) (iT p l k).length else .cq

abbrev iJ (p:aL)(l:List aS)(k:Nat):List Int:=upTo l.length (e_ p l) 0 k
abbrev j9 (p:aL)(l:List aS)(k:Nat):List Int:=upTo l.length (PR p l) 0 k
abbrev kU (p:aL)(l:List aS)(k:Nat):List D:=upTo l.length (Dt p l) .cq k

def Fw (p:aL)(l:List aS)(ev:D)(k:Nat):List D:=rz l ev (iJ p l k) (j9 p l k) (kU p l k)++(ua p l k).1
def Ck (p:aL)(l:List aS)(ev:D)(k i:Nat):List D:=rz l ev (iJ p l (k+1)) ((j9 p l k).set k (jF p l k i)) ((kU p l k).set k (lq (gn p l k (q9 p l k) i).2 (ew p l k i).length))++(gn p l k (q9 p l k) i).1

variable {ev:D} {k:Nat}

theorem QT (hk:k<l.length):Ck p l ev k 0=rz l ev (iJ p l (k+1)) (j9 p l k) (kU p l k)++q9 p l k:=by
 have h1:(j9 p l k)[k]? = some 0:=by rw[CU hk,if_neg (by omega)]
 have h2:(kU p l k)[k]? = some .cq:=by rw[CU hk,if_neg (by omega)]
 rw[Ck,show((jF p l k 0:Nat):Int)=0 from rfl,Dd h1,show(ew p l k 0).length=0 from rfl,lq,if_pos rfl,Dd h2]
 rfl

theorem Xt (hc:gl p l k=true):Ck p l ev k p.n=Fw p l ev (k+1):=by
 rw[Ck,Fw,rq,if_pos hc,j9,kU,←vD (f:=PR p l) (jF p l k p.n:Int) (by rw[PR,if_pos hc];rfl),←vD (f:=Dt p l) _ (by rw[Dt,if_pos hc];rfl)]

theorem TJ (hc:¬gl p l k=true):Fw p l ev (k+1)=rz l ev (iJ p l (k+1)) (j9 p l k) (kU p l k)++(ua p l k).1:=by
 rw[Fw,rq,if_neg hc,j9,F8 (by rw[PR,if_neg hc]),kU,F8 (by rw[Dt,if_neg hc])]

def th (p:aL)(l:List aS)(k:Nat):D:=lq (ua p l k).2 (fW p l k).length

theorem Qo {s:List D}{b:Nat}{xs:List Int}{x:Int}(hb:s[b]? = some (.blk 3 1 (xs.map I)))(h:xs.length+1≤1000000000)(h0:xs≠[]):D.fU 3 1 8 (.st s) (.sl b 0 xs.length) (.bq [I x])=some (.st (s.set b (.bh [])++[.blk 3 1 ((xs++[x]).map I)]))∧D.apps (.st s) (.sl b 0 xs.length) (.bq [I x])=some (.sl s.length 0 (xs.length+1)):=by
 have hone:(cB [I x]).all (·.one)=true:=rfl
 have hac:bK 1 [I x]=true:=rfl
 have hp:0<xs.length:=List.length_pos_iff.2 h0
 refine⟨?_,?_⟩
 ·simp only[D.fU,D.JN,D.gF,hb,Option.bind_some,hac,hone,List.cons_ne_nil,if_false,List.length_cons,List.length_nil]
  have hm:xs.length+1≤maxLen:=Nat.le_trans h (by decide)
  rw[if_pos (by refine⟨?_,?_,?_,?_,?_,?_,?_⟩ <;> simp <;> omega),List.map_append]
  rfl
 ·simp only[D.apps,D.cnt,List.length_cons,List.length_nil]
  rw[if_neg (by omega)]

theorem LC {s:List D}{x:Int}:D.fU 3 1 8 (.st s) .cq (.bq [I x])=some (.st (s++[.blk 3 1 [I x]]))∧D.apps (.st s) .cq (.bq [I x])=some (.sl s.length 0 1):=by
 have h:=I1 (b0:=s) (xs:=[]) (x:=x) (by simp)
 exact⟨h,IZ (b0:=s) (xs:=[]) (x:=x)⟩

theorem HI {T W:List Int}{R:List D}{t:List D}{j:Nat}{x:D}:(rz l ev T W R++t).set (7+j) x=rz l ev T W R++t.set j x:=by
 rw[List.set_append_right _ _ (by simp[rz])]
 simp[rz]
theorem yo {T W:List Int}{R:List D}{t:List D}{j:Nat}:(rz l ev T W R++t)[7+j]? = t[j]?:=by
 rw[List.getElem?_append_right (by simp[rz])]
 simp[rz]
theorem vG {T W:List Int}{R:List D}{t:List D}:(rz l ev T W R++t).length=7+t.length:=by
 simp[rz]
 omega

theorem Wi (hk:k<l.length)(hL:l.length≤1000)(hc:gl p l k=true):D.fU 3 1 8 (.st (rz l ev (iJ p l (k+1)) (j9 p l k) (kU p l k)++(ua p l k).1)) (th p l k) (.bq [In k])=some (.st (Ck p l ev k 0))∧D.apps (.st (rz l ev (iJ p l (k+1)) (j9 p l k) (kU p l k)++(ua p l k).1)) (th p l k) (.bq [In k])=some (th p l (k+1)):=by
 have e1:fW p l (k+1)=fW p l k++[k]:=by rw[p9,if_pos hc]
 have dG:=v8 (p:=p) (l:=l) (n:=k)
 have hS:th p l (k+1)=.sl (7+(ua p l k).1.length) 0 ((fW p l k).length+1):=by
  rw[th,e1,lq,rq,if_pos hc,if_neg (by simp)]
  simp
 rw[QT hk,q9,hS]
 by_cases h0:fW p l k=[]
 ·have ht:=(ye (p:=p) (l:=l) k).1 h0
  rw[th,h0,List.length_nil,lq,if_pos rfl]
  have hg:=LC (s:=rz l ev (iJ p l (k+1)) (j9 p l k) (kU p l k)++(ua p l k).1) (x:=(k:Int))
  rw[vG] at hg
  rw[Je,e1,h0]
  refine⟨hg.1.trans ?_,hg.2⟩
  rw[ht]
  simp
 ·have hb:=(ye (p:=p) (l:=l) k).2 h0
  have h1:(fW p l k).length≠0:=fun e=>h0 (List.eq_nil_of_length_eq_zero e)
  have ei:(fW p l k).map In=((fW p l k).map Int.ofNat).map I:=by rw[List.map_map];rfl
  have hg:=Qo (s:=rz l ev (iJ p l (k+1)) (j9 p l k) (kU p l k)++(ua p l k).1) (b:=7+(ua p l k).2) (xs:=(fW p l k).map Int.ofNat) (x:=(k:Int)) (by rw[yo,hb,Je,ei]) (by simp;omega) (by simpa using h0)
  rw[vG,List.length_map,HI,List.append_assoc] at hg
  rw[th,lq,if_neg h1]
  refine⟨hg.1.trans ?_,hg.2⟩
  rw[Je,e1,List.map_append,List.map_append,ei]
  rfl

theorem TF {i:Nat}(hk:k<l.length)(hL:p.n≤1000)(hi:i<p.n)(hs:(p.it i).kind=2) :
  ∃s1,D.fU 3 1 8 (.st (Ck p l ev k i)) (lq (gn p l k (q9 p l k) i).2 (ew p l k i).length) (.bq [I (cS p l k i)])=some (.st s1) ∧
  D.apps (.st (Ck p l ev k i)) (lq (gn p l k (q9 p l k) i).2 (ew p l k i).length) (.bq [I (cS p l k i)])=some (lq (gn p l k (q9 p l k) (i+1)).2 (ew p l k (i+1)).length) ∧
  s1=rz l ev (iJ p l (k+1)) ((j9 p l k).set k (jF p l k i)) ((kU p l k).set k (lq (gn p l k (q9 p l k) i).2 (ew p l k i).length))++((if ew p l k i=[] then(gn p l k (q9 p l k) i).1 else(gn p l k (q9 p l k) i).1.set (gn p l k (q9 p l k) i).2 (.bh []))++[.blk 3 1 ((ew p l k (i+1)).map I)]):=by
 have hk2:((p.it i).kind==2)=true:=by simp[hs]
 have e1:ew p l k (i+1)=ew p l k i++[cS p l k i]:=by rw[ew,if_pos hk2]
 have xB:=z8 (p:=p) (l:=l) (aO:=k) i
 have e2:(gn p l k (q9 p l k) (i+1)).2=(gn p l k (q9 p l k) i).1.length:=by rw[gn,if_pos hk2]
 rw[e2,e1,Ck]
 generalize(kU p l k).set k (lq (gn p l k (q9 p l k) i).2 (ew p l k i).length)=R
 generalize(j9 p l k).set k ((jF p l k i:Nat):Int)=W
 by_cases h0:ew p l k i=[]
 ·have hg:=LC (s:=rz l ev (iJ p l (k+1)) W R++(gn p l k (q9 p l k) i).1) (x:=cS p l k i)
  rw[vG] at hg
  rw[h0,List.length_nil,lq,if_pos rfl,if_pos rfl]
  refine⟨_,hg.1,?_,?_⟩
  ·rw[hg.2,lq,if_neg (by simp)]
   simp
  ·simp
 ·have hb:=(Qax (p:=p) (l:=l) (aO:=k) (t0:=q9 p l k) i h0).1
  have h1:(ew p l k i).length≠0:=fun e=>h0 (List.eq_nil_of_length_eq_zero e)
  have hg:=Qo (s:=rz l ev (iJ p l (k+1)) W R++(gn p l k (q9 p l k) i).1) (b:=7+(gn p l k (q9 p l k) i).2) (xs:=ew p l k i) (x:=cS p l k i) (by rw[yo];exact hb) (by omega) h0
  rw[vG,HI,List.append_assoc] at hg
  rw[lq,if_neg h1,if_neg h0]
  refine⟨_,hg.1,?_,rfl⟩
  rw[hg.2,lq,if_neg (by simp)]
  simp
end

section
open Go.Proofs
set_option maxRecDepth 100000
set_option maxHeartbeats 4000000

attribute [local irreducible] gR fV dQ

variable {bs:List D} {p:aL} {c:aS} {l:List aS}

theorem am8 {L:List Nat}{x:Nat}(hL:L.length≤maxLen):aP Tryz.prog 111 (.st bs) [Ix L,In x] (I (fi (fun y=>x==y) L)):=by
 have hL':L.length≤9223372036854775807:=hL
 refine aeX.R rfl rfl ?_
 unfold adj
 simp only[aC,aG,List.cons_append,List.nil_append]
 repeat' (first|(apply ar;rfl;exact ak;simp only[ai];rfl)|refine au ?_)
 refine bf (fun i=>[I i]) (fun i=>∀k (h:k<i) (h2:k<L.length),(x==L[k])=false) L.length rfl (fun _=>rfl) (fun k h=>absurd h (Nat.not_lt_zero _)) (fun i hi hJ R hR=>?_) (fun hJ R=>?_)
 ·have gH:decide ((i:Int)<(L.length:Int))=true:=by simp;omega
  cases hP:x==L[i]
  ·have hf:((x:Int)==(L[i]:Int))=false:=by simp at hP ⊢;omega
   repeat' (first|(apply bp;simp only[ai];rfl)|(apply aH;rfl;exact gH)|(apply aK;rfl;exact hf)|(apply aA;rfl;rfl;exact kr hi;simp only[ai];rfl)|(apply bM;rfl;rfl;omega;simp only[ai];rfl)|(apply aD;rfl;simp only[ai];rfl)|refine au ?_|(apply av;rfl;rfl)|refine Qav ?_|refine kj rfl ?_)
   refine hR fun k hk h2=>?_
   rcases Nat.lt_or_ge k i with h3 | h3
   ·exact hJ k h3 h2
   ·have e:k=i:=by omega
    subst e
    exact hP
  ·have ht:((x:Int)==(L[i]:Int))=true:=by simp at hP ⊢;omega
   repeat' (first|(apply bp;simp only[ai];rfl)|(apply aH;rfl;(·first|exact gH|exact ht))|(apply aA;rfl;rfl;exact kr hi;simp only[ai];rfl)|(apply aD;rfl;simp only[ai];rfl)|refine au ?_|(apply aq;rfl;first|exact rfl|(refine bH ?_)|(refine bF ?_)|(refine bG ?_)))
   exact(VX hi hP fun k hk=>hJ k hk (by omega)).symm
 ·repeat' (first|(apply bp;simp only[ai];rfl)|(apply aD;rfl;simp only[ai];rfl)|(apply av;rfl;rfl)|refine Qav ?_|(refine aB (by decide) ?_)|refine kj rfl ?_|(apply aX;rfl;all_goals (intro hz;(try simp only[bA] at hz);first|(exact absurd hz (by decide))|(exfalso;omega)|skip))|(apply aq;rfl;first|exact rfl|(refine bH ?_)|(refine bF ?_)|(refine bG ?_)))
  refine(VW fun a ha=>?_).symm
  obtain⟨k,hk,rfl⟩:=List.mem_iff_getElem.1 ha
  exact hJ k hk hk

theorem c65 {L:List Nat}{x:Nat}(hL:L.length≤maxLen):aP Tryz.prog 65 (.st bs) [Ix L,In x] (B (decide (x∈L))):=by
 have amo:=am8 (bs:=bs) (x:=x) hL
 refine akk.R rfl rfl ?_
 unfold u65
 simp only[aC,aG,List.cons_append,List.nil_append]
 repeat' (first|(apply aD;rfl;simp only[ai];rfl)|(apply aF;rfl;rfl;exact amo;rfl;simp only[ai];rfl)|(apply aq;rfl;first|exact rfl|(refine bH ?_)|(refine bF ?_)|(refine bG ?_)))
 rw[Ox,Bool.eq_iff_iff]
 simp

theorem c78 {L:List Int}(hL:L.length≤maxLen)(k:Nat):aP Tryz.prog 78 (.st bs) [Is L,In k] (I (L.getD k 0)):=by
 by_cases h2:k<L.length
 ·have hf:decide ((k:Int)≥(L.length:Int))=false:=by simp;omega
  refine aeK.R rfl rfl ?_
  unfold u78
  simp only[aC,aG,List.cons_append,List.nil_append]
  repeat' (first|(apply aK;rfl;exact hf)|(apply aA;rfl;rfl;exact iK h2;simp only[ai];rfl)|(apply ar;rfl;exact ak;simp only[ai];rfl)|(apply aD;rfl;simp only[ai];rfl)|exact aq rfl rfl)
 ·have ht:decide ((k:Int)≥(L.length:Int))=true:=by simp;omega
  rw[show L.getD k 0=0 by simp[List.getD,List.getElem?_eq_none (show L.length≤k by omega)]]
  refine aeK.R rfl rfl ?_
  unfold u78
  simp only[aC,aG,List.cons_append,List.nil_append]
  repeat' (first|(apply aH;rfl;exact ht)|(apply ar;rfl;exact ak;simp only[ai];rfl)|(apply aD;rfl;simp only[ai];rfl)|exact aq rfl rfl)

theorem c77 (hok:p.ok=true)(hc:br p l=true)(h0:¬p.power<0){a b:Nat}(ha:a<l.length)(hb:b<l.length):aP Tryz.prog 77 (.st bs) [In a,In b,.ptr [iW p l],.ptr p.cs] (I (powC p l a b)):=by
 have hcs:=cr hc
 have hm:=aL.mC hok
 obtain⟨i,hpi⟩:∃i:Nat,p.power=i:=⟨p.power.toNat,by omega⟩
 have hti:p.power.toNat=i:=by omega
 have hla:=(hcs.2 a ha).len
 have hlb:=(hcs.2 b hb).len
 have ago:=c66 (bs:=bs) (p:=p) ha (i:=i) (by omega)
 have agn:=c66 (bs:=bs) (p:=p) hb (i:=i) (by omega)
 rw[show In i=I p.power by rw[hpi]] at ago agn
 rw[powC,hti]
 simp only[Int.toNat_natCast]
 refine aka.R rfl rfl ?_
 unfold u77
 simp only[aC,aG,List.cons_append,List.nil_append]
 repeat' (first|(apply aN;rfl)|(apply aD;rfl;simp only[ai];rfl)|(apply aF;rfl;rfl;(·first|exact ago|exact agn|exact c71 _ _);rfl;simp only[ai];rfl)|exact aq rfl rfl)

/-! ## how the store begins -/

abbrev Z0:E:=.a_ 1000000000 1 (.sym 7) (.sym 10)
abbrev Z1:E:=.a_ 1000000000 1 Z0 (.sym 12)
abbrev Z2:E:=.a_ 1000000000 1 Z1 (.sym 14)
abbrev Z3:E:=.cI 1000000000 1 Z2 (.cons (.bO (.sym 7) (.sym 10)) .nil)
abbrev Z4:E:=.cI 1000000000 1 Z3 (.cons (.bO Z0 (.sym 12)) .nil)
abbrev Z5:E:=.cI 1000000000 1 Z4 (.cons (.bO Z1 (.sym 14)) .nil)

theorem A5 (n:Nat):cB (List.replicate n (I 0))=List.replicate n (I 0)∧cB (List.replicate n D.cq)=List.replicate n D.cq:=by
 unfold cB
 induction n with
 | zero=>exact⟨rfl,rfl⟩
 | succ n ih=>
  rw[List.replicate_succ,List.replicate_succ,List.flatMap_cons,List.flatMap_cons,ih.1,ih.2]
  exact⟨rfl,rfl⟩

section
variable {env:List D} {n:Nat} {ev:D} (h7:env[7]? = some (.st [.blk 90 1 [ev]])) (tV:env[10]? = some (.bq (List.replicate n (I 0)))) (h12:env[12]? = some (.bq (List.replicate n (I 0)))) (VK:env[14]? = some (.bq (List.replicate n .cq)))
include h7 tV
theorem zv0:Z0.eval env=some (.st [.blk 90 1 [ev],.blk TB 1 (List.replicate n (I 0))]):=by
 have a1:bK 1 (List.replicate n (I 0))=true:=by simp[bK,D.cells]
 have a3:(cB (List.replicate n (I 0))).all (·.one)=true:=by rw[(A5 n).1];simp[D.one]
 simp only[Z0,E.eval,h7,tV,Option.bind_some,D.a_,a1,a3,and_self,if_true]
 rw[(A5 n).1]
 rfl
include h12
theorem zv1:Z1.eval env=some (.st [.blk 90 1 [ev],.blk TB 1 (List.replicate n (I 0)),.blk TB 1 (List.replicate n (I 0))]):=by
 have a1:bK 1 (List.replicate n (I 0))=true:=by simp[bK,D.cells]
 have a3:(cB (List.replicate n (I 0))).all (·.one)=true:=by rw[(A5 n).1];simp[D.one]
 rw[Z1,E.eval,zv0 h7 tV]
 simp only[E.eval,h12,Option.bind_some,D.a_,a1,a3,and_self,if_true]
 rw[(A5 n).1]
 rfl
include VK
theorem zv2:Z2.eval env=some (.st [.blk 90 1 [ev],.blk TB 1 (List.replicate n (I 0)),.blk TB 1 (List.replicate n (I 0)),.blk TB 1 (List.replicate n .cq)]):=by
 have a1:bK 1 (List.replicate n D.cq)=true:=by simp[bK,D.cells]
 have a3:(cB (List.replicate n D.cq)).all (·.one)=true:=by rw[(A5 n).2];simp[D.one]
 rw[Z2,E.eval,zv1 h7 tV h12]
 simp only[E.eval,VK,Option.bind_some,D.a_,a1,a3,and_self,if_true]
 rw[(A5 n).2]
 rfl
theorem zv3:Z3.eval env=some (.st [.blk 90 1 [ev],.blk TB 1 (List.replicate n (I 0)),.blk TB 1 (List.replicate n (I 0)),.blk TB 1 (List.replicate n .cq),.blk TB 1 [.sl 1 0 n]]):=by
 rw[Z3,E.eval,zv2 h7 tV h12 VK]
 simp only[E.eval,h7,tV,Option.bind_some,D.bO,List.length_replicate,List.length_cons,List.length_nil]
 rfl
theorem zv4:Z4.eval env=some (.st [.blk 90 1 [ev],.blk TB 1 (List.replicate n (I 0)),.blk TB 1 (List.replicate n (I 0)),.blk TB 1 (List.replicate n .cq),.blk TB 1 [.sl 1 0 n],.blk TB 1 [.sl 2 0 n]]):=by
 have e5:(E.bO Z0 (.sym 12)).eval env=some (.sl 2 0 n):=by
  rw[E.eval,zv0 h7 tV]
  simp only[E.eval,h12,Option.bind_some,D.bO,List.length_replicate,List.length_cons,List.length_nil]
 have e6:(E.cons (.bO Z0 (.sym 12)) .nil).eval env=some (.agg [.sl 2 0 n]):=by
  rw[E.eval,e5]
  rfl
 rw[Z4,E.eval,zv3 h7 tV h12 VK,Option.bind_some,e6]
 rfl
theorem zv5:Z5.eval env=some (.st [.blk 90 1 [ev],.blk TB 1 (List.replicate n (I 0)),.blk TB 1 (List.replicate n (I 0)),.blk TB 1 (List.replicate n .cq),.blk TB 1 [.sl 1 0 n],.blk TB 1 [.sl 2 0 n],.blk TB 1 [.sl 3 0 n]]):=by
 have e5:(E.bO Z1 (.sym 14)).eval env=some (.sl 3 0 n):=by
  rw[E.eval,zv1 h7 tV h12]
  simp only[E.eval,VK,Option.bind_some,D.bO,List.length_replicate,List.length_cons,List.length_nil]
 have e6:(E.cons (.bO Z1 (.sym 14)) .nil).eval env=some (.agg [.sl 3 0 n]):=by
  rw[E.eval,e5]
  rfl
 rw[Z5,E.eval,zv4 h7 tV h12 VK,Option.bind_some,e6]
 rfl

theorem VV:(E.aU Z2).eval env=some (.loc 4 0):=by
 rw[E.eval,zv2 h7 tV h12 VK]
 rfl
theorem agA:(E.aU Z3).eval env=some (.loc 5 0):=by
 rw[E.eval,zv3 h7 tV h12 VK]
 rfl
theorem FT:(E.aU Z4).eval env=some (.loc 6 0):=by
 rw[E.eval,zv4 h7 tV h12 VK]
 rfl
end

theorem OD {env:List D}{f:Nat}{x:E}{a:D}(hx:x.eval env=some a):(E.gV f .ax (.aa x .ax)).eval env=some (.fn f [] [a]):=by
 simp only[E.eval,hx,Option.bind_some]
 rfl

theorem QS {ev:D}:Fw p l ev 0=[.blk 90 1 [ev],.blk TB 1 (List.replicate l.length (I 0)),.blk TB 1 (List.replicate l.length (I 0)),.blk TB 1 (List.replicate l.length .cq),.blk TB 1 [.sl 1 0 l.length],.blk TB 1 [.sl 2 0 l.length],.blk TB 1 [.sl 3 0 l.length]]:=by
 unfold Fw rz iJ j9 kU
 rw[zW,zW,zW,List.map_replicate]
 rfl

/-! ## what lies in the first blocks -/

section
variable {ev:D} {T W:List Int} {R t:List D} {k:Nat}

theorem AJ:D.ld false 1 (.st (rz l ev T W R++t)) (.loc 0 0)=some ev:=gX (e:=90) (sz:=1) (cs:=[ev]) rfl rfl
theorem aeD:D.ld false 1 (.st (rz l ev T W R++t)) (.loc 4 0)=some (.sl 1 0 l.length):=gX (e:=TB) (sz:=1) (cs:=[.sl 1 0 l.length]) rfl rfl
theorem aeC:D.ld false 1 (.st (rz l ev T W R++t)) (.loc 5 0)=some (.sl 2 0 l.length):=gX (e:=TB) (sz:=1) (cs:=[.sl 2 0 l.length]) rfl rfl
theorem Ze:D.ld false 1 (.st (rz l ev T W R++t)) (.loc 6 0)=some (.sl 3 0 l.length):=gX (e:=TB) (sz:=1) (cs:=[.sl 3 0 l.length]) rfl rfl

theorem aox {x:Int}(h:T[k]? = some x):D.ld false 1 (.st (rz l ev T W R++t)) (.loc 1 (k*1))=some (I x):=gX (e:=TB) (sz:=1) (cs:=T.map I) rfl (by simp[h])
theorem aeE {x:Int}(h:W[k]? = some x):D.ld false 1 (.st (rz l ev T W R++t)) (.loc 2 (k*1))=some (I x):=gX (e:=TB) (sz:=1) (cs:=W.map I) rfl (by simp[h])
theorem aeF {x:D}(h:R[k]? = some x):D.ld false 1 (.st (rz l ev T W R++t)) (.loc 3 (k*1))=some x:=gX (e:=TB) (sz:=1) (cs:=R) rfl (by rw[Nat.mul_one];exact h)

theorem aaf (x:Int)(h:k<T.length):D.gQ 1 (.st (rz l ev T W R++t)) (.loc 1 (k*1)) (I x)=some (.st (rz l ev (T.set k x) W R++t)):=by
 rw[mr (e:=TB) (sz:=1) (cs:=T.map I) rfl (by simpa using h) rfl,Nat.mul_one,←List.map_set]
 rfl
theorem aae (x:Int)(h:k<W.length):D.gQ 1 (.st (rz l ev T W R++t)) (.loc 2 (k*1)) (I x)=some (.st (rz l ev T (W.set k x) R++t)):=by
 rw[mr (e:=TB) (sz:=1) (cs:=W.map I) rfl (by simpa using h) rfl,Nat.mul_one,←List.map_set]
 rfl
theorem aag {x:D}(hx:x.one=true)(h:k<R.length):D.gQ 1 (.st (rz l ev T W R++t)) (.loc 3 (k*1)) x=some (.st (rz l ev T W (R.set k x)++t)):=by
 rw[mr (e:=TB) (sz:=1) (cs:=R) rfl (by simpa using h) hx,Nat.mul_one]
 rfl
end

theorem TU (a b:Nat):(lq a b).one=true:=by
 unfold lq
 split <;> rfl

/-! ## the real times' cars,in the store -/

theorem abN (m:Nat)(xs:List Int):SS (gS m xs):=by
 cases xs with
 | nil=>exact .cq
 | cons x r=>exact .sl _ _ _

theorem KA {s:List D}:bD s 8 (iW p l)=some (iW p l):=by
 have h1:bD s 7 (.bq (p.items.map Item.d))=some (.bq (p.items.map Item.d)):=xm
 have h2:bD s 7 (dM l)=some (dM l):=DT
 have h3:∀x:List Int,bD s 7 (Is x)=some (Is x):=fun x=>oJ
 have h4:∀x:Int,bD s 7 (I x)=some (I x):=fun x=>rfl
 have h5:∀x:Bool,bD s 7 (B x)=some (B x):=fun x=>rfl
 rw[iW,bD]
 generalize bD s 7=f at h1 h2 h3 h4 h5 ⊢
 simp only[LL,dK,h1,h2,h3,h4,h5,Option.bind_some,Option.map_some]

theorem amV {s:List D}{L:List Nat}{x:Nat}(hL:L.length≤maxLen):aP Tryz.prog 65 (.st (gB s (ints L))) [gS s.length (ints L),In x] (B (decide (x∈L))):=by
 refine zX (n:=8) (c65 (bs:=[]) hL) ?_ (.v _)
 have h1:bD (gB s (ints L)) 8 (gS s.length (ints L))=some (Ix L):=by rw[K8];exact H9 (n:=6)
 have h2:bD (gB s (ints L)) 8 (In x)=some (In x):=rfl
 simp only[dK,h1,h2,Option.bind_some,Option.map_some]

theorem amU {s:List D}{i:Nat}{L:List Nat}(hb:∀k,k∈L→k<l.length∧i<(cd l k).lines.length)(hL:L.length≤1000):aP Tryz.prog 67 (.st (gB s (ints L))) [iW p l,gS s.length (ints L),In i] (Is (lp (jO l i L))):=by
 obtain⟨st,hd,hW,hm⟩:=ahj (p:=p) hb hL
 refine Xe (n:=8) hW ?_ hd (abN _ _) hm
 have h0:bD (gB s (ints L)) 8 (iW p l)=some (iW p l):=KA
 have h1:bD (gB s (ints L)) 8 (gS s.length (ints L))=some (Ix L):=by rw[K8];exact H9 (n:=6)
 have h2:bD (gB s (ints L)) 8 (In i)=some (In i):=rfl
 simp only[dK,h0,h1,h2,Option.bind_some,Option.map_some]
end
end Go.Am.Sc
