/-
  Several texts, one behind the other.
-/
import Derived.Test.YtjnipnanfjglpaaGreatDoorAmFntoAmTabK
import Derived.Test.YtjnipnanfjglpaaGreatDoorAmKilltoAmOut
set_option linter.unusedSimpArgs false
set_option linter.unusedVariables false
namespace Go.Am
section
noncomputable section

structure qi where
 f:FuncId
 bs:List D
 ds:List D
 d:D
 bs':List D

def qi.ok (P:Program)(x:qi):Prop:=bC P x.f (.st x.bs) x.ds (.ret x.d) (.st x.bs')

def Out.GX (d:D)(bs:List D):Option (Out×D)→Bool
 | some (.ret d',.st bs')=>D.same d' d&&D.eJ bs' bs
 | _=>false

theorem Out.J1 {d:D}{bs:List D}{x:Option (Out×D)}(h:Out.GX d bs x=true):x=some (.ret d,.st bs):=by
 unfold Out.GX at h
 split at h
 ·simp only[A0g] at h
  rw[D.b_ h.1,D.cF h.2]
 ·cases h

theorem Ll {P:Program}{o:we}{b0:List D}(ho:jC P o)(x:qi)(n m:Nat){tb:ug}(ht:∀e,e∈tb→ak P e)(h:Out.GX x.d x.bs' ((j6 P tb n b0 o m).W x.f (.st x.bs) x.ds)=true):x.ok P:=
 (lK (n:=n) ht ho m).W x.f (.st x.bs) x.ds _ _ (Out.J1 h)

end
end

section
noncomputable section

mutual
def D.An (n:Nat):D→Bool
 | .v _ | .cO=>true
 | .agg cs | .a_ cs | .ptr cs | .aM cs=>At n cs
 | .fq _ d=>d.An n
 | .fn _ a b=>At n a&&At n b
 | .loc i _ | .sl i _ _ | .mp i=>Nat.blt i n
 | _=>false
def At (n:Nat):List D→Bool
 | []=>true
 | d :: r=>d.An n&&At n r
end

def D.OY (n:Nat):D→Bool
 | .bh _ _ cs | .fm cs | .aM cs=>At n cs
 | .itb m _ _=>Nat.blt m n
 | .BV _ _ | .nL _ _ _=>true
 | _=>false

theorem iD {n:Nat}:∀{ds:List D} {i:Nat} {d:D},At n ds=true→ds[i]? = some d→d.An n=true
 | [],_,_,_,h=>by simp at h
 | x :: r,0,d,h,hi=>by simp[At] at h hi;exact hi ▸ h.1
 | x :: r,i+1,d,h,hi=>by simp[At] at h hi;exact iD h.2 hi

theorem Jp {n:Nat}{d c:D}{j:Nat}(h:d.An n=true)(hc:d.cells[j]? = some c):c.An n=true:=by
 cases d <;> first
 |(simp only[D.cells] at hc;simp only[D.An] at h;exact iD h hc)
 |(cases j with
    | zero=>simp only[D.cells,B0d,A0u] at hc;subst hc;exact h
    | succ j=>simp[D.cells] at hc)

theorem aZ.cut {w:World}{S S':Sets}{n:Nat}{v:Value}{d:D}(h:aZ w S v d)(hS:∀b o,S b o→S' b o)(hn:n≤S'.n)(hl:∀i,i<n→S'.loc i=S.loc i)(hc:∀i,i<n→S'.cap i=S.cap i)(hd:d.An n=true):aZ w S' v d:=by
 induction h with
 | v h=>exact .v h
 | agg hl ho _ ih=>exact .agg hl ho fun i v d h1 h2=>ih i v d h1 h2 (iD (by simpa[D.An] using hd) h2)
 | nil=>exact .nil
 | emp hm=>exact .emp hm
 | a_ hl hc hm hz ho jF hw _ ih=>exact .a_ hl hc hm hz ho (fun i e j d h1 h2=>hS _ _ (jF i e j d h1 h2)) hw fun i e j d h1 h2=>ih i e j d h1 h2 (Jp (iD (by simpa[D.An] using hd) h1) h2)
 | ptr ho jF hw _ ih=>exact .ptr ho (fun j d h1=>hS _ _ (jF j d h1)) hw fun j d h1=>ih j d h1 (iD (by simpa[D.An] using hd) h1)
 | aM hl _ ih=>exact .aM hl fun i v d h1 h2=>ih i v d h1 h2 (iD (by simpa[D.An] using hd) h2)
 | fq _ ih=>exact .fq (ih (by simpa[D.An] using hd))
 | fn hl hl' _ _ ih J3=>
  simp only[D.An,A0g] at hd
  exact .fn hl hl' (fun i v d h1 h2=>ih i v d h1 h2 (iD hd.1 h2)) fun i v d h1 h2=>J3 i v d h1 h2 (iD hd.2 h2)
 | cO=>exact .cO
 | @mp i h=>
  have hi:i<n:=Nat.le_of_ble_eq_true hd
  rw[←hl i hi];exact .mp (A0s hi hn)
 | @loc i off h=>
  have hi:i<n:=Nat.le_of_ble_eq_true hd
  rw[←hl i hi];exact .loc (A0s hi hn)
 | @sl i off len c h h1 h2 h0=>
  have hi:i<n:=Nat.le_of_ble_eq_true hd
  rw[←hl i hi];exact .sl (A0s hi hn) h1 h2 fun e=>(h0 e).trans (hc i hi).symm
 | yl _ _ _ | uc _ _ _ _=>simp[D.An] at hd

def Out.An (n:Nat):Out→Bool
 | .ret d | .dI d=>d.An n

theorem Out.NY {w:World}{S S':Sets}{n:Nat}{v:Value}{o:Out}{e:Ending}(h:o.ends w S v e)(hS:∀b o,S b o→S' b o)(hn:n≤S'.n)(hl:∀i,i<n→S'.loc i=S.loc i)(hc:∀i,i<n→S'.cap i=S.cap i)(hd:o.An n=true):o.ends w S' v e:=by
 cases o <;> exact⟨h.1,h.2.cut hS hn hl hc hd⟩

def AV (n:Nat):List D→Bool
 | []=>true
 | d :: r=>d.OY n&&AV n r

theorem qp {n:Nat}:∀{ds:List D} {i:Nat} {d:D},AV n ds=true→ds[i]? = some d→d.OY n=true
 | [],_,_,_,h=>by simp at h
 | x :: r,0,d,h,hi=>by simp[AV] at h hi;exact hi ▸ h.1
 | x :: r,i+1,d,h,hi=>by simp[AV] at h hi;exact qp h.2 hi

theorem qm.cut {S S':Sets}{i n:Nat}{ob:Option Obj}{z:D}(h:qm S i ob z)(hn:n≤S'.n)(hl:∀i,i<n→S'.loc i=S.loc i)(hi:i<n)(hd:z.OY n=true):qm S' i ob z:=by
 cases z <;> simp only[qm] at h ⊢ <;> try exact h
 ·have hm:=Nat.le_of_ble_eq_true hd
  exact⟨A0s hm hn,by rw[hl _ hm];exact h.2⟩
 ·simp[D.OY] at hd
 ·rw[hl _ hi];exact h

theorem Mz {n:Nat}{bH:List D}{j:Nat}{kv:D}(h:At n bH=true)(hj:(D.kept bH)[j]? = some kv):kv.An n=true:=by
 obtain⟨i,hi⟩:=List.mem_iff_getElem?.1 ((show ∀l:List D,∀x,x∈D.kept l→x∈l from fun l x hx=>by
  unfold D.kept at hx
  split at hx
  ·exact List.mem_of_mem_tail hx
  ·exact hx) _ _ (B0i hj))
 exact iD h hi

variable {P:Program} {f:FuncId} {ds E E' r g bs bs':List D} {o:Out}

def dead (n:Nat):List D:=List.replicate n (.aM [])

theorem Fi {n i:Nat}{x:D}(h:(dead n)[i]? = some x):x=.aM []:=by
 unfold dead at h
 rw[List.getElem?_replicate] at h
 split at h <;> cases h
 rfl

theorem Jh (E g:List D):Wk (E++g) (E++dead g.length):=by
 refine⟨by simp[dead],fun i x hi hx=>?_⟩
 by_cases h:i<E.length
 ·rw[A0j h] at hi ⊢
  exact hi
 ·rw[A0l (by omega)] at hi
  rw[Fi hi] at hx
  cases hx

theorem eD.Lm (h:eD P f (.st bs') ds o)(hw:Wk bs bs'):eD P f (.st bs) ds o:=by
 intro w S an nF vs hb hst dF hfl hS hvl hrd
 cases hb
 exact h w S an bs' vs rfl (hst.Lm hw) dF hfl hS hvl hrd

theorem bC.under (h:bC P f (.st (E++dead g.length)) ds o (.st (E'++r)))(hl:E'.length=E.length)(hr:g.length≤r.length)(hE':AV (E.length+g.length) E'=true)(ho:o.An (E.length+g.length)=true):bC P f (.st (E++g)) ds o (.st (E'++g)):=by
 intro w S an nF vs hb hst dF hfl hS hvl hrd
 cases hb
 have hn:=hst.n
 rw[A0t] at hn
 let F:Nat→Prop:=fun b=>∃(i:Nat) (x:D),E[i]? = some x∧x.live=true∧S.loc i=b
 have hp:∀(i:Nat) (x:D),E[i]? = some x→(E++g)[i]? = some x:=fun i x hi=>by rw[A0j (A0a.1 hi).1];exact hi
 have hF:∀b,F b→an b:=by
  rintro b ⟨i,x,hi,hx,rfl⟩
  exact hst.gF (hp i x hi) hx
 have J6:ck w S F (E++dead g.length):=by
  have hw:=hst.Lm (Jh E g)
  have hi:∀(i:Nat) (x:D),(E++dead g.length)[i]? = some x→x.live=true→F (S.loc i):=by
   intro i x hi hx
   by_cases h0:i<E.length
   ·rw[A0j h0] at hi
    exact⟨i,x,hi,hx,rfl⟩
   ·rw[A0l (by omega)] at hi
    rw[Fi hi] at hx
    cases hx
  exact⟨hw.n,fun i e sz cs hx=>⟨hi i _ hx rfl,(hw.cells i e sz cs hx).2⟩,fun b off hb=>hw.rH b off (hF b hb),fun i bH hx=>⟨hi i _ hx rfl,(hw.maps i bH hx).2⟩,hw.inj,fun i z hx hz=>⟨hi i _ hx (D.ff hz),(hw.pV i z hx hz).2⟩⟩
 refine(h w S F _ vs rfl J6 (fun l rec hlr=>⟨(dF l rec hlr).1,fun hf=>(dF l rec hlr).2 (hF l hf)⟩) (fun b hb=>hfl b (hF b hb)) hS hvl hrd).mono ?_
 rintro e w' ⟨v,S',bf,ew,c_,fX,cL,hK,hle,hos,ng,hout,hsz,hold,hft,hnew,hlt⟩
 cases fX
 let S2:Sets:={ S with mem:=S'.mem }
 have ji:∀i,i<E.length+g.length→S2.loc i=S'.loc i:=fun i hi=>(hle.loc i (by omega)).symm
 have hcap:∀i,i<E.length+g.length→S2.cap i=S'.cap i:=fun i hi=>(hle.cap i (by omega)).symm
 have hn2:E.length+g.length≤S2.n:=by show _≤S.n;omega
 have ON:∀(b:Nat),an b→¬F b→w'.heap[b]? = w.heap[b]?∧∀off,¬S' b off:=by
  intro b hb hF1
  refine⟨hold b (hfl b hb) hF1,fun off hs=>?_⟩
  rcases hnew b off hs with k | k | k
  ·exact hst.rH b off hb k
  ·exact hF1 k
  ·have:=hfl b hb;omega
 have o8:S≤S2:=⟨hle.mem,A0m _,fun _ _=>rfl,fun _ _=>rfl,rfl,fun _ _=>rfl⟩
 let YE:Nat→Prop:=fun b=>bf b∨(an b∧¬F b)
 have hp':∀(i:Nat) (x:D),E'[i]? = some x→(E'++r)[i]? = some x:=fun i x hi=>by rw[A0j (A0a.1 hi).1];exact hi
 have hgF:∀(i:Nat) (x:D),E.length≤i→(E++g)[i]? = some x→x.live=true→an (S.loc i)∧¬F (S.loc i):=by
  intro i x hi hx hxl
  refine⟨hst.gF hx hxl,?_⟩
  rintro⟨k,y,hk,hy,he⟩
  have:=hst.inj k i y x (hp k y hk) hx hy hxl he
  have:=(A0a.1 hk).1
  omega
 have hcs:∀(i:Nat) (x:D),(E'++g)[i]? = some x→(i<E.length∧E'[i]? = some x)∨(E.length≤i∧(E++g)[i]? = some x):=by
  intro i x hi
  by_cases h0:i<E.length
  ·rw[A0j (by omega)] at hi
   exact .inl ⟨h0,hi⟩
  ·rw[A0l (by omega),hl] at hi
   exact .inr ⟨by omega,by rw[A0l (by omega)];exact hi⟩
 have hR:∀(v:Value) (d:D),aZ w S v d→aZ w' S2 v d:=fun v d hr=>hr.keep hK o8
 have hR1:∀(v:Value) (d:D),d.An (E.length+g.length)=true→aZ w' S' v d→aZ w' S2 v d:=fun v d hd hr=>hr.cut (fun _ _ h=>h) hn2 ji hcap hd
 have iS:∀i,i<E.length→S2.loc i=S'.loc i:=fun i hi=>ji i (by omega)
 refine⟨v,S2,YE,E'++g,Out.NY c_ (fun _ _ h=>h) hn2 ji hcap ho,rfl,?_,hK,o8,hos,ng,hout,hsz,fun b hb hf=>hold b hb fun hF1=>hf (hF b hF1),fun b hb=>?_,fun b o hs=>?_,hlt⟩
 ·refine⟨by show S.n=_;rw[A0t,hl,hn],fun i e sz cs hi=>?_,fun b off hb=>?_,fun i bH hi=>?_,fun i j x y hi hj hx hy he=>?_,fun i z hi hz=>?_⟩
  ·rcases hcs i _ hi with⟨h1,h0⟩ | ⟨h0,h1⟩
   ·obtain⟨g0,vs,g1,g2,g3,g4,g5,g6⟩:=cL.cells i _ _ _ (hp' i _ h0)
    rw[iS i h1,hcap i (by omega)]
    exact⟨.inl g0,vs,g1,g2,g3,g4,fun j v d hv hd=>hR1 _ _ (iD (qp hE' h0) hd) (g5 j v d hv hd),g6⟩
   ·obtain⟨g0,vs,g1,g2,g3,g4,g5,g6⟩:=hst.cells i _ _ _ h1
    obtain⟨k1,k2⟩:=hgF i _ h0 h1 rfl
    obtain⟨k3,k4⟩:=ON _ k1 k2
    exact⟨.inr ⟨k1,k2⟩,vs,g1.to k3,g2,g3,g4,fun j v d hv hd=>hR _ _ (g5 j v d hv hd),k4⟩
  ·rcases hb with hb | hb
   ·exact cL.rH b off hb
   ·exact(ON b hb.1 hb.2).2 off
  ·rcases hcs i _ hi with⟨h1,h0⟩ | ⟨h0,h1⟩
   ·obtain⟨g0,es,clock,g1,g2,g3,g4⟩:=cL.maps i _ (hp' i _ h0)
    rw[iS i h1]
    refine⟨.inl g0,es,clock,g1,g2,g3,fun j e kv he hkv=>?_⟩
    obtain⟨dk,dv,rfl,k2,k3⟩:=g4 j e kv he hkv
    have:=Mz (qp hE' h0) hkv
    simp only[D.An,At,A0g] at this
    exact⟨dk,dv,rfl,hR1 _ _ this.1 k2,hR1 _ _ this.2.1 k3⟩
   ·obtain⟨g0,es,clock,g1,g2,g3,g4⟩:=hst.maps i _ h1
    obtain⟨k1,k2⟩:=hgF i _ h0 h1 rfl
    obtain⟨k3,k4⟩:=ON _ k1 k2
    refine⟨.inr ⟨k1,k2⟩,es,clock,k3.trans g1,g2,k4,fun j e kv he hkv=>?_⟩
    obtain⟨dk,dv,k1,k2,k3⟩:=g4 j e kv he hkv
    exact⟨dk,dv,k1,hR _ _ k2,hR _ _ k3⟩
  ·have far:∀(i j:Nat) (x y:D),i<E.length→E'[i]? = some x→x.live=true→E.length≤j→(E++g)[j]? = some y→y.live=true→S.loc i=S.loc j→False:=by
    intro i j x y hi hx hxl hj hy rO he
    obtain⟨k1,k2⟩:=hgF j y hj hy rO
    have hf:=cL.gF (hp' i x hx) hxl
    rw[←iS i hi,show S2.loc i=S.loc i from rfl,he] at hf
    rcases(hft _ hf).1 with k | k
    ·exact k2 k
    ·have:=hfl _ k1;omega
   rcases hcs i _ hi with⟨h0,h1⟩ | ⟨h0,h1⟩ <;> rcases hcs j _ hj with⟨h2,h3⟩ | ⟨h2,h3⟩
   ·rw[iS i h0,iS j h2] at he
    exact cL.inj i j x y (hp' i x h1) (hp' j y h3) hx hy he
   ·exact(far i j x y h0 h1 hx h2 h3 hy he).elim
   ·exact(far j i y x h2 h3 hy h0 h1 hx he.symm).elim
   ·exact hst.inj i j x y h1 h3 hx hy he
  ·rcases hcs i _ hi with⟨h0,h1⟩ | ⟨h0,h1⟩
   ·obtain⟨g0,g1,g2⟩:=cL.pV i z (hp' i _ h1) hz
    rw[iS i h0]
    exact⟨.inl g0,g1.cut hn2 ji (by omega) (qp hE' h1),g2⟩
   ·obtain⟨g0,g1,g2⟩:=hst.pV i z h1 hz
    obtain⟨k1,k2⟩:=hgF i _ h0 h1 (D.ff hz)
    obtain⟨k3,k4⟩:=ON _ k1 k2
    have:=(A0a.1 h1).1
    rw[A0t] at this
    exact⟨.inr ⟨k1,k2⟩,by rw[show S2.loc i=S.loc i from rfl,k3];exact g1.to (S':=S2) (A0m _) (fun _ _=>rfl) rfl (by omega),k4⟩
 ·rcases hb with hb | hb
  ·refine⟨?_,(hft b hb).2⟩
   rcases(hft b hb).1 with k | k
   ·exact .inl (hF b k)
   ·exact .inr k
  ·exact⟨.inl hb.1,A0s (hfl b hb.1) hsz⟩
 ·rcases hnew b o hs with k | k | k
  ·exact .inl k
  ·exact .inr (.inl (hF b k))
  ·exact .inr (.inr k)

def okU (n:Nat)(E':List D)(d:D):Option (Out×D)→Bool
 | some (.ret d',.st bs)=>D.same d' d&&D.eJ (bs.take E'.length) E'&&Nat.ble n bs.length&&AV n E'&&d.An n
 | _=>false

theorem Dm {b0:List D}{o:we}(ho:jC P o){n m:Nat}{tb:ug}(ht:∀e,e∈tb→ak P e){d:D}(hl:E'.length=E.length)(h:okU (E.length+g.length) E' d ((j6 P tb n b0 o m).W f (.st (E++dead g.length)) ds)=true):bC P f (.st (E++g)) ds (.ret d) (.st (E'++g)):=by
 unfold okU at h
 split at h
 ·rename_i d' bs hx
  simp only[A0g] at h
  obtain⟨⟨⟨⟨h1,h2⟩,h3⟩,h4⟩,h5⟩:=h
  have h6:=D.cF h2
  have h7:=Nat.le_of_ble_eq_true h3
  rw[←List.take_append_drop E'.length bs,h6,D.b_ h1] at hx
  exact((lK (n:=n) ht ho m).W _ _ _ _ _ hx).under hl (by rw[List.length_drop];omega) h4 h5
 ·cases h

def L4 (d:D):Option Out→Bool
 | some (.ret d')=>D.same d' d
 | _=>false

theorem pL {b0:List D}{o:we}(ho:jC P o){n m:Nat}{tb:ug}(ht:∀e,e∈tb→ak P e){d:D}(h:L4 d ((j6 P tb n b0 o m).R f (.st (E++dead g.length)) ds)=true):aU P f (.st (E++g)) ds d:=by
 unfold L4 at h
 split at h
 ·rename_i d' hx
  rw[D.b_ h] at hx
  exact((lK (n:=n) ht ho m).R _ _ _ _ hx).Lm (Jh E g)
 ·cases h

end
end
end Go.Am
