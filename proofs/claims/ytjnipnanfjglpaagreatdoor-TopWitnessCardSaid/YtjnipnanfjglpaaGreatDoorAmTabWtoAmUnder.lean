/- Texts. -/
import Derived.Test.YtjnipnanfjglpaaGreatDoorAmUtoAmTabK
import Derived.Test.YtjnipnanfjglpaaGreatDoorAmKilltoAmOut
set_option linter.unusedSimpArgs false
set_option linter.unusedVariables false
namespace Go.Am
section
noncomputable section
structure tM where
 f:FuncId
 bs:List D
 ds:List D
 d:D
 bs':List D
def tM.ok (P:Program)(x:tM):Prop:=bu P x.f (.st x.bs) x.ds (.ret x.d) (.st x.bs')
def Out.G9 (d:D)(bs:List D):Option (Out×D)→Bool
 | some (.ret d',.st bs')=>D.same d' d&&D.fq bs' bs
 | _=>false
theorem Out.Ql {d:D}{bs:List D}{x:Option (Out×D)}(h:Out.G9 d bs x=true):x=some (.ret d,.st bs):=by
 unfold Out.G9 at h;split at h
 ·simp only[A0f] at h;rw[D.cL h.1,D.dB h.2]
 ·cases h
theorem Ii {P:Program}{o:AI}{b0:List D}(ho:lD P o)(x:tM)(n m:Nat){tb:vY}(ht:∀e,e∈tb→ay P e)(h:Out.G9 x.d x.bs' ((kV P tb n b0 o m).W x.f (.st x.bs) x.ds)=true):x.ok P:=
 (nV (n:=n) ht ho m).W x.f (.st x.bs) x.ds _ _ (Out.Ql h)
end
end
section
noncomputable section
mutual
def D.Eb (n:Nat):D→Bool
 | .v _ | .bS=>true
 | .agg cs | .bk cs | .ptr cs | .a_ cs=>El n cs
 | .iW _ d=>d.Eb n
 | .fn _ a b=>El n a&&El n b
 | .loc i _ | .sl i _ _ | .mp i=>Nat.blt i n
 | _=>false
def El (n:Nat):List D→Bool
 | []=>true
 | d :: r=>d.Eb n&&El n r
end
def D.WS (n:Nat):D→Bool
 | .blk _ _ cs | .cg cs | .a_ cs=>El n cs
 | .itb m _ _=>Nat.blt m n
 | .E3 _ _ | .qF _ _ _=>true
 | _=>false
theorem jQ {n:Nat}:∀{ds:List D} {i:Nat} {d:D},El n ds=true→ds[i]? = some d→d.Eb n=true
 | [],_,_,_,h=>by simp at h
 | x :: r,0,d,h,hi=>by simp[El] at h hi;exact hi ▸ h.1
 | x :: r,i+1,d,h,hi=>by simp[El] at h hi;exact jQ h.2 hi
theorem Py {n:Nat}{d c:D}{j:Nat}(h:d.Eb n=true)(hc:d.cells[j]? = some c):c.Eb n=true:=by
 cases d <;> first
 |(simp only[D.cells] at hc;simp only[D.Eb] at h;exact jQ h hc)
 |(cases j with
    | zero=>simp only[D.cells,A0L,A0x] at hc;subst hc;exact h
    | succ j=>simp[D.cells] at hc)
theorem bA.cut {w:World}{S S':Sets}{n:Nat}{v:Value}{d:D}(h:bA w S v d)(hS:∀b o,S b o→S' b o)(hn:n≤S'.n)(hl:∀i,i<n→S'.loc i=S.loc i)(hc:∀i,i<n→S'.cap i=S.cap i)(hd:d.Eb n=true):bA w S' v d:=by
 induction h with
 | v h=>exact .v h
 | agg hl ho _ ih=>exact .agg hl ho fun i v d h1 h2=>ih i v d h1 h2 (jQ (by simpa[D.Eb] using hd) h2)
 | nil=>exact .nil
 | emp hm=>exact .emp hm
 | bk hl hc hm hz ho tq hw _ ih=>exact .bk hl hc hm hz ho (fun i e j d h1 h2=>hS _ _ (tq i e j d h1 h2)) hw fun i e j d h1 h2=>ih i e j d h1 h2 (Py (jQ (by simpa[D.Eb] using hd) h1) h2)
 | ptr ho tq hw _ ih=>exact .ptr ho (fun j d h1=>hS _ _ (tq j d h1)) hw fun j d h1=>ih j d h1 (jQ (by simpa[D.Eb] using hd) h1)
 | a_ hl _ ih=>exact .a_ hl fun i v d h1 h2=>ih i v d h1 h2 (jQ (by simpa[D.Eb] using hd) h2)
 | iW _ ih=>exact .iW (ih (by simpa[D.Eb] using hd))
 | fn hl iH _ _ ih Qo=>
  simp only[D.Eb,A0f] at hd;exact .fn hl iH (fun i v d h1 h2=>ih i v d h1 h2 (jQ hd.1 h2)) fun i v d h1 h2=>Qo i v d h1 h2 (jQ hd.2 h2)
 | bS=>exact .bS
 | @mp i h=>
  have hi:i<n:=C0L hd;rw[←hl i hi];exact .mp (A0v hi hn)
 | @loc i off h=>
  have hi:i<n:=C0L hd;rw[←hl i hi];exact .loc (A0v hi hn)
 | @sl i off len c h h1 h2 h0=>
  have hi:i<n:=C0L hd;rw[←hl i hi];exact .sl (A0v hi hn) h1 h2 fun e=>(h0 e).trans (hc i hi).symm
 | yl _ _ _ | K9 _ _ _ _=>simp[D.Eb] at hd
def Out.Eb (n:Nat):Out→Bool
 | .ret d | .ee d=>d.Eb n
theorem Out.Vy {w:World}{S S':Sets}{n:Nat}{v:Value}{o:Out}{e:Ending}(h:o.ends w S v e)(hS:∀b o,S b o→S' b o)(hn:n≤S'.n)(hl:∀i,i<n→S'.loc i=S.loc i)(hc:∀i,i<n→S'.cap i=S.cap i)(hd:o.Eb n=true):o.ends w S' v e:=by cases o <;> exact⟨h.1,h.2.cut hS hn hl hc hd⟩
def ET (n:Nat):List D→Bool
 | []=>true
 | d :: r=>d.WS n&&ET n r
theorem tR {n:Nat}:∀{ds:List D} {i:Nat} {d:D},ET n ds=true→ds[i]? = some d→d.WS n=true
 | [],_,_,_,h=>by simp at h
 | x :: r,0,d,h,hi=>by simp[ET] at h hi;exact hi ▸ h.1
 | x :: r,i+1,d,h,hi=>by simp[ET] at h hi;exact tR h.2 hi
theorem zI.cut {S S':Sets}{i n:Nat}{ob:Option Obj}{z:D}(h:zI S i ob z)(hn:n≤S'.n)(hl:∀i,i<n→S'.loc i=S.loc i)(hi:i<n)(hd:z.WS n=true):zI S' i ob z:=by
 cases z <;> simp only[zI] at h ⊢ <;> try exact h
 ·have hm:=C0L hd;exact⟨A0v hm hn,by rw[hl _ hm];exact h.2⟩
 ·simp[D.WS] at hd
 ·rw[hl _ hi];exact h
theorem TP {n:Nat}{bU:List D}{j:Nat}{kv:D}(h:El n bU=true)(hj:(D.kept bU)[j]? = some kv):kv.Eb n=true:=by
 obtain⟨i,hi⟩:=D0b.1 ((show ∀l:List D,∀x,x∈D.kept l→x∈l from fun l x hx=>by
  unfold D.kept at hx;split at hx
  ·exact List.mem_of_mem_tail hx
  ·exact hx) _ _ (A0I hj))
 exact jQ h hi
variable {P:Program} {f:FuncId} {ds E E' r g bs bs':List D} {o:Out}
def dead (n:Nat):List D:=List.replicate n (.a_ [])
theorem KC {n i:Nat}{x:D}(h:(dead n)[i]? = some x):x=.a_ []:=by unfold dead at h;rw[B0o] at h;split at h <;> cases h;rfl
theorem Pf (E g:List D):Wk (E++g) (E++dead g.length):=by
 refine⟨by simp[dead],fun i x hi hx=>?_⟩
 by_cases h:i<E.length
 ·rw[A0g h] at hi ⊢;exact hi
 ·rw[A0o (by omega)] at hi;rw[KC hi] at hx;cases hx
theorem eS.RZ (h:eS P f (.st bs') ds o)(hw:Wk bs bs'):eS P f (.st bs) ds o:=by intro w S az oD vs hb hst dN fG hS iL bO;cases hb;exact h w S az bs' vs rfl (hst.RZ hw) dN fG hS iL bO
theorem bu.under (h:bu P f (.st (E++dead g.length)) ds o (.st (E'++r)))(hl:E'.length=E.length)(hr:g.length≤r.length)(hE':ET (E.length+g.length) E'=true)(ho:o.Eb (E.length+g.length)=true):bu P f (.st (E++g)) ds o (.st (E'++g)):=by
 intro w S az oD vs hb hst dN fG hS iL bO;cases hb;have hn:=hst.n;rw[A0u] at hn
 let F:Nat→Prop:=fun b=>∃(i:Nat) (x:D),E[i]? = some x∧x.live=true∧S.loc i=b
 have hp:∀(i:Nat) (x:D),E[i]? = some x→(E++g)[i]? = some x:=fun i x hi=>by rw[A0g (A0c.1 hi).1];exact hi
 have hF:∀b,F b→az b:=by
  rintro b ⟨i,x,hi,hx,rfl⟩
  exact hst.iE (hp i x hi) hx
 have X7:cI w S F (E++dead g.length):=by
  have hw:=hst.RZ (Pf E g);have hi:∀(i:Nat) (x:D),(E++dead g.length)[i]? = some x→x.live=true→F (S.loc i):=by
   intro i x hi hx
   by_cases h0:i<E.length
   ·rw[A0g h0] at hi;exact⟨i,x,hi,hx,rfl⟩
   ·rw[A0o (by omega)] at hi;rw[KC hi] at hx;cases hx
  exact⟨hw.n,fun i e sz cs hx=>⟨hi i _ hx rfl,(hw.cells i e sz cs hx).2⟩,fun b off hb=>hw.v_ b off (hF b hb),fun i bU hx=>⟨hi i _ hx rfl,(hw.maps i bU hx).2⟩,hw.inj,fun i z hx hz=>⟨hi i _ hx (D.gb hz),(hw.s7 i z hx hz).2⟩⟩
 refine(h w S F _ vs rfl X7 (fun l rec Z_=>⟨(dN l rec Z_).1,fun hf=>(dN l rec Z_).2 (hF l hf)⟩) (fun b hb=>fG b (hF b hb)) hS iL bO).mono ?_
 rintro e w' ⟨v,S',bJ,fN,eb,jc,dP,hK,hle,nZ,ql,fZ,bV,hold,RI,kP,hlt⟩
 cases jc
 let S2:Sets:={ S with mem:=S'.mem }
 have mL:∀i,i<E.length+g.length→S2.loc i=S'.loc i:=fun i hi=>(hle.loc i (by omega)).symm;have nq:∀i,i<E.length+g.length→S2.cap i=S'.cap i:=fun i hi=>(hle.cap i (by omega)).symm;have Ee:E.length+g.length≤S2.n:=by show _≤S.n;omega
 have WE:∀(b:Nat),az b→¬F b→w'.heap[b]? = w.heap[b]?∧∀off,¬S' b off:=by
  intro b hb hF1;refine⟨hold b (fG b hb) hF1,fun off hs=>?_⟩;rcases kP b off hs with k | k | k
  ·exact hst.v_ b off hb k
  ·exact hF1 k
  ·have:=fG b hb;omega
 have sj:S≤S2:=⟨hle.mem,A0m _,fun _ _=>rfl,fun _ _=>rfl,rfl,fun _ _=>rfl⟩
 let aiG:Nat→Prop:=fun b=>bJ b∨(az b∧¬F b)
 have hp':∀(i:Nat) (x:D),E'[i]? = some x→(E'++r)[i]? = some x:=fun i x hi=>by rw[A0g (A0c.1 hi).1];exact hi
 have hgF:∀(i:Nat) (x:D),E.length≤i→(E++g)[i]? = some x→x.live=true→az (S.loc i)∧¬F (S.loc i):=by
  intro i x hi hx p4;refine⟨hst.iE hx p4,?_⟩
  rintro⟨k,y,hk,hy,he⟩
  have:=hst.inj k i y x (hp k y hk) hx hy p4 he;have:=(A0c.1 hk).1;omega
 have AS:∀(i:Nat) (x:D),(E'++g)[i]? = some x→(i<E.length∧E'[i]? = some x)∨(E.length≤i∧(E++g)[i]? = some x):=by
  intro i x hi
  by_cases h0:i<E.length
  ·rw[A0g (by omega)] at hi;exact .inl ⟨h0,hi⟩
  ·rw[A0o (by omega),hl] at hi;exact .inr ⟨by omega,by rw[A0o (by omega)];exact hi⟩
 have hR:∀(v:Value) (d:D),bA w S v d→bA w' S2 v d:=fun v d hr=>hr.keep hK sj;have hR1:∀(v:Value) (d:D),d.Eb (E.length+g.length)=true→bA w' S' v d→bA w' S2 v d:=fun v d hd hr=>hr.cut (fun _ _ h=>h) Ee mL nq hd;have gA:∀i,i<E.length→S2.loc i=S'.loc i:=fun i hi=>mL i (by omega);refine⟨v,S2,aiG,E'++g,Out.Vy eb (fun _ _ h=>h) Ee mL nq ho,rfl,?_,hK,sj,nZ,ql,fZ,bV,fun b hb hf=>hold b hb fun hF1=>hf (hF b hF1),fun b hb=>?_,fun b o hs=>?_,hlt⟩
 ·refine⟨by show S.n=_;rw[A0u,hl,hn],fun i e sz cs hi=>?_,fun b off hb=>?_,fun i bU hi=>?_,fun i j x y hi hj hx hy he=>?_,fun i z hi hz=>?_⟩
  ·rcases AS i _ hi with⟨h1,h0⟩ | ⟨h0,h1⟩
   ·obtain⟨g0,vs,g1,g2,g3,g4,g5,g6⟩:=dP.cells i _ _ _ (hp' i _ h0);rw[gA i h1,nq i (by omega)];exact⟨.inl g0,vs,g1,g2,g3,g4,fun j v d hv hd=>hR1 _ _ (jQ (tR hE' h0) hd) (g5 j v d hv hd),g6⟩
   ·obtain⟨g0,vs,g1,g2,g3,g4,g5,g6⟩:=hst.cells i _ _ _ h1;obtain⟨k1,k2⟩:=hgF i _ h0 h1 rfl;obtain⟨k3,k4⟩:=WE _ k1 k2;exact⟨.inr ⟨k1,k2⟩,vs,g1.to k3,g2,g3,g4,fun j v d hv hd=>hR _ _ (g5 j v d hv hd),k4⟩
  ·rcases hb with hb | hb
   ·exact dP.v_ b off hb
   ·exact(WE b hb.1 hb.2).2 off
  ·rcases AS i _ hi with⟨h1,h0⟩ | ⟨h0,h1⟩
   ·obtain⟨g0,es,clock,g1,g2,g3,g4⟩:=dP.maps i _ (hp' i _ h0);rw[gA i h1];refine⟨.inl g0,es,clock,g1,g2,g3,fun j e kv he iM=>?_⟩;obtain⟨dk,dv,rfl,k2,k3⟩:=g4 j e kv he iM;have:=TP (tR hE' h0) iM;simp only[D.Eb,El,A0f] at this;exact⟨dk,dv,rfl,hR1 _ _ this.1 k2,hR1 _ _ this.2.1 k3⟩
   ·obtain⟨g0,es,clock,g1,g2,g3,g4⟩:=hst.maps i _ h1;obtain⟨k1,k2⟩:=hgF i _ h0 h1 rfl;obtain⟨k3,k4⟩:=WE _ k1 k2;refine⟨.inr ⟨k1,k2⟩,es,clock,k3.trans g1,g2,k4,fun j e kv he iM=>?_⟩;obtain⟨dk,dv,k1,k2,k3⟩:=g4 j e kv he iM;exact⟨dk,dv,k1,hR _ _ k2,hR _ _ k3⟩
  ·have far:∀(i j:Nat) (x y:D),i<E.length→E'[i]? = some x→x.live=true→E.length≤j→(E++g)[j]? = some y→y.live=true→S.loc i=S.loc j→False:=by
    intro i j x y hi hx p4 hj hy vB he;obtain⟨k1,k2⟩:=hgF j y hj hy vB;have hf:=dP.iE (hp' i x hx) p4;rw[←gA i hi,show S2.loc i=S.loc i from rfl,he] at hf;rcases(RI _ hf).1 with k | k
    ·exact k2 k
    ·have:=fG _ k1;omega
   rcases AS i _ hi with⟨h0,h1⟩ | ⟨h0,h1⟩ <;> rcases AS j _ hj with⟨h2,h3⟩ | ⟨h2,h3⟩
   ·rw[gA i h0,gA j h2] at he;exact dP.inj i j x y (hp' i x h1) (hp' j y h3) hx hy he
   ·exact(far i j x y h0 h1 hx h2 h3 hy he).elim
   ·exact(far j i y x h2 h3 hy h0 h1 hx he.symm).elim
   ·exact hst.inj i j x y h1 h3 hx hy he
  ·rcases AS i _ hi with⟨h0,h1⟩ | ⟨h0,h1⟩
   ·obtain⟨g0,g1,g2⟩:=dP.s7 i z (hp' i _ h1) hz;rw[gA i h0];exact⟨.inl g0,g1.cut Ee mL (by omega) (tR hE' h1),g2⟩
   ·obtain⟨g0,g1,g2⟩:=hst.s7 i z h1 hz;obtain⟨k1,k2⟩:=hgF i _ h0 h1 (D.gb hz);obtain⟨k3,k4⟩:=WE _ k1 k2;have:=(A0c.1 h1).1;rw[A0u] at this;exact⟨.inr ⟨k1,k2⟩,by rw[show S2.loc i=S.loc i from rfl,k3];exact g1.to (S':=S2) (A0m _) (fun _ _=>rfl) rfl (by omega),k4⟩
 ·rcases hb with hb | hb
  ·refine⟨?_,(RI b hb).2⟩;rcases(RI b hb).1 with k | k
   ·exact .inl (hF b k)
   ·exact .inr k
  ·exact⟨.inl hb.1,A0v (fG b hb.1) bV⟩
 ·rcases kP b o hs with k | k | k
  ·exact .inl k
  ·exact .inr (.inl (hF b k))
  ·exact .inr (.inr k)
def okU (n:Nat)(E':List D)(d:D):Option (Out×D)→Bool
 | some (.ret d',.st bs)=>D.same d' d&&D.fq (bs.take E'.length) E'&&Nat.ble n bs.length&&ET n E'&&d.Eb n
 | _=>false
theorem zK {b0:List D}{o:AI}(ho:lD P o){n m:Nat}{tb:vY}(ht:∀e,e∈tb→ay P e){d:D}(hl:E'.length=E.length)(h:okU (E.length+g.length) E' d ((kV P tb n b0 o m).W f (.st (E++dead g.length)) ds)=true):bu P f (.st (E++g)) ds (.ret d) (.st (E'++g)):=by
 unfold okU at h;split at h
 ·rename_i d' bs hx;simp only[A0f] at h;obtain⟨⟨⟨⟨h1,h2⟩,h3⟩,h4⟩,h5⟩:=h;have h6:=D.dB h2;have h7:=C0L h3;rw[←C0F E'.length bs,h6,D.cL h1] at hx;exact((nV (n:=n) ht ho m).W _ _ _ _ _ hx).under hl (by rw[B0E];omega) h4 h5
 ·cases h
def Xt (d:D):Option Out→Bool
 | some (.ret d')=>D.same d' d
 | _=>false
theorem zU {b0:List D}{o:AI}(ho:lD P o){n m:Nat}{tb:vY}(ht:∀e,e∈tb→ay P e){d:D}(h:Xt d ((kV P tb n b0 o m).R f (.st (E++dead g.length)) ds)=true):aQ P f (.st (E++g)) ds d:=by
 unfold Xt at h;split at h
 ·rename_i d' hx;rw[D.cL h] at hx;exact((nV (n:=n) ht ho m).R _ _ _ _ hx).RZ (Pf E g)
 ·cases h
end
end
end Go.Am
