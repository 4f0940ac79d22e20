/- Texts. -/
import Derived.Test.YtjnipnanfjglpaaGreatDoorAmSortPtoAmClone
import Derived.Shelf.SlSortCmp.WholeK
set_option linter.unusedSimpArgs false
set_option linter.unusedVariables false
namespace Go.Am.Rm
open Go.Shelf Go.RowKit Go.Lib Go.Sort Go.Proofs
variable {P:Program} {α:Type} [Inhabited α]
theorem Hy {w w':World}(h:Blw w.heap.size w w'):∃q os',w'=grow (w.drewN q) os':=by
 refine⟨w'.drawn-w.drawn,w'.heap.extract w.heap.size w'.heap.size,?_⟩;have hd:=h.dr;have oc:w'.heap=w.heap++w'.heap.extract w.heap.size w'.heap.size:=by
  refine Array.ext_getElem? fun k=>?_;rw[Array.getElem?_append];split
  ·rename_i hk;exact h.block k hk
  ·rename_i hk;rw[Array.getElem?_extract];have hs:=h.size
   by_cases Ef:k<w'.heap.size
   ·rw[A0z (by omega)];congr 1;omega
   ·rw[A0B (by omega)];exact Array.getElem?_eq_none (by omega)
 obtain⟨h1,h2,h3,h4,h5⟩:=w';have e1:=h.os;have e2:=h.tape;have e3:=h.output;simp only at e1 e2 e3 oc hd;subst e1 e2 e3;unfold grow World.drewN;simp only[World.mk.injEq,E0a,E0m];exact⟨oc,by omega⟩
structure yf (enc:α→List Value)(k:Nat):Prop where
 len:∀x,(enc x).length=k
 pl:∀x v,v∈enc x→plain v=true
def oz (enc:α→List Value)(x:α):List D:=(enc x).map .v
variable {enc:α→List Value} {k:Nat}
omit [Inhabited α] in
theorem om (h:yf enc k):∀l:List α,(l.flatMap enc).length=l.length*k
 | []=>by simp
 | x :: r=>by rw[B0r,A0u,om h r,h.len,B0a,B0w,C0S,D0J]
omit [Inhabited α] in
theorem uh (l:List α):l.flatMap (oz enc)=(l.flatMap enc).map .v:=by
 induction l with
 | nil=>rfl
 | cons x r ih=>rw[B0r,B0r,C0z,ih];rfl
theorem flat_get (h:yf enc k):∀(l:List α) (t:Nat),t<l.length*k→(l.flatMap enc)[t]? = (enc l[t / k]!)[t % k]?
 | [],t,ht=>by simp at ht
 | x :: r,t,ht=>by
  have hk:0<k:=by
   rcases D0Y k with e | e
   ·subst e;simp at ht
   ·exact e
  rw[B0r,B0J,h.len];split
  ·rename_i hlt;rw[D0n hlt,C0C hlt];rfl
  ·rename_i hge;have hge:k≤t:=by omega
   rw[flat_get h r (t-k) (by rw[B0a,B0w,C0S] at ht;omega),Nat.div_eq_sub_div hk hge,Nat.mod_eq_sub_mod hge];rfl
theorem Kg (h:yf enc k)(d:Array α):flatK enc k d=(d.toList.flatMap enc).toArray:=by
 refine ext_get! (by simp[om h]) fun t ht=>?_;have zf:t<d.size*k:=by simpa using ht
 rw[get_flatK _ _ _ _ zf];have hg:=flat_get h d.toList t (by simpa using zf);have hl:t<(d.toList.flatMap enc).length:=by rw[om h];simpa using zf
 rw[A0e hl] at hg;have e1:(d.toList)[t / k]! = d[t / k]!:=by cases d;exact D0d.symm
 rw[e1] at hg;obtain⟨hm,hv⟩:=A0c.1 hg.symm;rw[C0I (enc d[t / k]!) _ hm,hv,D0d,C0I (d.toList.flatMap enc) t hl]
omit [Inhabited α] in
theorem Vf (h:yf enc k)(l:List α)(j:Nat)(d:D)(hd:(l.flatMap (oz enc))[j]? = some d):d.one=true:=by rw[uh,A0w] at hd;obtain⟨v,_,rfl⟩:=A0a.1 hd;rfl
omit [Inhabited α] in
theorem YG (h:yf enc k){w:World}{S:Sets}(l:List α)(j:Nat)(v:Value)(d:D)(hv:(l.flatMap enc)[j]? = some v)(hd:(l.flatMap (oz enc))[j]? = some d):bA w S v d:=by rw[uh,A0w,hv] at hd;cases hd;obtain⟨x,_,hx⟩:=D0K.1 (A0I hv);exact .v (h.pl x v hx)
theorem wA (h:yf enc k){w:World}{S:Sets}{az:Nat→Prop}{bs:List D}{b:Nat}{e:TypeId}{xs:List α}(hst:cI w S az bs)(hS:∀b o,S b o→b<w.heap.size)(fG:∀b,az b→b<w.heap.size)(hb:bs[b]? = some (.blk e k (xs.flatMap (oz enc))))(m:Nat)(os:Array Obj)(d:Array α)(hd:d.size=xs.length) :
  cI (sortWorldK enc k w (S.loc b) 0 m d os) S az (bs.set b (.blk e k (d.toList.flatMap (oz enc))))∧bM S w (sortWorldK enc k w (S.loc b) 0 m d os)∧(sortWorldK enc k w (S.loc b) 0 m d os).os=w.os∧TL (sortWorldK enc k w (S.loc b) 0 m d os) w∧(sortWorldK enc k w (S.loc b) 0 m d os).output=w.output∧w.heap.size≤(sortWorldK enc k w (S.loc b) 0 m d os).heap.size∧(∀k',k'<w.heap.size→¬az k'→(sortWorldK enc k w (S.loc b) 0 m d os).heap[k']? = w.heap[k']?):=
 BZ (zs:=d.toList.flatMap enc) hst hS fG hb (by rw[uh];simp) (by rw[om h,uh,B0u,om h];simp[hd]) (Vf h _) (YG h _) (by unfold sortWorldK putRowK;rw[Kg h])
theorem V9 {w:World}{S:Sets}{u v:Value}{du dv:D}{cb:Array Value}{cr:List D}(hu:bA w S u du)(hv:bA w S v dv)(hc:∀(i:Nat) (v:Value) (d:D),cb[i]? = some v→cr[i]? = some d→bA w S v d) :
  ∀(i:Nat) (x:Value) (d:D),(#[u,v]++cb)[i]? = some x→([du,dv]++cr)[i]? = some d→bA w S x d:=by
 intro i x d hx hd;rw[Array.getElem?_append] at hx
 match i with
 | 0=>simp at hx hd;subst hx hd;exact hu
 | 1=>simp at hx hd;subst hx hd;exact hv
 | i+2=>
  simp at hx hd;exact hc i x d hx hd
theorem VQ {g:FuncId} {cf:α→α→Int} {cr:List D} {cb:Array Value} (he:yf enc k) (QJ:∀(st:List D) (x y:α),aQ P g (.st st) ([.agg (oz enc x),.agg (oz enc y)]++cr) (.v (.int .i64 (cf x y))))
  {w:World} {S:Sets} {az:Nat→Prop} {bs:List D} {b:Nat} {e:TypeId} {xs:List α} (hst:cI w S az bs) (dN:pZ w S az) (hS:∀b o,S b o→b<w.heap.size) (fG:∀b,az b→b<w.heap.size) (hb:bs[b]? = some (.blk e k (xs.flatMap (oz enc))))
  (dU:cb.size=cr.length) (QG:∀(i:Nat) (v:Value) (d:D),cb[i]? = some v→cr[i]? = some d→bA w S v d):CmpLays P g cb enc k cf (S.loc b) 0 xs.toArray.size w:=by
 intro m os dk RJ x y;obtain⟨k1,k2,k3,k4,k5,k6,k7⟩:=wA he hst hS fG hb m os dk (by simpa using RJ);generalize sortWorldK enc k w (S.loc b) 0 m dk os=W at k1 k2 k3 k4 k5 k6 k7;have qp:∀x:α,bA W S (.agg (enc x).toArray) (.agg (oz enc x)):=fun x=>
  .agg (by simp[oz]) (fun i d hd=>by
   simp only[oz,A0w,A0a] at hd;obtain⟨_,_,rfl⟩:=hd;rfl) fun i v d hv hd=>by
   simp only[oz,A0w,A0a] at hd;obtain⟨v',gQ,rfl⟩:=hd;rw[A0R,gQ] at hv;cases hv;exact .v (he.pl x _ (A0I gQ))
 have h1:pZ W S az:=fun l rec iH=>by obtain⟨a1,a2⟩:=dN l rec iH;exact⟨(k7 l (A0l.1 a1).1 a2).trans a1,a2⟩
 have h2:(#[Value.agg (enc x).toArray,.agg (enc y).toArray]++cb).size=([D.agg (oz enc x),.agg (oz enc y)]++cr).length:=by simp only[D0B,B0I,A0u,B0a,B0C,dU]
 have h3:=V9 (qp x) (qp y) (fun i v d h1 h2=>(QG i v d h1 h2).keep k2 (Sets.le_refl _));have gz:=QJ (bs.set b (.blk e k (dk.toList.flatMap (oz enc)))) x y W S az (bs.set b (.blk e k (dk.toList.flatMap (oz enc)))) (#[.agg (enc x).toArray,.agg (enc y).toArray]++cb) rfl k1 h1 (fun b' fI=>A0v (fG b' fI) k6) (fun b' o ho=>A0v (hS b' o ho) k6) h2 h3;clear k1 h1 h2 h3 QJ;refine Calls.mono gz ?_
 rintro e' Wq ⟨v,S',⟨rfl,mJ⟩,Ys,_⟩
 obtain⟨rfl,_⟩:=mJ.NM;exact⟨rfl,Hy Ys⟩
theorem PF {f g:FuncId} {cf:α→α→Int} {cr:List D} {srt:Array α→Array α} (he:yf enc k)
  (h:∀(cb:Array Value) (blk off cap:Nat) (d:Array α) (w:World),CmpLays P g cb enc k cf blk off d.size w→HoldsK enc k w blk off d→blk<w.heap.size→d.size<4611686018427387904→Calls P f #[.slice (some ⟨blk,off,none⟩) d.size cap,.func (.func g) #[] cb] w fun e w'=>e=.returned (.tuple #[])∧∃n os,w'=sortWorldK enc k w blk off n (srt d) os)
  (anL:∀d,(srt d).size=d.size) (QJ:∀(st:List D) (x y:α),aQ P g (.st st) ([.agg (oz enc x),.agg (oz enc y)]++cr) (.v (.int .i64 (cf x y))))
  {bs:List D} {b:Nat} {e:TypeId} {xs:List α} (hb:bs[b]? = some (.blk e k (xs.flatMap (oz enc)))) (hL:xs.length<4611686018427387904) :
  aZ P f (.st bs) [.sl b 0 xs.length,.fn g [] cr] (.a_ []) (.st (bs.set b (.blk e k ((srt xs.toArray).toList.flatMap (oz enc))))):=by
 intro w S az oD vs heq hst dN fG hS iL bO;cases heq;obtain⟨v,u,rfl⟩:∃v u,vs=#[v,u]:=by
  match vs,iL with
  | ⟨[v,u]⟩,_=>exact⟨v,u,rfl⟩
 have hv:=bO 0 v (.sl b 0 xs.length) rfl rfl;have hu:=bO 1 u (.fn g [] cr) rfl rfl;cases hv with
 | sl hn hl hc h0=>
 rename_i c;cases hu with
 | @fn _ us cb _ _ Hj dU OM QG=>
 have hus:us=#[]:=by simpa using Hj
 subst hus;obtain⟨hf,us,⟨e0,hh,_⟩,bV,hlen,cV,hr,jP⟩:=hst.cells b _ _ _ hb;have aor:(xs.flatMap (oz enc)).length=xs.length*k:=by rw[uh,B0u,om he]
 have UM:HoldsK enc k w (S.loc b) 0 xs.toArray:=by
  intro j hj;rw[Kg he] at hj ⊢;have EE:j<(xs.flatMap enc).length:=by simpa using hj
  have hjv:j<us.size:=by rw[aor] at hlen;rw[om he] at EE;omega
  have hd:(xs.flatMap (oz enc))[j]? = some (.v (xs.flatMap enc)[j]):=by rw[uh];simp[EE]
  have:=hr j us[j] _ (A0p hjv) hd;obtain⟨e1,_⟩:=this.NM;refine⟨?_,by simp[World.frozen?,hh]⟩;rw[A0Q,eM hh,A0p hjv,e1,D0d,C0I (xs.flatMap enc) j EE];rfl
 have ahT:=VQ (cb:=cb) he QJ hst dN hS fG hb dU QG;refine(h cb (S.loc b) 0 c xs.toArray w ahT UM (fG _ hf) (by simpa using hL)).mono ?_
 rintro _ w' ⟨rfl,n,os,rfl⟩
 obtain⟨k1,k2,k3,k4,k5,k6,k7⟩:=wA he hst hS fG hb n os (srt xs.toArray) (by rw[anL];simp);exact⟨.tuple #[],S,az,_,⟨rfl,.a_ rfl fun i v d hv=>by simp at hv⟩,rfl,k1,k2,Sets.le_refl _,k3,k4,k5,k6,k7,fun k' hk=>⟨.inl hk,A0v (fG k' hk) k6⟩,fun k' o hk=>.inl hk,fun k' o hk=>A0v (hS k' o hk) k6⟩
end Go.Am.Rm
