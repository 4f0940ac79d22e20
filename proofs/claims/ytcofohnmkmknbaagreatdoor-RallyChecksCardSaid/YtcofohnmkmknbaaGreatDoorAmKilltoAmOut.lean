/-
  Several texts, one behind the other.
-/
import Derived.Test.YtcofohnmkmknbaaGreatDoorAmFntoAmTabK
set_option linter.unusedSimpArgs false
set_option linter.unusedVariables false
namespace Go.Am
section
def K7 (x : D) : D := if x.gK = true then x else .bh []
def kill (bs : List D) : List D := bs.map K7

theorem UE (bs : List D) : (kill bs).length = bs.length := by simp [kill]

theorem rO {bs : List D} {i : Nat} {x : D} (h : (kill bs)[i]? = some x) (hx : x.live = true) : bs[i]? = some x := by
  unfold kill at h
  rw [List.getElem?_map] at h
  cases hb : bs[i]? with
  | none => rw [hb] at h; cases h
  | some y =>
    rw [hb] at h
    simp only [Option.map_some, Option.some.injEq, K7] at h
    split at h
    · rw [h]
    · subst h; simp [D.live] at hx

theorem dF.kill {w : World} {S : Sets} {aJ : Nat → Prop} {bs : List D} (h : dF w S aJ bs) : dF w S aJ (kill bs) where
  n := by rw [UE]; exact h.n
  cells := fun i e sz cs hi => h.cells i e sz cs (rO hi rfl)
  Cw := h.Cw
  maps := fun i dL hi => h.maps i dL (rO hi rfl)
  inj := fun i j x y hi hj hx hy => h.inj i j x y (rO hi hx) (rO hj hy) hx hy
  FJ := fun i z hi hz => h.FJ i z (rO hi (D.jQ hz)) hz

theorem eN.kill {P : Program} {f : FuncId} {h : D} {ds : List D} {o : Out} {bs : List D} (hs : eN P f h ds o (.st bs)) : eN P f h ds o (.st (kill bs)) := by
  intro w S aJ rp vs e h1 h2 h3 h4 h5 h6
  refine (hs w S aJ rp vs e h1 h2 h3 h4 h5 h6).mono ?_
  rintro e W' ⟨v, S', bV, bs', k1, k2, k3, k4⟩
  cases k2
  exact ⟨v, S', bV, Go.Am.kill bs, k1, rfl, k3.kill, k4⟩

section
variable {P : Program} {u v : U} {env bP : List D} {Q : iD → Prop} {g h x : E} {st h' d : D} {ds : List D} {args : List E} {rs : List Bool} {p q : Bool}

theorem ir (hg : g.eval env = some (.v (.bool p))) (hp : p = false) (k : wv P u (env ++ [.v (.bool false)]) Q) : bu P (.chain false g v u) env Q := by
  subst hp
  exact ⟨false, false, hg, fun e => by simp at e, k⟩

end

section
variable {bs r : List D} {e e' : TypeId} {n sz : Nat} {d0 d : D}

end
end

section
section
variable {P:Program} {u:U} {env bP:List D} {Q:iD→Prop} {g h x:E} {st h' d:D} {ds:List D} {args:List E} {rs:List Bool}

theorem iF {v:U}{p:Bool}(hg:g.eval env=some (.v (.bool p)))(hp:p=true)(k:wv P u (env++[.v (.bool true)]) Q):bu P (.chain true g v u) env Q:=by
 subst hp
 exact⟨true,true,hg,fun e=>by simp at e,k⟩

end
end

section
def Wk (bs bs' : List D) : Prop := bs'.length = bs.length ∧ ∀ (i : Nat) (x : D), bs'[i]? = some x → x.live = true → bs[i]? = some x

theorem dF.aiA {w : World} {S : Sets} {aJ : Nat → Prop} {bs bs' : List D} (h : dF w S aJ bs) (hw : Wk bs bs') : dF w S aJ bs' where
  n := h.n.trans hw.1.symm
  cells i e sz cs hi := h.cells i e sz cs (hw.2 i _ hi rfl)
  Cw := h.Cw
  maps i dL hi := h.maps i dL (hw.2 i _ hi rfl)
  inj i j x y hi hj hx hy := h.inj i j x y (hw.2 i x hi hx) (hw.2 j y hj hy) hx hy
  FJ i z hi hz := h.FJ i z (hw.2 i _ hi (D.jQ hz)) hz

theorem Wk.refl (bs : List D) : Wk bs bs := ⟨rfl, fun _ _ h _ => h⟩

theorem cm.Wk {P : Program} {f : FuncId} {cf : cz} {bX : List Bool} {u : U} {ds bs bs' : List D} {d : D} (h : cm P f .plain cf bX u) (hfit : dZ bX ds = true) (fQ : bu P u (ds ++ [.st bs]) (fun s => ∃ ia, s = .ret (.bh [d, .st ia]) ∧ Go.Am.Wk ia bs')) : bk P f (.st bs) ds d (.st bs') := by
  obtain ⟨fn, hf, rfl, hc⟩ := h
  obtain ⟨t, h1, h2⟩ := Option.bind_eq_some_iff.1 hc
  obtain ⟨hl, _⟩ := gG hfit
  have hd := pM (by simpa [← hl] using h2) fQ
  intro w S aJ rp vs hb hst dP hfl hS hvl hrd
  cases hb
  refine (tD (Qd := fun d' st => d' = d ∧ ∃ ia, st = .st ia ∧ Go.Am.Wk ia bs') (Qp := fun _ _ => False) (may := aJ) hf h1 hfit (dI (fun s hs => ?_) hd) hst dP hfl hS hvl hrd (fun _ h => .inr h) fun _ h => h).mono ?_
  · obtain ⟨ia, rfl, hw⟩ := hs
    exact ⟨rfl, ia, rfl, hw⟩
  · rintro e w' ⟨o', v, S', bV, lg, hq, gj, hl⟩
    cases o' with
    | fc x => exact hq.elim
    | ret x =>
      obtain ⟨rfl, ia, e1, hw⟩ := hq
      cases e1
      exact ⟨v, S', bV, bs', gj, rfl, hl.st.aiA hw, fun b o hs => World.cell?_of_block (a := ⟨b, o, none⟩) (hl.old b (hS b o hs) fun hf => hst.Cw b o hf hs), hl.le, hl.os, hl.tape, hl.output, hl.size, hl.old, hl.ft, hl.new, hl.lt⟩
end

section
theorem o_:∀{a b:List D},cN (a++b)=(cN a&&cN b)
 | [],b=>by simp[cN]
 | x :: a,b=>by simp[cN,o_ (a:=a),Bool.and_assoc]

def pW (bs:List D)(N:Nat)(ks:List (Nat×D)):List D:=
 (List.range N).map fun i=>if i<bs.length then bs.getD i (.bh []) else((ks.find? fun p=>p.1==i).map (·.2)).getD (.bh [])

variable {bs:List D} {N:Nat} {ks:List (Nat×D)}

theorem UF:(pW bs N ks).length=N:=by simp[pW]

theorem X6 {ia:List D}(h1:ia.length=N)(h2:∀i,i<bs.length→ia[i]? = bs[i]?)(h3:∀p,p∈ks→ia[p.1]? = some p.2):Wk ia (pW bs N ks):=by
 refine⟨by rw[UF,h1],fun i x hi hx=>?_⟩
 simp only[pW,List.getElem?_map] at hi
 cases hr:(List.range N)[i]? with
 | none=>rw[hr] at hi;cases hi
 | some k=>
  obtain⟨hk,rfl⟩:i<N∧k=i:=by
   obtain⟨h4,h5⟩:=List.getElem?_eq_some_iff.1 hr
   simp at h4 h5
   exact⟨h4,h5.symm⟩
  rw[hr] at hi
  simp only[Option.map_some,Option.some.injEq] at hi
  split at hi
  ·rename_i hb
   rw[h2 _ hb,List.getElem?_eq_getElem hb]
   rw[List.getD_eq_getElem?_getD,List.getElem?_eq_getElem hb] at hi
   simpa using hi
  ·cases hf:ks.find? (fun p=>p.1==k) with
   | none=>rw[hf] at hi;simp at hi;subst hi;cases hx
   | some p=>
    rw[hf] at hi
    simp only[Option.map_some,Option.getD_some] at hi
    have hp:=List.find?_some hf
    simp at hp
    have:=h3 p (List.mem_of_find?_eq_some hf)
    rw[hp,hi] at this
    exact this

theorem cm.keep {P:Program} {f:FuncId} {cf:cz} {bX:List Bool} {u:U} {ds bs:List D} {d:D} (h:cm P f .plain cf bX u) (hfit:dZ bX ds=true) (N:Nat) (ks:List (Nat×D))
  (fQ:bu P u (ds++[.st bs]) (fun s=>∃ia,s=.ret (.bh [d,.st ia])∧ia.length=N∧(∀i,i<bs.length→ia[i]? = bs[i]?)∧∀p,p∈ks→ia[p.1]? = some p.2)):bk P f (.st bs) ds d (.st (pW bs N ks)):=
 h.Wk hfit (cU (fun s ⟨ia,e,h1,h2,h3⟩=>⟨ia,e,X6 h1 h2 h3⟩) fQ)
end

section
variable {P : Program} {f : FuncId} {h : D} {ds : List D} {bs : List D} {b n sz : Nat} {e : TypeId} {cs es : List D}

theorem bk.Tf (hs : bk P f h ds (.sl b 0 n) (.st bs)) (hb : bs[b]? = some (.aE e sz cs)) (hcs : cs.length = n * sz) (nL : es.length = n)
    (he : ∀ (i : Nat) (x : D), es[i]? = some x → x.cells.length = sz ∧ ∀ (j : Nat) (d : D), x.cells[j]? = some d → cs[i * sz + j]? = some d) : bk P f h ds (.bq es) (.st (bs.set b (.bh []))) := by
  intro w S aJ rp vs heq hst dP hfl hS hvl hrd
  refine (hs w S aJ rp vs heq hst dP hfl hS hvl hrd).mono ?_
  rintro e' w' ⟨v, S', bV, bs', gj, heq', fp, hk, hle, hos, htl, hout, hsz, hold, za, hmem, hlt⟩
  cases heq'
  obtain ⟨rfl, hv⟩ := gj
  obtain ⟨W5, vals, hca, hvs, dG, hone, RP, oa⟩ := fp.cells b e sz cs hb
  obtain ⟨e2, fY, _⟩ := id hca
  have Em : ∀ {i : Nat} {x : D}, bs[i]? = some x → x.live = true → i ≠ b → S'.loc i ≠ S'.loc b := fun hi hx hib hl => hib (fp.inj _ _ _ _ hi hb hx rfl hl)
  let S2 : Sets := { S' with mem := fun x o => S' x o ∨ (x = S'.loc b ∧ o < cs.length) }
  have Qlj : S' ≤ S2 := ⟨fun _ _ h => .inl h, Nat.le_refl _, fun _ _ => rfl, fun _ _ => rfl, rfl, fun _ _ => rfl⟩
  have CE : bW S' w' w' := fun _ _ _ => rfl
  have mM : ∀ {i : Nat} {x : D}, (bs.set b (.bh []))[i]? = some x → x.live = true → i ≠ b ∧ bs[i]? = some x := by
    intro i x hi hx
    rw [List.getElem?_set] at hi
    split at hi
    · split at hi
      · cases hi; cases hx
      · cases hi
    · rename_i hne
      exact ⟨fun e => hne e.symm, hi⟩
  refine ⟨v, S2, fun x => bV x ∧ x ≠ S'.loc b, bs.set b (.bh []), ⟨rfl, ?_⟩, rfl, ?_, hk, Sets.le_trans hle Qlj, hos, htl, hout, hsz, hold, fun x hx => za x hx.1, fun x o hx => ?_, fun x o hx => ?_⟩
  · cases hv with
    | sl hn hl hc h0 =>
    refine .bq (size := sz) (val := fun i j => vals.getD (i * sz + j) .nilFunc) nL.symm hl hc (fun i x hx => (he i x hx).1) (fun i x j d hx hd => hone _ _ ((he i x hx).2 j d hd)) (fun i x j d hx hd => .inr ⟨rfl, ?_⟩) (fun i x j d hx hd => ?_) fun i x j d hx hd => ?_
    · rw [Nat.zero_add]
      exact (List.getElem?_eq_some_iff.1 ((he i x hx).2 j d hd)).1
    · have h1 := (List.getElem?_eq_some_iff.1 ((he i x hx).2 j d hd)).1
      have h2 : i * sz + j < vals.size := Nat.lt_of_lt_of_le h1 dG
      rw [gD fY, Nat.zero_add, Array.getElem?_eq_getElem h2, Array.getD_eq_getD_getElem?, Array.getElem?_eq_getElem h2]
      rfl
    · have h1 := (List.getElem?_eq_some_iff.1 ((he i x hx).2 j d hd)).1
      have h2 : i * sz + j < vals.size := Nat.lt_of_lt_of_le h1 dG
      exact (RP (i * sz + j) _ d (by rw [Array.getD_eq_getD_getElem?, Array.getElem?_eq_getElem h2]; rfl) ((he i x hx).2 j d hd)).keep CE Qlj
  · refine ⟨by simpa using fp.n, fun i e1 sz1 cs1 hi => ?_, fun x off hx => ?_, fun i dL hi => ?_, fun i j x y hi hj hx hy hl => ?_, fun i z hi hz => ?_⟩
    · obtain ⟨hib, hi⟩ := mM hi rfl
      obtain ⟨a1, v1, a2, a3, a4, a5, a6, a7⟩ := fp.cells i e1 sz1 cs1 hi
      have hne := Em hi rfl hib
      exact ⟨⟨a1, hne⟩, v1, a2, a3, a4, a5, fun j v d hv hd => (a6 j v d hv hd).keep CE Qlj, fun off ho => ho.elim (a7 off) fun g => hne g.1⟩
    · exact fun ho => ho.elim (fp.Cw x off hx.1) fun g => hx.2 g.1
    · obtain ⟨hib, hi⟩ := mM hi rfl
      obtain ⟨a1, es1, clock, a2, a3, a4, a5⟩ := fp.maps i dL hi
      have hne := Em hi rfl hib
      exact ⟨⟨a1, hne⟩, es1, clock, a2, a3, fun off ho => ho.elim (a4 off) fun g => hne g.1, fun j e1 kv h1 h2 => by
        obtain ⟨dk, dv, q1, q2, q3⟩ := a5 j e1 kv h1 h2
        exact ⟨dk, dv, q1, q2.keep CE Qlj, q3.keep CE Qlj⟩⟩
    · exact fp.inj i j x y (mM hi hx).2 (mM hj hy).2 hx hy hl
    · obtain ⟨hib, hi⟩ := mM hi (D.jQ hz)
      obtain ⟨a1, a2, a4⟩ := fp.FJ i z hi hz
      have hne := Em hi (D.jQ hz) hib
      exact ⟨⟨a1, hne⟩, a2, fun off ho => ho.elim (a4 off) fun g => hne g.1⟩
  · rcases hx with hx | ⟨rfl, _⟩
    · exact hmem x o hx
    · rcases (za _ W5).1 with g | g
      · exact .inr (.inl g)
      · exact .inr (.inr g)
  · rcases hx with hx | ⟨rfl, _⟩
    · exact hlt x o hx
    · exact (za _ W5).2
end

section
variable {P : Program} {f : FuncId} {h : D} {ds : List D} {bs : List D} {b n sz : Nat} {e : TypeId} {cs es : List D} {x2 : Value}
end

section
theorem Au:∀(l:List D) (k:Nat) (x:D),cN l=true→x.gK=true→cN (l.set k x)=true
 | [],_,_,_,_=>rfl
 | a :: r,0,x,h,hx=>by
  simp only[cN,Bool.and_eq_true] at h
  simp[cN,h.2,hx]
 | a :: r,k+1,x,h,hx=>by
  simp only[cN,Bool.and_eq_true] at h
  simp[cN,h.1,Au r k x h.2 hx]

structure SQ {α:Type}(b1:List D)(o:Nat)(ty e:TypeId)(sz:Nat)(enc:α→List D)(st:List D)(xs:List α):Prop where
 len:b1.length≤st.length
 old:∀i,i<b1.length→i≠o→st[i]? = b1[i]?
 ov:∃s,st[o]? = some (.aE ty 1 [s])∧o5 st e sz enc s xs∧∀b,s.SX=some b→b1.length≤b
 ny:cN st=true

section
variable {α:Type} {b1:List D} {o:Nat} {ty e:TypeId} {sz:Nat} {enc:α→List D} {st:List D} {xs:List α}

theorem SQ.push (h:SQ b1 o ty e sz enc st xs)(ho:o<b1.length){x:D}(hx:x.gK=true):SQ b1 o ty e sz enc (st++[x]) xs where
 len:=by have:=h.len;simp;omega
 old i hi hne:=by rw[List.getElem?_append_left (Nat.lt_of_lt_of_le hi h.len)];exact h.old i hi hne
 ov:=by
  obtain⟨s,h1,h2,h3⟩:=h.ov
  exact⟨s,by rw[List.getElem?_append_left (Nat.lt_of_lt_of_le ho h.len)];exact h1,h2.keep fun i hi=>List.getElem?_append_left (h2.lt hi),h3⟩
 ny:=by rw[o_,h.ny];simp[cN,hx]

theorem SQ.app (h:SQ b1 o ty e sz enc st xs)(ho:o<b1.length){bytes:Nat}{x:α}{y:D}(hsz:∀x,(enc x).length=sz)(hy:y.cells=enc x)(hone:(enc x).all (·.one)=true)(hn:cN (enc x)=true)(hb:(xs.length+1)*bytes≤140737488355328)(hm:xs.length+1≤maxLen) :
  ∃s ia Qhx,st[o]? = some (.aE ty 1 [s])∧D.fU e sz bytes (.st st) s (.bq [y])=some (.st ia)∧D.apps (.st st) s (.bq [y])=some (.sl st.length 0 (xs.length+1))∧D.gQ 1 (.st ia) (.loc o 0) (.sl st.length 0 (xs.length+1))=some (.st Qhx) ∧
   SQ b1 o ty e sz enc Qhx (xs++[x])∧st.length≤Qhx.length∧∀(k:Nat) (e':TypeId) (sz':Nat) (cs':List D),st[k]? = some (.aE e' sz' cs')→e'≠e→k≠o→Qhx[k]? = some (.aE e' sz' cs'):=by
 obtain⟨s,h1,h2,h3⟩:=h.ov
 obtain⟨ia,a1,a2,a3,a4,a5⟩:=h2.append (bytes:=bytes) hsz hy hone hb hm
 have Qfy:o<st.length:=Nat.lt_of_lt_of_le ho h.len
 have hno:cN ia=true:=by
  have hyn:cN (Qrj [y])=true:=by simpa[Qrj,hy] using hn
  rcases h2 with⟨rfl,rfl⟩ | ⟨i,rfl,hi⟩
  ·simp only[D.fU,D.JN,List.cons_ne_nil,if_false] at a1
   split at a1
   ·cases a1
    rw[o_,h.ny]
    simp[cN,D.gK,hyn]
   ·cases a1
  ·simp only[D.fU,D.JN,List.cons_ne_nil,if_false] at a1
   simp only[D.gF,hi,Option.bind_some] at a1
   split at a1
   ·cases a1
    have hin:=gm h.ny hi
    rw[o_,Au st i (.bh []) h.ny rfl]
    simp only[D.gK] at hin
    simp[cN,D.gK,o_,hin,hyn]
   ·cases a1
 have WZ:s.SX≠some o:=fun hs=>by have:=h3 o hs;omega
 have MA:ia[o]? = some (.aE ty 1 [s]):=by rw[a5 o Qfy WZ,h1]
 refine⟨s,ia,_,h1,a1,a2,mr MA (by simp) rfl,⟨?_,fun i hi hne=>?_,⟨.sl st.length 0 (xs.length+1),?_,.inr ⟨st.length,by simp,?_⟩,fun b hb'=>?_⟩,?_⟩,?_,fun k e' sz' cs' hk he hne=>?_⟩
 ·rw[List.length_set,a4];have:=h.len;omega
 ·rw[List.getElem?_set_ne (Ne.symm hne),a5 i (Nat.lt_of_lt_of_le hi h.len) (fun hs=>by have:=h3 i hs;omega)]
  exact h.old i hi hne
 ·rw[List.getElem?_set_self (by rw[a4];omega)]
  rfl
 ·rw[List.getElem?_set_ne (by omega)]
  exact a3
 ·cases hb'
  exact h.len
 ·exact Au _ _ _ hno (by simp[D.gK,cN])
 ·rw[List.length_set,a4];omega
 ·rw[List.getElem?_set_ne (Ne.symm hne),a5 k (List.getElem?_eq_some_iff.1 hk).1 (fun hs=>?_)]
  ·exact hk
  ·have:=h2.aE hs
   rw[hk] at this
   cases this
   exact he rfl

end
end
end Go.Am
