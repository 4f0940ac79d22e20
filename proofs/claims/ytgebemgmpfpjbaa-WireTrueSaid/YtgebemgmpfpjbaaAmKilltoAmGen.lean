/-
  Several texts, one behind the other.
-/
import Derived.Test.YtgebemgmpfpjbaaAmOpentoAmSt2
set_option linter.unusedSimpArgs false
set_option linter.unusedVariables false
/-
 Blocks of the store that may be forgotten;loops over a function;questions that are not asked.
-/
namespace Go.Am

def killD (x:D):D:=if x.noyl=true then x else .tup []
def kill (bs:List D):List D:=bs.map killD

theorem kill_len (bs:List D):(kill bs).length=bs.length:=by simp[kill]

theorem kill_live {bs:List D}{i:Nat}{x:D}(h:(kill bs)[i]? = some x)(hx:x.live=true):bs[i]? = some x:=by
 unfold kill at h
 rw[List.getElem?_map] at h
 cases hb:bs[i]? with
 | none=>rw[hb] at h;cases h
 | some y=>
  rw[hb] at h
  simp only[Option.map_some,Option.some.injEq,killD] at h
  split at h
  ·rw[h]
  ·subst h;simp[D.live] at hx

theorem StOk.kill {w:World}{S:Sets}{foot:Nat→Prop}{bs:List D}(h:StOk w S foot bs):StOk w S foot (kill bs) where
 n:=by rw[kill_len];exact h.n
 cells:=fun i e sz cs hi=>h.cells i e sz cs (kill_live hi rfl)
 nos:=h.nos
 maps:=fun i kvs hi=>h.maps i kvs (kill_live hi rfl)
 inj:=fun i j x y hi hj hx hy=>h.inj i j x y (kill_live hi hx) (kill_live hj hy) hx hy
 its:=fun i m n seen hi=>h.its i m n seen (kill_live hi rfl)

theorem FSpecWO.kill {P:Program}{f:FuncId}{h:D}{ds:List D}{o:Out}{bs:List D}(hs:FSpecWO P f h ds o (.st bs)):FSpecWO P f h ds o (.st (kill bs)):=by
 intro w S foot bs0 vs e h1 h2 h3 h4 h5 h6
 refine(hs w S foot bs0 vs e h1 h2 h3 h4 h5 h6).mono ?_
 rintro e W' ⟨v,S',foot',bs',k1,k2,k3,k4⟩
 cases k2
 exact⟨v,S',foot',Go.Am.kill bs,k1,rfl,k3.kill,k4⟩

section
variable {P:Program} {u v:U} {env env2:List D} {Q:Sig→Prop} {g h x:E} {st h' d:D} {ds:List D} {args:List E} {rs:List Bool} {p q:Bool}

theorem u_andF (hg:g.eval env=some (.v (.bool p)))(hp:p=false)(k:NrmD P u (env++[.v (.bool false)]) Q):denU P (.chain false g v u) env Q:=by
 subst hp
 exact⟨false,false,hg,fun e=>by simp at e,k⟩

theorem u_rfor {body rest:U}{f:FuncId}{us cs cds:List D}{caps:List E}{sl:List Nat}{n l:Nat}(d:D)(st':D)(hx:x.eval env=some (.fn f us cs))(hc:callable P f=true)(hh:h.eval env=some st)(hcd:evalAll env caps=some cds)(hn:noyls cds=true)(hn':st'.noyl=true)(hb:∀(m:Nat) (rec:Loop),(∀st1 ds st2,st1.noyl=true→noyls ds=true→ds.length=n→denU P body (env++[st1]++ds) (fun s=>s=.jump l [st2])→YSpec P (.yl m rec sl cds) st1 ds st2)→FSpecW P f st (us++[.yl m rec sl cds]++cs) d st')(he:env++[st']=env2)(k:denU P rest env2 Q):denU P (.rfor x h sl caps n l body rest) env Q:=by
 subst he
 exact⟨f,us,cs,st,cds,d,st',hx,hc,hh,hcd,hn,hn',hb,k⟩

end

section
variable {bs r:List D} {e e':TypeId} {n sz:Nat} {d0 d:D}

theorem sto_all {cs0:List D}(hl:cs0.length=n)(hd:d.cells.length=n)(ho:d.cells.all (·.one)=true):D.sto n (.st (bs++[.blk e sz cs0])) (.loc bs.length 0) d=some (.st (bs++[.blk e sz d.cells])):=by
 have h1:(bs++[D.blk e sz cs0])[bs.length]? = some (.blk e sz cs0):=by simp
 simp only[D.sto,D.cellsAt,h1,Option.bind_some,hd,ho,Nat.zero_add,hl,Nat.le_refl,and_self,if_true,List.take_zero,List.nil_append]
 rw[List.drop_eq_nil_of_le (by omega),List.append_nil]
 simp

end
end Go.Am

/-
 Calls by a value that may not happen.
-/
namespace Go.Am
section
variable {P:Program} {u:U} {env env2:List D} {Q:Sig→Prop} {g h x:E} {st h' d:D} {ds:List D} {args:List E} {rs:List Bool}

theorem u_gen0 {xd:D}(hh:h.eval env=some st)(hx:x.eval env=some xd)(ha:evalAll env args=some ds)(hc:CallV P xd st ds d h')(hr:d.fits rs=true)(he:env++[.tup [d,h']]=env2)(k:denU P u env2 Q):denU P (.gen (.wcallv [] x h args rs) u) env Q:=by
 subst he
 exact⟨.tup [d,h'],⟨fun p hp=>by simp at hp,st,d,h',hh,fun _=>⟨xd,ds,hx,ha,hc,hr⟩,fun hn=>absurd (fun p hp=>by simp at hp) hn,⟨_,by simp[E.eval],rfl⟩⟩,k⟩

theorem u_genT {b:Bool}{xd:D}(hg:g.eval env=some (.v (.bool b)))(hb:b=true)(hh:h.eval env=some st)(hx:x.eval env=some xd)(ha:evalAll env args=some ds)(hc:CallV P xd st ds d h')(hr:d.fits rs=true)(he:env++[.tup [d,h']]=env2)(k:denU P u env2 Q):denU P (.gen (.wcallv [(g,true)] x h args rs) u) env Q:=by
 subst he
 subst hb
 refine⟨.tup [d,h'],⟨?_,st,d,h',hh,fun _=>⟨xd,ds,hx,ha,hc,hr⟩,fun hn=>absurd ?_ hn,?_⟩,k⟩
 ·intro p hp;simp at hp;subst hp;exact⟨_,hg⟩
 ·intro p hp;simp at hp;subst hp;exact hg
 ·exact⟨_,by simp[E.eval],rfl⟩

theorem u_genTN {b:Bool}(d:D)(hg:g.eval env=some (.v (.bool b)))(hb:b=false)(hh:h.eval env=some st)(he:env++[.tup [d,st]]=env2)(k:denU P u env2 Q):denU P (.gen (.wcallv [(g,true)] x h args rs) u) env Q:=by
 subst he
 subst hb
 refine⟨.tup [d,st],⟨?_,st,d,st,hh,fun ha=>?_,fun _=>rfl,?_⟩,k⟩
 ·intro p hp;simp at hp;subst hp;exact⟨_,hg⟩
 ·have:=ha (g,true) (by simp)
  rw[hg] at this
  simp[D.bool] at this
 ·exact⟨_,by simp[E.eval],rfl⟩

theorem u_orT {v:U}{p:Bool}(hg:g.eval env=some (.v (.bool p)))(hp:p=true)(k:NrmD P u (env++[.v (.bool true)]) Q):denU P (.chain true g v u) env Q:=by
 subst hp
 exact⟨true,true,hg,fun e=>by simp at e,k⟩

theorem u_genW {f:FuncId}{b w:Bool}(hg:g.eval env=some (.v (.bool b)))(hb:b=w)(hh:h.eval env=some st)(ha:evalAll env args=some ds)(hc:FSpecW P f st ds d h')(hr:d.fits rs=true)(he:env++[.tup [d,h']]=env2)(k:denU P u env2 Q):denU P (.gen (.wcall [(g,w)] f h args rs) u) env Q:=by
 subst he
 subst hb
 refine⟨.tup [d,h'],⟨?_,st,d,h',hh,fun _=>⟨ds,ha,hc,hr⟩,fun hn=>absurd ?_ hn,?_⟩,k⟩
 ·intro p hp;simp at hp;subst hp;exact⟨_,hg⟩
 ·intro p hp;simp at hp;subst hp;exact hg
 ·exact⟨_,by simp[E.eval],rfl⟩

theorem evN_nil:∃cds,evalAll env []=some cds∧noyls cds=true:=⟨[],rfl,rfl⟩
theorem evN_cons {r:List E}(hx:x.eval env=some d)(hd:d.noyl=true)(hr:∃cds,evalAll env r=some cds∧noyls cds=true):∃cds,evalAll env (x :: r)=some cds∧noyls cds=true:=by
 obtain⟨cds,h1,h2⟩:=hr
 exact⟨d :: cds,by simp[evalAll,hx,h1],by simp[noyls,hd,h2]⟩

theorem u_rfor2 {body rest:U}{f:FuncId}{us cs:List D}{caps:List E}{sl:List Nat}{n l:Nat}(d:D)(st':D)(hx:x.eval env=some (.fn f us cs))(hc:callable P f=true)(hh:h.eval env=some st)(hcd:∃cds,evalAll env caps=some cds∧noyls cds=true)(hn':st'.noyl=true)(hb:∀(cds:List D) (m:Nat) (rec:Loop),(∀st1 ds st2,st1.noyl=true→noyls ds=true→ds.length=n→denU P body (env++[st1]++ds) (fun s=>s=.jump l [st2])→YSpec P (.yl m rec sl cds) st1 ds st2)→FSpecW P f st (us++[.yl m rec sl cds]++cs) d st')(he:env++[st']=env2)(k:denU P rest env2 Q):denU P (.rfor x h sl caps n l body rest) env Q:=by
 obtain⟨cds,h1,h2⟩:=hcd
 exact u_rfor d st' hx hc hh h1 h2 hn' (hb cds) he k

end

end Go.Am
