/-
 Readers' calls that may not happen;what is reckoned under a condition.
-/
import Derived.Test.YtjnipnanfjglpaaGreatDoorAmKilltoAmOut
set_option linter.unusedSimpArgs false
set_option linter.unusedVariables false
namespace Go.Am
section
variable {P:Program} {u:U} {env aW:List D} {Q:eV→Prop} {g h x:E} {st d:D} {ds:List D} {args:List E} {rs:List Bool} {b:Bool}

theorem Lu {f:FuncId}(hg:g.eval env=some (.v (.bool b)))(hb:b=true)(hh:h.eval env=some st)(ha:aq env args=some ds)(hc:aU P f st ds d)(hr:d.fits rs=true)(he:env++[d]=aW)(k:aJ P u aW Q):aJ P (.gen (.call [(g,true)] f h args rs) u) env Q:=by
 subst he
 subst hb
 refine⟨d,⟨?_,d,fun _=>⟨st,ds,hh,ha,hc,hr⟩,?_⟩,k⟩
 ·intro p hp;simp at hp;subst hp;exact⟨_,hg⟩
 ·exact⟨_,by simp[E.eval],rfl⟩

theorem Ip {f:FuncId}(d:D)(hg:g.eval env=some (.v (.bool b)))(hb:b=false)(he:env++[d]=aW)(k:aJ P u aW Q):aJ P (.gen (.call [(g,true)] f h args rs) u) env Q:=by
 subst he
 subst hb
 refine⟨d,⟨?_,d,fun ha=>?_,?_⟩,k⟩
 ·intro p hp;simp at hp;subst hp;exact⟨_,hg⟩
 ·have:=ha (g,true) (by simp)
  rw[hg] at this
  simp[D.bool] at this
 ·exact⟨_,by simp[E.eval],rfl⟩

theorem Lr {as bs:List E}{d1 d2:D}{p:Bool}(hg:g.eval env=some (.v (.bool p)))(h1:aq env as=some [d1])(h2:aq env bs=some [d2])(hs:mT p d1 d2=d)(he:env++[d]=aW)(k:aJ P u aW Q):aJ P (.Pg g as bs u) env Q:=by
 subst hs
 exact Ds hg (fun _=>h1) (fun _=>h2) rfl he k

theorem lE (hg:g.eval env=some (.v (.bool b)))(hb:b=true)(hx:x.eval env=some d):(E.guard g true x).eval env=some d:=by subst hb;simp[E.eval,hg,hx]
theorem Bw (hg:g.eval env=some (.v (.bool b)))(hb:b=false):(E.guard g true x).eval env=some D.undef:=by subst hb;simp[E.eval,hg]
end
end Go.Am
