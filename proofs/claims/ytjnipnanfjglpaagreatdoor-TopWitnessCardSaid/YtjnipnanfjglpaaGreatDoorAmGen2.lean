/- Texts. -/
import Derived.Test.YtjnipnanfjglpaaGreatDoorAmKilltoAmOut
set_option linter.unusedSimpArgs false
set_option linter.unusedVariables false
namespace Go.Am
section
variable {P:Program} {u:U} {env bB:List D} {Q:gu→Prop} {g h x:E} {st d:D} {ds:List D} {args:List E} {rs:List Bool} {b:Bool}
theorem aaN {as bs:List E}{d1 d2:D}{p:Bool}(hg:g.eval env=some (.v (.bool p)))(h1:aA env as=some [d1])(h2:aA env bs=some [d2])(hs:vk p d1 d2=d)(he:env++[d]=bB)(k:bp P u bB Q):bp P (.Xn g as bs u) env Q:=by subst hs;exact aew hg (fun _=>h1) (fun _=>h2) rfl he k
end
end Go.Am
