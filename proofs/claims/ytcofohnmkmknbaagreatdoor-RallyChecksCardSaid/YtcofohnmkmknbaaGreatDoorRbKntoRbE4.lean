/-
  Several texts, one behind the other.
-/
import Derived.Test.YtcofohnmkmknbaaGreatDoorAmFntoAmTabK
import Derived.Test.YtcofohnmkmknbaaGreatDoorRbKnW0toRbKnW3
import Derived.Test.YtcofohnmkmknbaaGreatDoorRbKnW4
import Derived.Test.YtcofohnmkmknbaaGreatDoorRbCA
import Derived.Test.YtcofohnmkmknbaaGreatDoorRbCB
import Derived.Test.YtcofohnmkmknbaaGreatDoorRbCktoRbD
import Derived.Test.YtcofohnmkmknbaaGreatDoorRbTab1toRbTab6
import Derived.Test.YtcofohnmkmknbaaGreatDoorScG3toRbE3
set_option linter.unusedSimpArgs false
set_option linter.unusedVariables false
namespace Go.Am.Rb
section
open Go.Proofs
set_option maxRecDepth 100000
def fKn : Fact := ⟨5, [], b true⟩
noncomputable def asz : Pc := [Qny, e11, e14, e28, e16, e61, e49, e25, e37, e38, e39, e41, e62, e63, e64, e65, e77, e78, e15, e18, e19, azu, azt, e31, e36, e17, e6, e5]
theorem awL:∀ e, e ∈ asz → aV Tryz.prog e:=o1' Qij<|o1' aHC<|o1' ayr<|o1' axa<|o1' ayq<|o1' ayc<|o1' aym<|o1' anS<|o1' ate<|o1' avc<|o1' WQ<|o1' aq0<|o1' ayb<|o1' aA8<|o1' ajF<|o1' ajE<|o1' ajs<|o1' ajr<|o1' alI<|o1' ajV<|o1' ajU<|o1' aw_<|o1' aw9<|o1' ad5<|o1' apu<|o1' ajW<|o1' ok6<|o1' ok5<|o0'
theorem amf : (fKn : Fact).ok Tryz.prog b0 := nM (l := []) trivial ((EI (b0 := b0) (l := [fCk, fCA, fCB, fD9, amE, amC, amx, amw, amr, amm, ami, amg]) ⟨Qoj, ah1, ahJ, ahH, Qnv, Qnw, Qnk, z2, Qnj, zE, Qnx, Qnz, trivial⟩).or (ak6 (l := [aqa, ap_, ap9, ap8, ap7]) ⟨arv, art, arp, arj, arh, trivial⟩)) fKn 200 40 (by kernel_rfl) cj (by kernel_rfl) awL (by kernel_rfl)
end

section
open Go.Proofs Go.Am.Sc
set_option maxRecDepth 100000
set_option maxHeartbeats 4000000

attribute [local irreducible] Qrk fV

variable {bs:List D}

def small (s:Setup):Bool:=decide ((s.p.items.length:Int)≤10)&&decide ((s.p.jumps.length:Int)≤20)&&decide ((s.p.points.length:Int)≤80)&&decide ((s.p.extra.length:Int)≤80)&&decide ((s.f.least.length:Int)≤40)&&decide ((s.s.length:Int)≤60)&&decide ((s.c.Qtk.length:Int)≤20)&&(decide (s.f.Qtq≤6)||decide (s.f.Qtq > 200))

theorem c4 (s:Setup):aP Tryz.prog 4 (.st bs) [s.d] (B (small s)):=by
 refine ku4.R rfl rfl ?_
 unfold u4
 simp only[aC,aG,List.cons_append,List.nil_append]
 repeat' (first|(apply bp;simp only[ai];rfl)|(apply aN;rfl)|(apply Qex;rfl;exact ak;simp only[ai];rfl)|(apply aD;rfl;simp only[ai];rfl)|(apply bL;rfl)|(apply bg;rfl)|exact aq rfl rfl|(intro hz;(try simp only[bA] at hz)))

theorem c7 {s:Setup}(h:s.Ok):aP Tryz.prog 7 (.st bs) [s.d] (B s.ok):=by
 have lU:=ZS (bs:=bs) s.g
 have Lx:=c21 (bs:=bs) h.least h.src h.places
 have GW:=c22 (bs:=bs) h.aA6
 have h23:=c23 (bs:=bs) (c:=s.c) h.Qtk
 have hiL:s.p.items.length≤9223372036854775807:=h.aA6.UH
 have hhd:(!aq1 s.g||!Qty s.f s.s||!s.p.ok||!aoF s.c)=!(aq1 s.g&&(Qty s.f s.s&&(s.p.ok&&aoF s.c))):=by simp[Bool.or_assoc]
 refine ku7.R rfl rfl ?_
 unfold u7
 simp only[aC,aG,List.cons_append,List.nil_append]
 cases ho:(aq1 s.g&&(Qty s.f s.s&&(s.p.ok&&aoF s.c)))
 ·rw[ho] at hhd
  have:s.ok=false:=by
   cases hs:s.ok with
   | false=>rfl
   | true=>obtain⟨a,b,c,d,_⟩:=Setup.nV hs;rw[a,b,c,d] at ho;cases ho
  rw[this]
  repeat' (first|(apply bp;simp only[ai];rfl)|(apply aH;rfl;exact hhd)|(apply aN;rfl)|(apply aD;rfl;simp only[ai];rfl)|(apply aF;rfl;rfl;(·first|exact lU|exact Lx|exact GW|exact h23);rfl;simp only[ai];rfl)|(apply bL;rfl)|exact aq rfl rfl|(intro hz;(try simp only[bA] at hz)))
 ·rw[ho] at hhd
  simp only[Bool.and_eq_true] at ho
  obtain⟨g1,g2,g3,g4⟩:=ho
  repeat' (first|(apply bp;simp only[ai];rfl)|(apply aK;rfl;exact hhd)|(apply aN;rfl)|(apply aD;rfl;simp only[ai];rfl)|(apply aF;rfl;rfl;(·first|exact lU|exact Lx|exact GW|exact h23);rfl;simp only[ai];rfl)|(apply bL;rfl)|refine au ?_|exact aq rfl rfl|(intro hz;(try simp only[bA] at hz)))
  refine bf (fun i=>[B ((s.p.items.take i).any AM),In i]) (fun _=>True) s.p.items.length (by rfl) (fun _=>rfl) trivial (fun i hi _ R hR=>?_) (fun _ R=>?_)
  ·have gH:decide ((i:Int)<(s.p.items.length:Int))=true:=by rw[decide_eq_true_eq];omega
   have IS:D.aj 4 (.bq (s.p.items.map Sc.Item.d)) (In i)=some (.ptr s.p.items[i].d.cells):=b_ hi rfl
   have hR':=hR trivial
   rw[List.take_succ_eq_append_getElem hi,List.any_append,List.any_cons,List.any_nil,Bool.or_false] at hR'
   repeat' (first|(apply bp;simp only[ai];rfl)|(apply aH;rfl;exact gH)|(apply aN;rfl)|(apply aA;rfl;rfl;exact IS;simp only[ai];rfl)|(apply Qex;rfl;exact ak;simp only[ai];rfl)|(apply bM;rfl;rfl;omega;simp only[ai];rfl)|(apply aD;rfl;simp only[ai];rfl)|(apply bL;rfl)|refine au ?_|(apply av;rfl;rfl)|refine Qav ?_|refine kj rfl ?_|exact aq rfl rfl|(intro hz;(try simp only[bA] at hz)))
   exact hR'
  ·have hlf:decide ((s.p.items.length:Int)<(s.p.items.length:Int))=false:=by simp
   rw[List.take_length]
   repeat' (first|(apply bp;simp only[ai];rfl)|(apply aK;rfl;exact hlf)|(apply aN;rfl)|(apply Qex;rfl;exact ak;simp only[ai];rfl)|(apply aD;rfl;simp only[ai];rfl)|(apply bg;rfl)|(apply av;rfl;rfl)|refine Qav ?_|(refine aB (by decide) ?_)|refine kj rfl ?_|exact aq rfl rfl|(apply aq;rfl;first|exact rfl|(refine bH ?_)|(refine bF ?_)|(refine bG ?_))|(intro hz;(try simp only[bA] at hz)))
   simp only[Setup.ok,g1,g2,g3,g4,Bool.true_and]
   cases s.g.Qtj==s.f.places <;> cases s.c.Qtq==s.f.Qtq <;> cases s.g.Qtq==s.f.Qtq <;> cases s.p.items.any AM <;> rfl

theorem c3 {s:Setup}(h:s.Ok):∃r,eN Tryz.prog 3 (.st b0) [s.d] (.ret (B true)) (.st (b0++r)):=by
 have h4:=c4 (bs:=b0) s
 have CE:aP Tryz.prog 5 (.st b0) [] (B true):=amf []
 cases hs:small s
 ·rw[hs] at h4
  refine⟨[],?_⟩
  rw[List.append_nil]
  refine ku3.W rfl ?_
  unfold u3
  simp only[aC,aG,List.cons_append,List.nil_append]
  repeat' (first|(apply aH;rfl;exact rfl)|(apply aN;rfl)|(apply aD;rfl;simp only[ai];rfl)|(apply aF;rfl;rfl;(·first|exact h4|exact CE);rfl;simp only[ai];rfl)|exact aq rfl rfl)
 rw[hs] at h4
 cases ho:s.ok
 ·have h6:=aGe (bs:=b0) h ho
  have h7:=c7 (bs:=b0) h
  have h8:=c8 h b0
  rw[ho] at h7
  rw[if_neg (by simp[ho])] at h8
  refine⟨[],?_⟩
  rw[List.append_nil]
  refine ku3.W rfl ?_
  unfold u3
  simp only[aC,aG,List.cons_append,List.nil_append]
  repeat' (first|(apply bp;simp only[ai];rfl)|(apply aH;rfl;exact rfl)|(apply aK;rfl;exact rfl)|(apply aN;rfl)|(apply aD;rfl;simp only[ai];rfl)|(apply aF;rfl;rfl;(·first|exact h4|exact h7|exact h8|exact CE);rfl;simp only[ai];rfl)|(apply eZ;rfl;rfl;exact h6;rfl;simp only[ai];rfl)|(apply bg;rfl)|exact aq rfl rfl|(intro hz;(try simp only[bA] at hz)))
 ·obtain⟨hg,hf,hp,hc,e1,e2,e3⟩:=Setup.nV ho
  have h6:=c6 (bs:=b0) h ho
  generalize hS:evS b0 s s.f.Qtq.toNat++kB (b0.length+8) s.p.js.toNat s.p.items.length s.f.Qtq.toNat=S at h6
  obtain⟨r,hr⟩:∃r,S=b0++r:=⟨_,by rw[←hS,evS,aqm,oS]⟩
  have hk:aP Tryz.prog 5 (.st S) [] (B true):=by rw[hr];exact amf r
  have h7:=c7 (bs:=S) h
  have h8:=c8 h S
  rw[ho] at h7
  rw[if_pos ho] at h8
  have hE:S[b0.length]? = some (.aE 75 35 (eC s (.loc (b0.length+4) 0) (.loc (b0.length+6) 0) (.loc (b0.length+7) 0) (kS (b0.length+8) s.f.Qtq.toNat))):=by rw[←hS,evS,aqm,apj]
  have aBV:1≤s.f.Qtq.toNat∧s.f.Qtq.toNat≤200:=by
   have:=(apK hg).2
   omega
  have Zx:=aL.yK hp
  have hph:=aL.gi hp
  have hpn:s.p.items.length=s.p.n:=rfl
  have h9:=c9 hE
  have h11:=c11 (m:=b0.length+8) (L:=s.p.js.toNat) (n:=s.p.items.length) hE (by omega) (by rw[←hS];exact aBH av7 (by omega)) (fun j hj=>by rw[←hS];exact aE5 av7 hj) (by omega) (by omega)
  obtain⟨l,hl,h12⟩:=aJu h ho
  have h12:=h12 S
  have Yj:D.ld false 1 (.st S) (.ptr (l.drop 33))=some (dM (List.replicate s.f.Qtq.toNat (cd s.p.js.toNat s.p.items.length))):=by simp[D.ld,hl]
  have h10:=c10 (bs:=S) (L:=s.p.js.toNat) (n:=s.p.items.length) (k:=s.f.Qtq.toNat) (by omega) (by omega) (by omega)
  refine⟨r,?_⟩
  rw[←hr]
  refine ku3.W rfl ?_
  unfold u3
  simp only[aC,aG,List.cons_append,List.nil_append]
  repeat' (first|(apply bp;simp only[ai];rfl)|(apply aK;rfl;exact rfl)|(apply aN;rfl)|(apply jI;rfl;rfl;exact Yj;simp only[ai];rfl)|(apply Qex;rfl;exact rfl;simp only[ai];rfl)|(apply aD;rfl;simp only[ai];rfl)|(apply aF;rfl;rfl;(·first|exact h4|exact h7|exact h8|exact h9|exact h11|exact h12|exact h10|exact hk);rfl;simp only[ai];rfl)|(apply eZ;rfl;rfl;exact h6;rfl;simp only[ai];rfl)|(apply bg;rfl)|exact aq rfl rfl|(intro hz;(try simp only[bA] at hz)))
end
end Go.Am.Rb
