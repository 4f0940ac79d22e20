/-
  Several texts, one behind the other.
-/
import Derived.Test.YthkepocejfghcaaGreatScC1toScShelf
import Derived.Test.YthkepocejfghcaaGreatAmSortUtoAmRow
import Derived.Test.YthkepocejfghcaaGreatScLentoScAct
import Derived.Test.YthkepocejfghcaaGreatAmFntoAmSt2
set_option linter.unusedSimpArgs false
set_option linter.unusedVariables false
/-
 The program's events: cards with where they are out;the cars with real times;sorted times.
-/
namespace Go.Am.Sc
open Go.Proofs
set_option maxRecDepth 100000
set_option maxHeartbeats 4000000

attribute [local irreducible] inR allR lineOk

variable {bs:List D} {p:Plan} {c:Card} {l:List Card}

def outs (p:Plan)(l:List Card):List Int:=l.map (outI p)

def evCl (p:Plan)(l:List Card)(s:D):List D:=[.lst (p.items.map Item.d),I p.classes,I p.late,I p.early,I p.maxLate,I p.legLate,Is p.jumps,B p.ret,I p.missed,I p.notional,I p.percent,I p.power,Is p.points,Is p.extra,Cards l,s]
def evD (p:Plan)(l:List Card):D:=.ptr (evCl p l (Is (outs p l)))

theorem outs_get {k:Nat}(h:k<l.length):D.eaddr 1 (Is (outs p l)) (In k)=some (.ptr [I (outI p (cd l k))]):=by
 have:=eaddr_get (enc:=I) (sz:=1) (xs:=outs p l) (i:=k) (by simpa[outs] using h) rfl
 have e:(outs p l)[k]'(by simpa[outs] using h)=outI p (cd l k):=by simp[outs,cd,List.getD,h]
 rw[e] at this
 exact this

theorem c55 {k:Nat}(h:k<l.length)(i:Int):FSpecR Tryz.prog 55 (.st bs) [evD p l,In k,I i] (B (runsB p (cd l k) i)):=by
 refine ku55.R rfl rfl ?_
 unfold u55
 simp only[ups_cons,ups_nil,List.cons_append,List.nil_append]
 repeat' (first|(apply nrm;simp only[sbe];rfl)|(apply u_chk;rfl)|(apply u_eaddr;rfl;rfl;exact outs_get h;simp only[sbe];rfl)|(apply u_ev;rfl;simp only[sbe];rfl)|(apply u_or;rfl)|exact u_ret rfl rfl|(intro hz;(try simp only[sbs] at hz)))

theorem c54 {i:Nat}(hi:i<p.n):FSpecR Tryz.prog 54 (.st bs) [evD p l,In i] (B ((p.it i).kind==2)):=by
 refine ku54.R rfl rfl ?_
 unfold u54
 simp only[ups_cons,ups_nil,List.cons_append,List.nil_append]
 repeat' (first|(apply u_chk;rfl)|(apply u_eaddr;rfl;rfl;exact ea_it hi;simp only[sbe];rfl)|(apply u_ev;rfl;simp only[sbe];rfl)|exact u_ret rfl rfl)

theorem c66 {k i:Nat}(hk:k<l.length)(hi:i<(cd l k).lines.length):FSpecR Tryz.prog 66 (.st bs) [evD p l,In k,In i] (I (tmK l i k)):=by
 refine ku66.R rfl rfl ?_
 unfold u66
 simp only[ups_cons,ups_nil,List.cons_append,List.nil_append]
 repeat' (first|(apply u_chk;rfl)|(apply u_eaddr;rfl;rfl;(·first|exact ea_cd hk|exact ea_ln hi);simp only[sbe];rfl)|(apply u_ev;rfl;simp only[sbe];rfl)|exact u_ret rfl rfl)


theorem c127 {P:Card→Bool}{f:Nat}{us cs:List D}{l:List Card}(hL:l.length≤maxLen)(hc:callable Tryz.prog f=true)(hf:∀x,x∈l→FSpecR Tryz.prog f (.st bs) (us++[Card.d x]++cs) (B (P x))):FSpecR Tryz.prog 127 (.st bs) [.lst (l.map Card.d),.fn f us cs] (I (fi P l)):=by
 have hL':l.length≤9223372036854775807:=hL
 refine ku127.R rfl rfl ?_
 unfold u127
 simp only[ups_cons,ups_nil,List.cons_append,List.nil_append]
 repeat' (first|(apply u_lenL;rfl;exact lenL_map;simp only[sbe];rfl)|refine u_join ?_)
 refine u_range (fun i=>[I i]) (fun i=>∀k (h:k<i) (h2:k<l.length),P l[k]=false) l.length rfl (fun _=>rfl) (fun k h=>absurd h (Nat.not_lt_zero _)) (fun i hi hJ R hR=>?_) (fun hJ R=>?_)
 ·have hcal:=hf l[i] (List.getElem_mem hi)
  have hli:decide ((i:Int)<(l.length:Int))=true:=by simp;omega
  cases hP:P l[i]
  ·rw[hP] at hcal
   repeat' (first|(apply nrm;simp only[sbe];rfl)|(apply u_iteT;rfl;exact hli)|(apply u_iteF;rfl;exact rfl)|(apply u_eaddr;rfl;rfl;exact eaddr_get hi rfl;simp only[sbe];rfl)|(apply u_add;rfl;rfl;omega;simp only[sbe];rfl)|(apply u_ev;rfl;simp only[sbe];rfl)|(apply u_callv;rfl;exact hc;rfl;rfl;exact hcal;rfl;simp only[sbe];rfl)|refine u_join ?_|(apply u_jump;rfl;rfl)|refine at_jump ?_|refine kj rfl ?_)
   refine hR fun k hk h2=>?_
   rcases Nat.lt_or_ge k i with h3 | h3
   ·exact hJ k h3 h2
   ·have e:k=i:=by omega
    subst e
    exact hP
  ·rw[hP] at hcal
   repeat' (first|(apply nrm;simp only[sbe];rfl)|(apply u_iteT;rfl;(·first|exact hli|exact rfl))|(apply u_eaddr;rfl;rfl;exact eaddr_get hi rfl;simp only[sbe];rfl)|(apply u_ev;rfl;simp only[sbe];rfl)|(apply u_callv;rfl;exact hc;rfl;rfl;exact hcal;rfl;simp only[sbe];rfl)|refine u_join ?_|(apply u_ret;rfl;first|exact rfl|(refine retB ?_)|(refine retI ?_)|(refine retD ?_)))
   exact(fi_at hi hP fun k hk=>hJ k hk (by omega)).symm
 ·repeat' (first|(apply nrm;simp only[sbe];rfl)|(apply u_ev;rfl;simp only[sbe];rfl)|(apply u_jump;rfl;rfl)|refine at_jump ?_|(refine over_jump (by decide) ?_)|refine kj rfl ?_|(apply u_ite;rfl;all_goals (intro hz;(try simp only[sbs] at hz);first|(exact absurd hz (by decide))|(exfalso;omega)|skip))|(apply u_ret;rfl;first|exact rfl|(refine retB ?_)|(refine retI ?_)|(refine retD ?_)))
  refine(fi_no fun a ha=>?_).symm
  obtain⟨k,hk,rfl⟩:=List.mem_iff_getElem.1 ha
  exact hJ k hk hk

theorem c101 {P:Card→Bool}{f:Nat}{us cs:List D}{l:List Card}(hL:l.length≤maxLen)(hc:callable Tryz.prog f=true)(hf:∀x,x∈l→FSpecR Tryz.prog f (.st bs) (us++[x.d]++cs) (B (P x))):FSpecR Tryz.prog 101 (.st bs) [Cards l,.fn f us cs] (B (l.any P)):=by
 refine ku101.R rfl rfl ?_
 unfold u101
 simp only[ups_cons,ups_nil,List.cons_append,List.nil_append]
 repeat' (first|(apply u_ev;rfl;simp only[sbe];rfl)|(apply u_call;rfl;rfl;exact c127 hL hc hf;rfl;simp only[sbe];rfl)|(apply u_ret;rfl;first|exact rfl|(refine retB ?_)|(refine retI ?_)|(refine retD ?_)))
 exact fi_any P l

theorem c102 (hp:p.Ok)(hok:p.ok=true)(hc:c.Ok):FSpecR Tryz.prog 102 (.st bs) [c.d,.ptr p.cs] (B (!cardOk p c)):=by
 have h19:=c19 (bs:=bs) hp hc
 rw[hok,Bool.true_and] at h19
 refine ku102.R rfl rfl ?_
 unfold u102
 simp only[ups_cons,ups_nil,List.cons_append,List.nil_append]
 repeat' (first|(apply u_chk;rfl)|(apply u_ev;rfl;simp only[sbe];rfl)|(apply u_call;rfl;rfl;exact h19;rfl;simp only[sbe];rfl)|(apply u_ret;rfl;first|exact rfl|(refine retB ?_)|(refine retI ?_)|(refine retD ?_)))
 cases cardOk p c <;> rfl

/-! ## what an event melts to -/

variable {n:Nat}

theorem melt_items:melt bs (n+3) (.lst (p.items.map Item.d))=some (.lst (p.items.map Item.d)):=by
 rw[melt,meltL_map (enc:=Item.d) fun a _=>by rfl]
 rfl

theorem melt_card (c:Card):melt bs (n+4) c.d=some c.d:=by
 have h1:melt bs (n+3) (Is c.starts)=some (Is c.starts):=melt_is
 have h2:melt bs (n+3) (.lst (c.lines.map Line.d))=some (.lst (c.lines.map Line.d)):=by
  rw[melt,meltL_map (enc:=Line.d) fun a _=>by rfl]
  rfl
 have h3:melt bs (n+3) (I c.cls)=some (I c.cls):=rfl
 rw[Card.d,melt]
 simp only[Card.cs,meltL,h1,h2,h3,Option.bind_some,Option.map_some]

theorem melt_cards:melt bs (n+5) (Cards l)=some (Cards l):=by
 rw[melt,meltL_map (enc:=Card.d) fun a _=>melt_card a]
 rfl

theorem gB_set {x y:D}{r:List D}:∀{xs:List Int},(gB (x :: r) xs).set 0 y=gB (y :: r) xs
 | []=>rfl
 | _ :: _=>rfl

abbrev evB (p:Plan)(l:List Card)(s:D):D:=.blk 99 16 (evCl p l s)

theorem ev_ld {s:D}{xs:List Int}:D.ld false 1 (.st (gB [evB p l s] xs)) (.loc 0 15)=some s:=ld_blk (e:=99) (sz:=16) (cs:=evCl p l s) (by rw[gB_low (by simp)];rfl) rfl

theorem ev_sto {s s':D}{xs:List Int}(hs:s'.one=true):D.sto 1 (.st (gB [evB p l s] xs)) (.loc 0 15) s'=some (.st (gB [evB p l s'] xs)):=by
 rw[sto_blk (e:=99) (sz:=16) (cs:=evCl p l s) (by rw[gB_low (by simp)];rfl) (by simp[evCl]) hs,gB_set]
 rfl

theorem gS_one {m:Nat}:∀xs:List Int,(gS m xs).one=true
 | []=>rfl
 | _ :: _=>rfl

theorem ev_melt:melt (gB [evB p l (gS 1 (outs p l))] (outs p l)) 8 (.tup [.loc 0 0,B true])=some (.tup [evD p l,B true]):=by
 have hs:melt (gB [evB p l (gS 1 (outs p l))] (outs p l)) 6 (gS 1 (outs p l))=some (Is (outs p l)):=melt_g (b0:=[evB p l (gS 1 (outs p l))]) (n:=4)
 have h0:(gB [evB p l (gS 1 (outs p l))] (outs p l))[0]? = some (evB p l (gS 1 (outs p l))):=by rw[gB_low (by simp)];rfl
 generalize gB [evB p l (gS 1 (outs p l))] (outs p l)=st at *
 have hl:melt st 7 (.loc 0 0)=some (evD p l):=by
  have h1:melt st 6 (.lst (p.items.map Item.d))=some (.lst (p.items.map Item.d)):=melt_items
  have h2:melt st 6 (Cards l)=some (Cards l):=melt_cards
  have h3:∀x:List Int,melt st 6 (Is x)=some (Is x):=fun x=>melt_is
  have h4:∀x:Int,melt st 6 (I x)=some (I x):=fun x=>rfl
  have h5:∀x:Bool,melt st 6 (B x)=some (B x):=fun x=>rfl
  rw[melt]
  simp only[h0,List.drop_zero,evCl,meltL,h1,h2,h3,h4,h5,hs,Option.bind_some,Option.map_some]
  rfl
 have hb:melt st 7 (B true)=some (B true):=rfl
 rw[melt]
 simp only[meltL,hl,hb,Option.bind_some,Option.map_some]

theorem c53_yes (hp:p.Ok)(hl:CardsOk l)(hok:p.ok=true)(hc:cardsOk p l=true):FSpecR Tryz.prog 53 (.st bs) [p.d,Cards l] (.tup [evD p l,B true]):=by
 have hcs:=cards_ok hc
 have h18:=c18 (bs:=[]) hp
 rw[hok] at h18
 replace h18:FSpecR Tryz.prog 18 (.st []) [p.d] (I 0):=h18
 have h101:FSpecR Tryz.prog 101 (.st []) [Cards l,.fn 102 [] [.ptr p.cs]] (B (l.any fun c=>!cardOk p c)):=c101 (us:=[]) (cs:=[.ptr p.cs]) hl.2 (by kernel_rfl) fun x hx=>c102 hp hok (hl.1 x hx)
 have hall:(l.any fun c=>!cardOk p c)=false:=by
  have h1:=not_any (cardOk p) l
  simp only[cardsOk,Bool.and_eq_true] at hc
  rw[hc.2] at h1
  simpa using h1
 rw[hall] at h101
 have hW:FSpecW Tryz.prog 53 (.st []) [p.d,Cards l] (.tup [.loc 0 0,B true]) (.st (gB [evB p l (gS 1 (outs p l))] (outs p l))):=by
  refine ku53.W rfl ?_
  unfold u53
  simp only[ups_cons,ups_nil,List.cons_append,List.nil_append]
  repeat' (first|(apply nrm;simp only[sbe];rfl)|(apply u_lenL;rfl;exact lenL_map;simp only[sbe];rfl)|(apply u_ev;rfl;simp only[sbe];rfl)|(apply u_call;rfl;rfl;(·first|exact h18|exact h101);rfl;simp only[sbe];rfl)|(apply u_or;rfl)|refine u_join ?_|(apply u_ite;rfl;all_goals (intro hz;(try simp only[sbs] at hz);first|(exact absurd hz (by decide))|(exfalso;omega)|skip))|exact u_ret rfl rfl|(intro hz;(try simp only[sbs] at hz)))
  ·rcases hz with h | h
   ·exact absurd trivial h
   ·omega
  refine u_range (fun k=>[In k,.st (gB [evB p l (gS 1 ((outs p l).take k))] ((outs p l).take k))]) (fun _=>True) l.length rfl (fun _=>rfl) trivial (fun k hk _ R hR=>?_) (fun _ R=>?_)
  ·have hlk:decide ((k:Int)<(l.length:Int))=true:=by simp;omega
   have hR:=hR trivial
   have hko:k<(outs p l).length:=by simpa[outs] using hk
   have e:(outs p l).take (k+1)=(outs p l).take k++[outI p (cd l k)]:=by
    rw[List.take_add_one,List.getElem?_eq_getElem hko]
    simp[outs,cd,List.getD,hk]
   rw[e] at hR
   have hlen:((outs p l).take k).length≤200:=by rw[List.length_take];omega
   generalize(outs p l).take k=xs at hR hlen ⊢
   have h89:=c89 (bs:=gB [evB p l (gS 1 xs)] xs) hp hok (hcs.2 k hk)
   have ha1:=g_apph (b0:=[evB p l (gS 1 xs)]) (xs:=xs) (x:=outI p (cd l k)) (by omega)
   have ha2:=g_apps (b0:=[evB p l (gS 1 xs)]) (xs:=xs) (x:=outI p (cd l k))
   repeat' (first|(apply nrm;simp only[sbe];rfl)|(apply u_iteT;rfl;exact hlk)|(apply u_chk;rfl)|(apply u_stoa;rfl;rfl;rfl;rfl;rfl;exact ha2;(·exact ev_sto (gS_one _));simp only[sbe];rfl)|(apply u_ld;rfl;rfl;exact ev_ld;simp only[sbe];rfl)|(apply u_eaddr;rfl;rfl;exact ea_cd hk;simp only[sbe];rfl)|(apply u_apph;rfl;rfl;rfl;exact ha1;simp only[sbe];rfl)|(apply u_ev;rfl;simp only[sbe];rfl)|(apply u_call;rfl;rfl;exact h89;rfl;simp only[sbe];rfl)|refine u_join ?_)
   refine u_jump (evC rfl (evC (ev_apps rfl rfl rfl ha2) (evC rfl (evC rfl (evC rfl evN))))) rfl ?_
   repeat' (first|(apply nrm;simp only[sbe];rfl)|(apply u_inc;rfl;omega;simp only[sbe];rfl)|(apply u_jump;rfl;rfl)|refine at_jump ?_|refine kj rfl ?_)
   exact hR
  ·have hlf:decide ((l.length:Int)<(l.length:Int))=false:=by simp
   have e:(outs p l).take l.length=outs p l:=List.take_of_length_le (by simp[outs])
   repeat' (first|(apply nrm;simp only[sbe];rfl)|(apply u_iteF;rfl;exact hlf)|(apply u_ev;rfl;simp only[sbe];rfl)|(apply u_jump;rfl;rfl)|refine at_jump ?_|(refine over_jump (by decide) ?_)|refine kj rfl ?_)
   rw[e]
   repeat' ((with_reducible exact u_ret rfl rfl))
 exact hW.melt (n:=8) (by simp[noids,plan_noid,cards_noid]) ev_melt bs

end Go.Am.Sc

/-
 The program's real times,sorted times,notional times.
-/
namespace Go.Am.Sc
open Go.Proofs
set_option maxRecDepth 100000
set_option maxHeartbeats 4000000

attribute [local irreducible] inR allR lineOk

variable {bs:List D} {p:Plan} {c:Card} {l:List Card}

abbrev ints (L:List Nat):List Int:=L.map fun n:Nat=>Int.ofNat n
theorem ix_is (L:List Nat):Ix L=Is (ints L):=by simp only[Ix,Is,ints,List.map_map];rfl

theorem ev_noid:(evD p l).noid=true:=by
 simp only[evD,evCl,D.noid,noids,noid_map (enc:=I) (fun _=>rfl),noid_map (enc:=Item.d) (fun x=>rfl),noid_map (enc:=Card.d) card_noid,Bool.and_self]

theorem c64 (hp:p.Ok)(hok:p.ok=true)(hc:cardsOk p l=true){i:Nat}(hi:i<p.n)(cls:Int):FSpecR Tryz.prog 64 (.st bs) [evD p l,In i,I cls] (Ix (realN p l i cls)):=by
 have hcs:=cards_ok hc
 have hW:FSpecW Tryz.prog 64 (.st []) [evD p l,In i,I cls] (gS 0 (ints (realN p l i cls))) (.st (gB [] (ints (realN p l i cls)))):=by
  refine ku64.W rfl ?_
  unfold u64
  simp only[ups_cons,ups_nil,List.cons_append,List.nil_append]
  repeat' (first|(apply u_chk;rfl)|(apply u_lenL;rfl;exact lenL_map;simp only[sbe];rfl)|(apply u_ev;rfl;simp only[sbe];rfl)|refine u_join ?_)
  refine u_range (fun k=>[gS 0 (ints (realTo p l i cls k)),In k,.st (gB [] (ints (realTo p l i cls k)))]) (fun _=>True) l.length rfl (fun _=>rfl) trivial (fun k hk _ R hR=>?_) (fun _ R=>?_)
  ·have hlk:decide ((k:Int)<(l.length:Int))=true:=by simp;omega
   have h:=hcs.2 k hk
   have hln:=h.len
   have hR:=hR trivial
   rw[realTo_succ] at hR
   have hrl:=realTo_len (p:=p) (l:=l) (i:=i) (cls:=cls) (n:=k)
   have h55:=c55 (bs:=gB [] (ints (realTo p l i cls k))) (p:=p) hk i
   cases hr:isReal p l i cls k
   ·rw[if_neg (by simp[hr])] at hR
    have hf:(((cd l k).ln i).mark==0&&runsB p (cd l k) i&&(decide (cls<0)||(cd l k).cls==cls))=false:=by rw[Bool.and_assoc];exact hr
    repeat' (first|(apply nrm;simp only[sbe];rfl)|(apply u_iteT;rfl;exact hlk)|(apply u_iteF;rfl;exact hf)|(apply u_chk;rfl)|(apply u_eaddr;rfl;rfl;(·first|exact ea_cd hk|exact ea_ln (by omega));simp only[sbe];rfl)|(apply u_inc;rfl;omega;simp only[sbe];rfl)|(apply u_ev;rfl;simp only[sbe];rfl)|(apply u_call;rfl;rfl;exact h55;rfl;simp only[sbe];rfl)|(apply u_or;rfl)|(apply u_and;rfl)|refine u_join ?_|(apply u_jump;rfl;rfl)|refine at_jump ?_|refine kj rfl ?_|exact u_ret rfl rfl|(intro hz;(try simp only[sbs] at hz)))
    exact hR
   ·rw[if_pos hr,ints,List.map_append,List.map_cons,List.map_nil] at hR
    have ht:(((cd l k).ln i).mark==0&&runsB p (cd l k) i&&(decide (cls<0)||(cd l k).cls==cls))=true:=by rw[Bool.and_assoc];exact hr
    have ha1:=g_apph (b0:=[]) (xs:=ints (realTo p l i cls k)) (x:=(k:Int)) (by simp only[ints,List.length_map];omega)
    have ha2:=g_apps (b0:=[]) (xs:=ints (realTo p l i cls k)) (x:=(k:Int))
    repeat' (first|(apply nrm;simp only[sbe];rfl)|(apply u_iteT;rfl;(·first|exact hlk|exact ht))|(apply u_chk;rfl)|(apply u_eaddr;rfl;rfl;(·first|exact ea_cd hk|exact ea_ln (by omega));simp only[sbe];rfl)|(apply u_apph;rfl;rfl;rfl;exact ha1;simp only[sbe];rfl)|(apply u_inc;rfl;omega;simp only[sbe];rfl)|(apply u_ev;rfl;simp only[sbe];rfl)|(apply u_call;rfl;rfl;exact h55;rfl;simp only[sbe];rfl)|(apply u_or;rfl)|(apply u_and;rfl)|refine u_join ?_|(apply u_jump;rfl;(·exact evC (ev_apps rfl rfl rfl ha2) (evC rfl evN)))|(apply u_jump;rfl;rfl)|refine at_jump ?_|refine kj rfl ?_|exact u_ret rfl rfl|(intro hz;(try simp only[sbs] at hz)))
    exact hR
  ·have hlf:decide ((l.length:Int)<(l.length:Int))=false:=by simp
   repeat' (first|(apply nrm;simp only[sbe];rfl)|(apply u_iteF;rfl;exact hlf)|(apply u_ev;rfl;simp only[sbe];rfl)|(apply u_jump;rfl;rfl)|refine at_jump ?_|(refine over_jump (by decide) ?_)|refine kj rfl ?_|exact u_ret rfl rfl)
   all_goals exact rfl
 rw[ix_is]
 exact hW.melt (n:=2) (by simp[noids,ev_noid,D.noid]) melt_g bs

theorem c103 (hp:p.Ok)(hok:p.ok=true)(hc:cardsOk p l=true){i car:Nat}(hi:i<p.n)(hcar:car<l.length):FSpecR Tryz.prog 103 (.st bs) [evD p l,In car,In i] (Ix (basis p l i car)):=by
 have h1:=c64 (bs:=bs) hp hok hc hi (cd l car).cls
 have h2:=c64 (bs:=bs) hp hok hc hi (-1)
 refine ku103.R rfl rfl ?_
 unfold u103
 simp only[ups_cons,ups_nil,List.cons_append,List.nil_append]
 repeat' (first|(apply u_chk;rfl)|(apply u_eaddr;rfl;rfl;exact ea_cd hcar;simp only[sbe];rfl)|(apply u_lenL;rfl;exact lenL_map;simp only[sbe];rfl)|(apply u_ev;rfl;simp only[sbe];rfl)|(apply u_call;rfl;rfl;(·first|exact h1|exact h2);rfl;simp only[sbe];rfl)|(apply u_ite;rfl;all_goals (intro hz;(try simp only[sbs] at hz);first|(exact absurd hz (by decide))|(exfalso;omega)|skip))|(apply u_ret;rfl;first|exact rfl|(refine retB ?_)|(refine retI ?_)|(refine retD ?_)))
 ·rw[basis,if_pos (by omega)]
 ·rw[basis,if_neg (by omega)]

theorem c96 {xs:List Int}(hL:xs.length≤1000):∃st,FSpecW Tryz.prog 96 (.st (gB [] xs)) [gS 0 xs] (.tup []) (.st st)∧∀n,melt st (n+2) (gS 0 xs)=some (Is (srt xs)):=by
 by_cases hx:xs=[]
 ·subst hx
  exact⟨[],Srt.sortN fun p cap w=>(Tryz.slices_Sort_int_none p cap w).mono fun e w' h=>⟨h.1,0,by rw[h.2];rfl⟩,fun n=>by rw[show srt []=[] by simp[srt]];rfl⟩
 ·have hg:=gB_get (b0:=[]) hx
  have h:FSpecW Tryz.prog 96 (.st (gB [] xs)) [.sl (([]:List D).length+(xs.length-1)) 0 xs.length] (.tup []) (.st ((gB [] xs).set (([]:List D).length+(xs.length-1)) (.blk 3 1 ((srt xs).map I)))):=Srt.sortW (P:=Tryz.prog) (f:=96) (fun blk off cap zs w h1 h2 h3=>Tryz.slices_Sort_int blk off cap zs w h1 h2 h3) (xs:=xs) hg (by omega)
  have e:=gS_cons (m:=([]:List D).length) hx
  refine⟨_,by rw[show gS 0 xs=_ from e];exact h,fun n=>?_⟩
  rw[show gS 0 xs=_ from e,melt]
  have hl:([]:List D).length+(xs.length-1)<(gB [] xs).length:=(List.getElem?_eq_some_iff.1 hg).1
  simp only[set_get hl]
  have hsl:=srt_len xs
  rw[if_pos (by simp[hsl])]
  simp only[Nat.mul_one,Nat.zero_add,List.drop_zero]
  rw[show((srt xs).map I).take xs.length=(srt xs).map I from List.take_of_length_le (by simp[hsl]),meltL_map (enc:=I) fun a _=>by rw[melt]]
  simp

theorem c67 {i:Nat}{b:List Nat}(hb:∀k,k∈b→k<l.length∧i<(cd l k).lines.length)(hL:b.length≤1000):FSpecR Tryz.prog 67 (.st bs) [evD p l,Ix b,In i] (Is (srt (tms l i b))):=by
 obtain⟨st,hs,hm⟩:=c96 (xs:=tms l i b) (by rw[tms_len];omega)
 have hW:FSpecW Tryz.prog 67 (.st []) [evD p l,Ix b,In i] (gS 0 (tms l i b)) (.st st):=by
  refine ku67.W rfl ?_
  unfold u67
  simp only[ups_cons,ups_nil,List.cons_append,List.nil_append]
  repeat' (first|(apply u_lenL;rfl;exact lenL_map;simp only[sbe];rfl)|refine u_join ?_)
  refine u_range (fun k=>[gS 0 (tms l i (b.take k)),In k,.st (gB [] (tms l i (b.take k)))]) (fun _=>True) b.length rfl (fun _=>rfl) trivial (fun k hk _ R hR=>?_) (fun _ R=>?_)
  ·have hlk:decide ((k:Int)<(b.length:Int))=true:=by simp;omega
   have hbk:=hb b[k] (List.getElem_mem hk)
   have hR:=hR trivial
   rw[tms_take hk] at hR
   have h66:=c66 (bs:=gB [] (tms l i (b.take k))) (p:=p) hbk.1 hbk.2
   have hlen:(tms l i (b.take k)).length≤1000:=by rw[tms_len,List.length_take];omega
   generalize tms l i (b.take k)=xs at hR hlen h66 ⊢
   have ha1:=g_apph (b0:=[]) (xs:=xs) (x:=tmK l i b[k]) (by omega)
   have ha2:=g_apps (b0:=[]) (xs:=xs) (x:=tmK l i b[k])
   repeat' (first|(apply nrm;simp only[sbe];rfl)|(apply u_iteT;rfl;exact hlk)|(apply u_eaddr;rfl;rfl;exact ix_get hk;simp only[sbe];rfl)|(apply u_apph;rfl;rfl;rfl;exact ha1;simp only[sbe];rfl)|(apply u_ev;rfl;simp only[sbe];rfl)|(apply u_call;rfl;rfl;exact h66;rfl;simp only[sbe];rfl)|refine u_join ?_)
   refine u_jump (evC (ev_apps rfl rfl rfl ha2) evN) (evC (ev_apps rfl rfl rfl ha2) (evC rfl evN)) ?_
   repeat' (first|(apply nrm;simp only[sbe];rfl)|(apply u_inc;rfl;omega;simp only[sbe];rfl)|(apply u_jump;rfl;rfl)|refine at_jump ?_|refine kj rfl ?_)
   exact hR
  ·have hlf:decide ((b.length:Int)<(b.length:Int))=false:=by simp
   rw[List.take_length]
   repeat' (first|(apply nrm;simp only[sbe];rfl)|(apply u_iteF;rfl;exact hlf)|(apply u_ev;rfl;simp only[sbe];rfl)|(apply u_wcall;rfl;rfl;exact hs;rfl;simp only[sbe];rfl)|(apply u_jump;rfl;rfl)|refine at_jump ?_|(refine over_jump (by decide) ?_)|refine kj rfl ?_|exact u_ret rfl rfl)
 exact hW.melt (n:=2) (by simp[noids,ev_noid,D.noid,noid_map (enc:=In) (fun _=>rfl)]) (hm 0) bs


theorem c104 (hok:p.ok=true)(hc:cardsOk p l=true){i car:Nat}(hi:i<p.n)(h0:0<(basis p l i car).length):FSpecR Tryz.prog 104 (.st bs) [evD p l,Ix (basis p l i car),In car,In i] (I ((srt (tms l i (basis p l i car))).getD (((basis p l i car).length-1) / 2) 0)):=by
 have hcs:=cards_ok hc
 have hm:=Plan.ok_more hok
 have hbl:=basis_len (p:=p) (l:=l) (i:=i) (car:=car)
 have hmb:∀k,k∈basis p l i car→k<l.length∧i<(cd l k).lines.length:=fun k hk=>⟨(mem_basis hk).1,by rw[(hcs.2 k (mem_basis hk).1).len];exact hi⟩
 have h67:=c67 (bs:=bs) (p:=p) hmb (by omega)
 have hlb:=least_bd hc (car:=car) hi
 have hSl:(srt (tms l i (basis p l i car))).length=(basis p l i car).length:=by rw[srt_len,tms_len]
 have hg1:D.eaddr 1 (Is (srt (tms l i (basis p l i car)))) (I (((((basis p l i car).length-1:Nat)):Int) / 2))=some (.ptr [I ((srt (tms l i (basis p l i car))).getD (((basis p l i car).length-1) / 2) 0)]):=by
  rw[show(((((basis p l i car).length-1:Nat)):Int) / 2)=((((basis p l i car).length-1) / 2:Nat):Int) by omega]
  exact is_get (by omega)
 refine ku104.R rfl rfl ?_
 unfold u104
 simp only[ups_cons,ups_nil,List.cons_append,List.nil_append]
 repeat' (first|(apply u_eaddr;rfl;rfl;exact hg1;simp only[sbe];rfl)|(apply u_bin;rfl;rfl;(·exact bin_quo (a:=((((basis p l i car).length-1:Nat)):Int)) (by decide) (by omega));simp only[sbe];rfl)|(apply u_lenL;rfl;exact lenL_map;simp only[sbe];rfl)|(apply u_pred;rfl;omega;simp only[sbe];rfl)|(apply u_ev;rfl;simp only[sbe];rfl)|(apply u_call;rfl;rfl;exact h67;rfl;simp only[sbe];rfl)|exact u_ret rfl rfl)

theorem c105 (hok:p.ok=true)(hc:cardsOk p l=true){i car:Nat}(hi:i<p.n)(h0:0<(basis p l i car).length):FSpecR Tryz.prog 105 (.st bs) [evD p l,Ix (basis p l i car),In car,In i] (I ((srt (tms l i (basis p l i car))).getD ((basis p l i car).length-1) 0)):=by
 have hcs:=cards_ok hc
 have hm:=Plan.ok_more hok
 have hbl:=basis_len (p:=p) (l:=l) (i:=i) (car:=car)
 have hmb:∀k,k∈basis p l i car→k<l.length∧i<(cd l k).lines.length:=fun k hk=>⟨(mem_basis hk).1,by rw[(hcs.2 k (mem_basis hk).1).len];exact hi⟩
 have h67:=c67 (bs:=bs) (p:=p) hmb (by omega)
 have hlb:=least_bd hc (car:=car) hi
 have hSl:(srt (tms l i (basis p l i car))).length=(basis p l i car).length:=by rw[srt_len,tms_len]
 refine ku105.R rfl rfl ?_
 unfold u105
 simp only[ups_cons,ups_nil,List.cons_append,List.nil_append]
 repeat' (first|(apply u_eaddr;rfl;rfl;(·exact is_get (by omega));simp only[sbe];rfl)|(apply u_lenL;rfl;exact lenL_map;simp only[sbe];rfl)|(apply u_pred;rfl;omega;simp only[sbe];rfl)|(apply u_ev;rfl;simp only[sbe];rfl)|(apply u_call;rfl;rfl;exact h67;rfl;simp only[sbe];rfl)|exact u_ret rfl rfl)

theorem c107 (hok:p.ok=true)(hc:cardsOk p l=true){i car:Nat}(hi:i<p.n)(h0:0<(basis p l i car).length):FSpecR Tryz.prog 107 (.st bs) [evD p l,Ix (basis p l i car),In car,In i] (I ((least l i (basis p l i car)*p.percent+99) / 100)):=by
 have hcs:=cards_ok hc
 have hm:=Plan.ok_more hok
 have hbl:=basis_len (p:=p) (l:=l) (i:=i) (car:=car)
 have hmb:∀k,k∈basis p l i car→k<l.length∧i<(cd l k).lines.length:=fun k hk=>⟨(mem_basis hk).1,by rw[(hcs.2 k (mem_basis hk).1).len];exact hi⟩
 have h67:=c67 (bs:=bs) (p:=p) hmb (by omega)
 have hlb:=least_bd hc (car:=car) hi
 have hSl:(srt (tms l i (basis p l i car))).length=(basis p l i car).length:=by rw[srt_len,tms_len]
 have hg0:D.eaddr 1 (Is (srt (tms l i (basis p l i car)))) (I 0)=some (.ptr [I (least l i (basis p l i car))]):=is_get (i:=0) (by omega)
 have hmul:=mul_bd hlb ⟨(by omega:0≤p.percent),hm.2.1.2⟩
 refine ku107.R rfl rfl ?_
 unfold u107
 simp only[ups_cons,ups_nil,List.cons_append,List.nil_append]
 repeat' (first|(apply u_chk;rfl)|(apply u_eaddr;rfl;rfl;exact hg0;simp only[sbe];rfl)|(apply u_bin;rfl;rfl;(·first|exact bin_mul (by omega)|exact bin_quo (by decide) (by omega));simp only[sbe];rfl)|(apply u_add;rfl;rfl;omega;simp only[sbe];rfl)|(apply u_ev;rfl;simp only[sbe];rfl)|(apply u_call;rfl;rfl;exact h67;rfl;simp only[sbe];rfl)|exact u_ret rfl rfl)

theorem c106 (hok:p.ok=true)(hc:cardsOk p l=true){i car:Nat}(hi:i<p.n)(hcar:car<l.length)(h0:0<(basis p l i car).length):FSpecR Tryz.prog 106 (.st bs) [evD p l,Ix (basis p l i car),In car,In i] (I ((basis p l i car).foldl (befF l i (mnK l i car)) (-1,least l i (basis p l i car))).2):=by
 have hcs:=cards_ok hc
 have hm:=Plan.ok_more hok
 have hbl:=basis_len (p:=p) (l:=l) (i:=i) (car:=car)
 have hmb:∀k,k∈basis p l i car→k<l.length∧i<(cd l k).lines.length:=fun k hk=>⟨(mem_basis hk).1,by rw[(hcs.2 k (mem_basis hk).1).len];exact hi⟩
 have h67:=c67 (bs:=bs) (p:=p) hmb (by omega)
 have hlb:=least_bd hc (car:=car) hi
 have hSl:(srt (tms l i (basis p l i car))).length=(basis p l i car).length:=by rw[srt_len,tms_len]
 have hcl:=(hcs.2 car hcar).len
 have hg0:D.eaddr 1 (Is (srt (tms l i (basis p l i car)))) (I 0)=some (.ptr [I (least l i (basis p l i car))]):=is_get (i:=0) (by omega)
 refine ku106.R rfl rfl ?_
 unfold u106
 simp only[ups_cons,ups_nil,List.cons_append,List.nil_append]
 repeat' (first|(apply u_eaddr;rfl;rfl;exact hg0;simp only[sbe];rfl)|(apply u_lenL;rfl;exact lenL_map;simp only[sbe];rfl)|(apply u_ev;rfl;simp only[sbe];rfl)|(apply u_call;rfl;rfl;exact h67;rfl;simp only[sbe];rfl)|refine u_join ?_)
 generalize basis p l i car=b at hmb hbl hlb hSl h0 hg0 ⊢
 refine u_range (fun k=>[I ((b.take k).foldl (befF l i (mnK l i car)) (-1,least l i b)).1,I ((b.take k).foldl (befF l i (mnK l i car)) (-1,least l i b)).2,In k]) (fun _=>True) b.length rfl (fun _=>rfl) trivial (fun k hk _ R hR=>?_) (fun _ R=>?_)
 ·have hlk:decide ((k:Int)<(b.length:Int))=true:=by simp;omega
  have hbk:=hmb b[k] (List.getElem_mem hk)
  have hR:=hR trivial
  rw[List.take_add_one,List.getElem?_eq_getElem hk,Option.toList_some,List.foldl_append,List.foldl_cons,List.foldl_nil] at hR
  generalize(b.take k).foldl (befF l i (mnK l i car)) (-1,least l i b)=s at hR ⊢
  have h66:=c66 (bs:=bs) (p:=p) hbk.1 hbk.2
  repeat' (first|(apply nrm;simp only[sbe];rfl)|(apply u_iteT;rfl;exact hlk)|(apply u_chk;rfl)|(apply u_eaddr;rfl;rfl;(·first|exact ix_get hk|exact ea_cd hbk.1|exact ea_ln hbk.2|exact ea_cd hcar|exact ea_ln (by omega));simp only[sbe];rfl)|(apply u_inc;rfl;omega;simp only[sbe];rfl)|(apply u_ev;rfl;simp only[sbe];rfl)|(apply u_call;rfl;rfl;exact h66;rfl;simp only[sbe];rfl)|(apply u_or;rfl)|(apply u_and;rfl)|refine u_join ?_|(apply u_jump;rfl;rfl)|refine at_jump ?_|refine kj rfl ?_|(apply u_phiS;rfl;all_goals (intro hz;(try simp only[sbs] at hz);first|(exact absurd hz (by decide))|(exfalso;omega)|(refine⟨_,rfl,?_⟩)))|exact u_ret rfl rfl|(intro hz;(try simp only[sbs] at hz)))
  all_goals first
  |(rw[befF_no (by simp only[mnK,tmK] at *;omega)] at hR;exact hR)
  |(rw[befF_yes (by simp only[mnK,tmK] at *;omega)] at hR;exact hR)
 ·have hlf:decide ((b.length:Int)<(b.length:Int))=false:=by simp
  repeat' (first|(apply nrm;simp only[sbe];rfl)|(apply u_iteF;rfl;exact hlf)|(apply u_ev;rfl;simp only[sbe];rfl)|(apply u_jump;rfl;rfl)|refine at_jump ?_|(refine over_jump (by decide) ?_)|refine kj rfl ?_|(apply u_ret;rfl;first|exact rfl|(refine retB ?_)|(refine retI ?_)|(refine retD ?_)))
  rw[List.take_length]

end Go.Am.Sc

/-
 Times and totals,in the program.
-/
namespace Go.Am.Sc
open Go.Proofs
set_option maxRecDepth 100000
set_option maxHeartbeats 4000000

attribute [local irreducible] inR allR lineOk

variable {bs:List D} {p:Plan} {c:Card} {l:List Card}


theorem c56 (hp:p.Ok)(hok:p.ok=true)(hc:cardsOk p l=true){i car:Nat}(hi:i<p.n)(hcar:car<l.length):FSpecR Tryz.prog 56 (.st bs) [evD p l,In car,In i] (I (timeN p l car i)):=by
 have hcs:=cards_ok hc
 have hm:=Plan.ok_more hok
 have hcc:=hcs.2 car hcar
 have hcl:=hcc.len
 have hmk:=hcc.mark hi
 have hr:=Plan.ok_rules hok
 have hbl:=basis_len (p:=p) (l:=l) (i:=i) (car:=car)
 have hmb:∀k,k∈basis p l i car→k<l.length∧i<(cd l k).lines.length:=fun k hk=>⟨(mem_basis hk).1,by rw[(hcs.2 k (mem_basis hk).1).len];exact hi⟩
 have hlb:=least_bd hc (car:=car) hi
 have hSl:(srt (tms l i (basis p l i car))).length=(basis p l i car).length:=by rw[srt_len,tms_len]
 have h103:=c103 (bs:=[]) hp hok hc hi hcar
 have h66:=c66 (bs:=[]) (p:=p) hcar (i:=i) (by omega)
 have h67:=c67 (bs:=[]) (p:=p) hmb (by omega)
 have k4:callable Tryz.prog 104=true:=by kernel_rfl
 have k5:callable Tryz.prog 105=true:=by kernel_rfl
 have k6:callable Tryz.prog 106=true:=by kernel_rfl
 have k7:callable Tryz.prog 107=true:=by kernel_rfl
 have hd:noids [evD p l,In car,In i]=true:=by simp[noids,ev_noid,D.noid]
 unfold timeN
 rcases hmk with hmk | hmk | hmk
 ·rw[if_pos hmk]
  have hW:FSpecW Tryz.prog 56 (.st []) [evD p l,In car,In i] (I (tmK l i car)) (.st []):=by
   refine ku56.W rfl ?_
   unfold u56
   simp only[ups_cons,ups_nil,List.cons_append,List.nil_append]
   repeat' (first|(apply u_chk;rfl)|(apply u_eaddr;rfl;rfl;(·first|exact ea_cd hcar|exact ea_ln (by omega));simp only[sbe];rfl)|(apply u_ev;rfl;simp only[sbe];rfl)|(apply u_call;rfl;rfl;(·first|exact h103|exact h66);rfl;simp only[sbe];rfl)|refine u_join ?_|(apply u_ite;rfl;all_goals (intro hz;(try simp only[sbs] at hz);first|(exact absurd hz (by decide))|(exfalso;omega)|skip))|(apply u_ret;rfl;first|exact rfl|(refine retB ?_)|(refine retI ?_)|(refine retD ?_)))
  exact hW.melt (n:=1) hd rfl bs
 ·rw[if_neg (by omega),if_pos hmk]
  unfold notN
  by_cases h0:(basis p l i car).length=0
  ·rw[if_pos h0]
   have hW:FSpecW Tryz.prog 56 (.st []) [evD p l,In car,In i] (I 0) (.st []):=by
    refine ku56.W rfl ?_
    unfold u56
    simp only[ups_cons,ups_nil,List.cons_append,List.nil_append]
    repeat' (first|(apply nrm;simp only[sbe];rfl)|(apply u_chk;rfl)|(apply u_eaddr;rfl;rfl;(·first|exact ea_cd hcar|exact ea_ln (by omega));simp only[sbe];rfl)|(apply u_lenL;rfl;exact lenL_map;simp only[sbe];rfl)|(apply u_ev;rfl;simp only[sbe];rfl)|(apply u_call;rfl;rfl;exact h103;rfl;simp only[sbe];rfl)|refine u_join ?_|(apply u_jump;rfl;rfl)|refine at_jump ?_|refine kj rfl ?_|(apply u_ite;rfl;all_goals (intro hz;(try simp only[sbs] at hz);first|(exact absurd hz (by decide))|(exfalso;omega)|skip))|exact u_ret rfl rfl)
   exact hW.melt (n:=1) hd rfl bs
  ·rw[if_neg h0]
   obtain h1 | h1 | h1 | h1:p.notional=1∨p.notional=2∨p.notional=4∨p.notional=3:=by omega
   ·rw[if_pos h1]
    refine meltV (st:=[.blk 129 5 [.v .nilFunc,.fn 104 [evD p l] [],.fn 105 [evD p l] [],.fn 106 [evD p l] [],.fn 107 [evD p l] []]]) ?_ hd bs
    refine ku56.W rfl ?_
    unfold u56
    simp only[ups_cons,ups_nil,List.cons_append,List.nil_append]
    have hm4:∀x y:D,D.m4 (.elemA 5 1) (.loc 0 0) (I p.notional) x y=some (.loc 0 1):=fun x y=>by rw[h1];rfl
    repeat' (first|(apply nrm;simp only[sbe];rfl)|(apply u_chk;rfl)|(apply u_eaddr;rfl;rfl;(·first|exact ea_cd hcar|exact ea_ln (by omega));simp only[sbe];rfl)|(apply u_m4;rfl;rfl;rfl;rfl;exact hm4 _ _;simp only[sbe];rfl)|(apply u_lenL;rfl;exact lenL_map;simp only[sbe];rfl)|(apply u_ev;rfl;simp only[sbe];rfl)|(apply u_call;rfl;rfl;exact h103;rfl;simp only[sbe];rfl)|(apply u_callv;rfl;exact k4;rfl;rfl;(·exact c104 hok hc hi (by omega));rfl;simp only[sbe];rfl)|refine u_join ?_|(apply u_jump;rfl;rfl)|refine at_jump ?_|refine kj rfl ?_|(apply u_ite;rfl;all_goals (intro hz;(try simp only[sbs] at hz);first|(exact absurd hz (by decide))|(exfalso;omega)|skip))|exact u_ret rfl rfl)
   ·rw[if_neg (by omega),if_pos h1]
    refine meltV (st:=[.blk 129 5 [.v .nilFunc,.fn 104 [evD p l] [],.fn 105 [evD p l] [],.fn 106 [evD p l] [],.fn 107 [evD p l] []]]) ?_ hd bs
    refine ku56.W rfl ?_
    unfold u56
    simp only[ups_cons,ups_nil,List.cons_append,List.nil_append]
    have hm4:∀x y:D,D.m4 (.elemA 5 1) (.loc 0 0) (I p.notional) x y=some (.loc 0 2):=fun x y=>by rw[h1];rfl
    repeat' (first|(apply nrm;simp only[sbe];rfl)|(apply u_chk;rfl)|(apply u_eaddr;rfl;rfl;(·first|exact ea_cd hcar|exact ea_ln (by omega));simp only[sbe];rfl)|(apply u_m4;rfl;rfl;rfl;rfl;exact hm4 _ _;simp only[sbe];rfl)|(apply u_lenL;rfl;exact lenL_map;simp only[sbe];rfl)|(apply u_ev;rfl;simp only[sbe];rfl)|(apply u_call;rfl;rfl;exact h103;rfl;simp only[sbe];rfl)|(apply u_callv;rfl;exact k5;rfl;rfl;(·exact c105 hok hc hi (by omega));rfl;simp only[sbe];rfl)|refine u_join ?_|(apply u_jump;rfl;rfl)|refine at_jump ?_|refine kj rfl ?_|(apply u_ite;rfl;all_goals (intro hz;(try simp only[sbs] at hz);first|(exact absurd hz (by decide))|(exfalso;omega)|skip))|exact u_ret rfl rfl)
   ·rw[if_neg (by omega),if_neg (by omega),if_pos h1]
    refine meltV (st:=[.blk 129 5 [.v .nilFunc,.fn 104 [evD p l] [],.fn 105 [evD p l] [],.fn 106 [evD p l] [],.fn 107 [evD p l] []]]) ?_ hd bs
    refine ku56.W rfl ?_
    unfold u56
    simp only[ups_cons,ups_nil,List.cons_append,List.nil_append]
    have hm4:∀x y:D,D.m4 (.elemA 5 1) (.loc 0 0) (I p.notional) x y=some (.loc 0 4):=fun x y=>by rw[h1];rfl
    repeat' (first|(apply nrm;simp only[sbe];rfl)|(apply u_chk;rfl)|(apply u_eaddr;rfl;rfl;(·first|exact ea_cd hcar|exact ea_ln (by omega));simp only[sbe];rfl)|(apply u_m4;rfl;rfl;rfl;rfl;exact hm4 _ _;simp only[sbe];rfl)|(apply u_lenL;rfl;exact lenL_map;simp only[sbe];rfl)|(apply u_ev;rfl;simp only[sbe];rfl)|(apply u_call;rfl;rfl;exact h103;rfl;simp only[sbe];rfl)|(apply u_callv;rfl;exact k7;rfl;rfl;(·exact c107 hok hc hi (by omega));rfl;simp only[sbe];rfl)|refine u_join ?_|(apply u_jump;rfl;rfl)|refine at_jump ?_|refine kj rfl ?_|(apply u_ite;rfl;all_goals (intro hz;(try simp only[sbs] at hz);first|(exact absurd hz (by decide))|(exfalso;omega)|skip))|exact u_ret rfl rfl)
   ·rw[if_neg (by omega),if_neg (by omega),if_neg (by omega)]
    refine meltV (st:=[.blk 129 5 [.v .nilFunc,.fn 104 [evD p l] [],.fn 105 [evD p l] [],.fn 106 [evD p l] [],.fn 107 [evD p l] []]]) ?_ hd bs
    refine ku56.W rfl ?_
    unfold u56
    simp only[ups_cons,ups_nil,List.cons_append,List.nil_append]
    have hm4:∀x y:D,D.m4 (.elemA 5 1) (.loc 0 0) (I p.notional) x y=some (.loc 0 3):=fun x y=>by rw[h1];rfl
    repeat' (first|(apply nrm;simp only[sbe];rfl)|(apply u_chk;rfl)|(apply u_eaddr;rfl;rfl;(·first|exact ea_cd hcar|exact ea_ln (by omega));simp only[sbe];rfl)|(apply u_m4;rfl;rfl;rfl;rfl;exact hm4 _ _;simp only[sbe];rfl)|(apply u_lenL;rfl;exact lenL_map;simp only[sbe];rfl)|(apply u_ev;rfl;simp only[sbe];rfl)|(apply u_call;rfl;rfl;exact h103;rfl;simp only[sbe];rfl)|(apply u_callv;rfl;exact k6;rfl;rfl;(·exact c106 hok hc hi hcar (by omega));rfl;simp only[sbe];rfl)|refine u_join ?_|(apply u_jump;rfl;rfl)|refine at_jump ?_|refine kj rfl ?_|(apply u_ite;rfl;all_goals (intro hz;(try simp only[sbs] at hz);first|(exact absurd hz (by decide))|(exfalso;omega)|skip))|exact u_ret rfl rfl)
 ·rw[if_neg (by omega),if_neg (by omega)]
  by_cases h0:(basis p l i car).length=0
  ·rw[if_neg (by omega),Int.zero_add]
   have hW:FSpecW Tryz.prog 56 (.st []) [evD p l,In car,In i] (I p.missed) (.st []):=by
    refine ku56.W rfl ?_
    unfold u56
    simp only[ups_cons,ups_nil,List.cons_append,List.nil_append]
    repeat' (first|(apply u_chk;rfl)|(apply u_eaddr;rfl;rfl;(·first|exact ea_cd hcar|exact ea_ln (by omega));simp only[sbe];rfl)|(apply u_lenL;rfl;exact lenL_map;simp only[sbe];rfl)|(apply u_ev;rfl;simp only[sbe];rfl)|(apply u_call;rfl;rfl;exact h103;rfl;simp only[sbe];rfl)|refine u_join ?_|(apply u_ite;rfl;all_goals (intro hz;(try simp only[sbs] at hz);first|(exact absurd hz (by decide))|(exfalso;omega)|skip))|(apply u_ret;rfl;first|exact rfl|(refine retB ?_)|(refine retI ?_)|(refine retD ?_)))
   exact hW.melt (n:=1) hd rfl bs
  ·rw[if_pos (by omega)]
   have hg0:D.eaddr 1 (Is (srt (tms l i (basis p l i car)))) (I 0)=some (.ptr [I (least l i (basis p l i car))]):=is_get (i:=0) (by omega)
   have hW:FSpecW Tryz.prog 56 (.st []) [evD p l,In car,In i] (I (least l i (basis p l i car)+p.missed)) (.st []):=by
    refine ku56.W rfl ?_
    unfold u56
    simp only[ups_cons,ups_nil,List.cons_append,List.nil_append]
    repeat' (first|(apply u_chk;rfl)|(apply u_eaddr;rfl;rfl;(·first|exact ea_cd hcar|exact ea_ln (by omega)|exact hg0);simp only[sbe];rfl)|(apply u_lenL;rfl;exact lenL_map;simp only[sbe];rfl)|(apply u_add;rfl;rfl;omega;simp only[sbe];rfl)|(apply u_ev;rfl;simp only[sbe];rfl)|(apply u_call;rfl;rfl;(·first|exact h103|exact h67);rfl;simp only[sbe];rfl)|refine u_join ?_|(apply u_ite;rfl;all_goals (intro hz;(try simp only[sbs] at hz);first|(exact absurd hz (by decide))|(exfalso;omega)|skip))|(apply u_ret;rfl;first|exact rfl|(refine retB ?_)|(refine retI ?_)|(refine retD ?_)))
   exact hW.melt (n:=1) hd rfl bs

end Go.Am.Sc

/-
 Penalties,false starts and totals,in the program;Time and Total.
-/
namespace Go.Am.Sc
open Go.Proofs
set_option maxRecDepth 100000
set_option maxHeartbeats 4000000

attribute [local irreducible] inR allR lineOk

variable {bs:List D} {p:Plan} {c:Card} {l:List Card}

def penC (p:Plan)(c:Card)(i:Nat):Int:=lateN p c i*p.late+earlyN p c i*p.early

theorem c108 (hok:p.ok=true)(hc:cardsOk p l=true){i car:Nat}(hi:i<p.n)(hcar:car<l.length):FSpecR Tryz.prog 108 (.st bs) [evD p l,In car,In i] (.tup [I (sideK p (cd l car) i),I (penC p (cd l car) i)]):=by
 have h:=(cards_ok hc).2 car hcar
 have hd:=h.due hok hi
 have hm:=h.minute hi
 have hr:=Plan.ok_rules hok
 have h119:=c119 (bs:=bs) hok h hi
 by_cases hct:ctl p (cd l car) i=true
 ·rcases Int.lt_trichotomy (dueA p (cd l car) i) ((cd l car).ln i).minute with h1 | h1 | h1
  ·have hk:sideK p (cd l car) i=1:=by rw[sideK,if_pos hct,if_pos h1]
   have hn:sideN p (cd l car) i=((cd l car).ln i).minute-dueA p (cd l car) i:=by rw[sideN,if_pos hct,if_pos h1]
   have hp1:penC p (cd l car) i=(((cd l car).ln i).minute-dueA p (cd l car) i)*p.late:=by
    have hl:lateN p (cd l car) i=((cd l car).ln i).minute-dueA p (cd l car) i:=by rw[lateN,if_pos hct];omega
    have he:earlyN p (cd l car) i=0:=by unfold earlyN;split <;> omega
    rw[penC,hl,he,Int.zero_mul,Int.add_zero]
   have hmul:=mul_bd (a:=((cd l car).ln i).minute-dueA p (cd l car) i) (x:=200000) (by omega) hr.1
   rw[hk,hn] at h119
   rw[hk,hp1]
   refine ku108.R rfl rfl ?_
   unfold u108
   simp only[ups_cons,ups_nil,List.cons_append,List.nil_append]
   repeat' (first|(apply u_iteT;rfl;exact rfl)|(apply u_chk;rfl)|(apply u_eaddr;rfl;rfl;exact ea_cd hcar;simp only[sbe];rfl)|(apply u_bin;rfl;rfl;(·exact bin_mul (by omega));simp only[sbe];rfl)|(apply u_ev;rfl;simp only[sbe];rfl)|(apply u_call;rfl;rfl;exact h119;rfl;simp only[sbe];rfl)|refine u_join ?_|(apply u_ret;rfl;first|exact rfl|(refine retB ?_)|(refine retI ?_)|(refine retD ?_)))
  ·have hk:sideK p (cd l car) i=0:=by rw[sideK,if_pos hct,if_neg (by omega),if_neg (by omega)]
   have hp1:penC p (cd l car) i=0:=by
    have hl:lateN p (cd l car) i=0:=by rw[lateN,if_pos hct];omega
    have he:earlyN p (cd l car) i=0:=by unfold earlyN;split <;> omega
    rw[penC,hl,he,Int.zero_mul,Int.zero_mul];rfl
   rw[hk] at h119
   rw[hk,hp1]
   refine ku108.R rfl rfl ?_
   unfold u108
   simp only[ups_cons,ups_nil,List.cons_append,List.nil_append]
   repeat' (first|(apply nrm;simp only[sbe];rfl)|(apply u_andF;rfl;exact rfl)|(apply u_iteF;rfl;exact rfl)|(apply u_chk;rfl)|(apply u_eaddr;rfl;rfl;exact ea_cd hcar;simp only[sbe];rfl)|(apply u_ev;rfl;simp only[sbe];rfl)|(apply u_call;rfl;rfl;exact h119;rfl;simp only[sbe];rfl)|refine u_join ?_|(apply u_jump;rfl;rfl)|refine at_jump ?_|refine kj rfl ?_|exact u_ret rfl rfl)
  ·have hk:sideK p (cd l car) i=2:=by rw[sideK,if_pos hct,if_neg (by omega),if_pos (by omega)]
   have hn:sideN p (cd l car) i=dueA p (cd l car) i-((cd l car).ln i).minute:=by rw[sideN,if_pos hct,if_neg (by omega)]
   have hl:lateN p (cd l car) i=0:=by rw[lateN,if_pos hct];omega
   have hmul:=mul_bd (a:=dueA p (cd l car) i-((cd l car).ln i).minute) (x:=200000) (by omega) hr.2.1
   rw[hk,hn] at h119
   rw[hk]
   cases hf:(p.it i).free
   ·have he:earlyN p (cd l car) i=dueA p (cd l car) i-((cd l car).ln i).minute:=by
     rw[earlyN,if_pos (by rw[hct,hf];rfl)];omega
    have hfr:(true&&!(p.it i).free)=true:=by rw[hf];rfl
    rw[penC,hl,he,Int.zero_mul,Int.zero_add]
    refine ku108.R rfl rfl ?_
    unfold u108
    simp only[ups_cons,ups_nil,List.cons_append,List.nil_append]
    repeat' (first|(apply nrm;simp only[sbe];rfl)|(apply u_iteT;rfl;exact hfr)|(apply u_iteF;rfl;exact rfl)|(apply u_chk;rfl)|(apply u_eaddr;rfl;rfl;(·first|exact ea_cd hcar|exact ea_it hi);simp only[sbe];rfl)|(apply u_bin;rfl;rfl;(·exact bin_mul (by omega));simp only[sbe];rfl)|(apply u_ev;rfl;simp only[sbe];rfl)|(apply u_call;rfl;rfl;exact h119;rfl;simp only[sbe];rfl)|(apply u_and;rfl)|refine u_join ?_|exact u_ret rfl rfl|(apply u_ret;rfl;first|exact rfl|(refine retB ?_)|(refine retI ?_)|(refine retD ?_))|(intro hz;(try simp only[sbs] at hz)))
   ·have he:earlyN p (cd l car) i=0:=by rw[earlyN,if_neg (by rw[hf];simp)]
    have hfr:(true&&!(p.it i).free)=false:=by rw[hf];rfl
    rw[penC,hl,he,Int.zero_mul,Int.zero_mul]
    refine ku108.R rfl rfl ?_
    unfold u108
    simp only[ups_cons,ups_nil,List.cons_append,List.nil_append]
    repeat' (first|(apply nrm;simp only[sbe];rfl)|(apply u_iteF;rfl;(·first|exact rfl|exact hfr))|(apply u_chk;rfl)|(apply u_eaddr;rfl;rfl;(·first|exact ea_cd hcar|exact ea_it hi);simp only[sbe];rfl)|(apply u_ev;rfl;simp only[sbe];rfl)|(apply u_call;rfl;rfl;exact h119;rfl;simp only[sbe];rfl)|(apply u_and;rfl)|refine u_join ?_|(apply u_jump;rfl;rfl)|refine at_jump ?_|refine kj rfl ?_|exact u_ret rfl rfl|(intro hz;(try simp only[sbs] at hz)))
 ·have hk:sideK p (cd l car) i=0:=by rw[sideK,if_neg hct]
  have hp1:penC p (cd l car) i=0:=by
   have hl:lateN p (cd l car) i=0:=by rw[lateN,if_neg hct]
   have he:earlyN p (cd l car) i=0:=by rw[earlyN,if_neg (by simp[hct])]
   rw[penC,hl,he,Int.zero_mul,Int.zero_mul];rfl
  rw[hk] at h119
  rw[hk,hp1]
  refine ku108.R rfl rfl ?_
  unfold u108
  simp only[ups_cons,ups_nil,List.cons_append,List.nil_append]
  repeat' (first|(apply nrm;simp only[sbe];rfl)|(apply u_andF;rfl;exact rfl)|(apply u_iteF;rfl;exact rfl)|(apply u_chk;rfl)|(apply u_eaddr;rfl;rfl;exact ea_cd hcar;simp only[sbe];rfl)|(apply u_ev;rfl;simp only[sbe];rfl)|(apply u_call;rfl;rfl;exact h119;rfl;simp only[sbe];rfl)|refine u_join ?_|(apply u_jump;rfl;rfl)|refine at_jump ?_|refine kj rfl ?_|exact u_ret rfl rfl)

theorem c123 (hc:cardsOk p l=true){car n:Nat}{m:Int}(hm:m+1=n)(hn:n≤p.n)(hN:p.n≤100)(hcar:car<l.length):FSpecR Tryz.prog 123 (.st bs) [evD p l,In car,I m] (Ix (jmpTo p (cd l car) n)):=by
 have h:=(cards_ok hc).2 car hcar
 have hln:=h.len
 have hadd:D.bin .add .int (I m) (I 1)=some (In n):=by
  show some (I (IntKind.i64.wrap (m+1)))=_
  rw[hm,wrap64 (by omega)]
 refine ku123.R rfl rfl ?_
 unfold u123
 simp only[ups_cons,ups_nil,List.cons_append,List.nil_append]
 repeat' (first|(apply u_bin;rfl;rfl;exact hadd;simp only[sbe];rfl)|refine u_join ?_)
 refine u_range (fun k=>[Ix (jmpTo p (cd l car) k),In k]) (fun _=>True) n rfl (fun _=>rfl) trivial (fun k hk _ R hR=>?_) (fun _ R=>?_)
 ·have hlk:decide ((k:Int)<(n:Int))=true:=by simp;omega
  have hR:=hR trivial
  rw[jmpTo_succ] at hR
  have h55:=c55 (bs:=bs) (p:=p) hcar k
  have happ:=app_ix (xs:=jmpTo p (cd l car) k) (x:=k) (by have:=jmpTo_le (p:=p) (c:=cd l car) (n:=k);omega)
  cases hj:(((cd l car).ln k).jump&&runsB p (cd l car) k)
  ·rw[if_neg (by simp[hj])] at hR
   repeat' (first|(apply nrm;simp only[sbe];rfl)|(apply u_iteT;rfl;exact hlk)|(apply u_iteF;rfl;exact hj)|(apply u_chk;rfl)|(apply u_eaddr;rfl;rfl;(·first|exact ea_cd hcar|exact ea_ln (by omega));simp only[sbe];rfl)|(apply u_inc;rfl;omega;simp only[sbe];rfl)|(apply u_ev;rfl;simp only[sbe];rfl)|(apply u_call;rfl;rfl;exact h55;rfl;simp only[sbe];rfl)|(apply u_and;rfl)|refine u_join ?_|(apply u_jump;rfl;rfl)|refine at_jump ?_|refine kj rfl ?_|exact u_ret rfl rfl|(intro hz;(try simp only[sbs] at hz)))
   exact hR
  ·rw[if_pos hj] at hR
   repeat' (first|(apply nrm;simp only[sbe];rfl)|(apply u_iteT;rfl;(·first|exact hlk|exact hj))|(apply u_chk;rfl)|(apply u_eaddr;rfl;rfl;(·first|exact ea_cd hcar|exact ea_ln (by omega));simp only[sbe];rfl)|(apply u_app;rfl;rfl;exact happ;simp only[sbe];rfl)|(apply u_inc;rfl;omega;simp only[sbe];rfl)|(apply u_ev;rfl;simp only[sbe];rfl)|(apply u_call;rfl;rfl;exact h55;rfl;simp only[sbe];rfl)|(apply u_and;rfl)|refine u_join ?_|(apply u_jump;rfl;rfl)|refine at_jump ?_|refine kj rfl ?_|exact u_ret rfl rfl|(intro hz;(try simp only[sbs] at hz)))
   exact hR
 ·have hlf:decide ((n:Int)<(n:Int))=false:=by simp
  repeat' (first|(apply nrm;simp only[sbe];rfl)|(apply u_iteF;rfl;exact hlf)|(apply u_ev;rfl;simp only[sbe];rfl)|(apply u_jump;rfl;rfl)|refine at_jump ?_|(refine over_jump (by decide) ?_)|refine kj rfl ?_|exact u_ret rfl rfl)

theorem c109 (hok:p.ok=true)(hc:cardsOk p l=true){i car:Nat}(hi:i<p.n)(hcar:car<l.length)(hj:((cd l car).ln i).jump=true)(hr:runsB p (cd l car) i=true):FSpecR Tryz.prog 109 (.st bs) [evD p l,In car,In i] (I (jumpN p (cd l car) i)):=by
 have hh:=Plan.ok_head hok
 have hru:=Plan.ok_rules hok
 have h123:=c123 (bs:=bs) hc (car:=car) (n:=i+1) (m:=i) (by omega) (by omega) hh.1.2 hcar
 have hlen:(jmpTo p (cd l car) (i+1)).length=jumpK (cd l car) i+1:=by
  rw[jmpTo_len (.inr (by rwa [show((i+1:Nat):Int)-1=i by omega])),jumpK,if_pos hj]
 have hll:D.lenL (Ix (jmpTo p (cd l car) (i+1)))=some (In (jumpK (cd l car) i+1)):=by
  rw[←hlen]
  exact lenL_map
 have hmm:D.mm false (In (jumpK (cd l car) i+1)) (In p.jumps.length)=some (In (min (jumpK (cd l car) i) (p.jumps.length-1)+1)):=by
  rw[In,In,mm_min]
  congr 2
  omega
 have hle:=jumpK_le (c:=cd l car) i
 rw[jumpN,if_pos hj]
 refine ku109.R rfl rfl ?_
 unfold u109
 simp only[ups_cons,ups_nil,List.cons_append,List.nil_append]
 repeat' (first|(apply u_chk;rfl)|(apply u_eaddr;rfl;rfl;(·exact is_get (by omega));simp only[sbe];rfl)|(apply u_lenL;rfl;exact hll;simp only[sbe];rfl)|(apply u_mm;rfl;rfl;exact hmm;simp only[sbe];rfl)|(apply u_lenL;rfl;exact lenL_map;simp only[sbe];rfl)|(apply u_pred;rfl;omega;simp only[sbe];rfl)|(apply u_ev;rfl;simp only[sbe];rfl)|(apply u_call;rfl;rfl;exact h123;rfl;simp only[sbe];rfl)|exact u_ret rfl rfl)

theorem c57 (hp:p.Ok)(hok:p.ok=true)(hc:cardsOk p l=true){car:Nat}(hcar:car<l.length):FSpecR Tryz.prog 57 (.st bs) [evD p l,In car] (I (totN p l car)):=by
 have hh:=Plan.ok_head hok
 have hcs:=cards_ok hc
 have h:=hcs.2 car hcar
 have hln:=h.len
 refine ku57.R rfl rfl ?_
 unfold u57
 simp only[ups_cons,ups_nil,List.cons_append,List.nil_append]
 repeat' (first|(apply u_chk;rfl)|(apply u_lenL;rfl;exact ln_it;simp only[sbe];rfl)|(apply u_ev;rfl;simp only[sbe];rfl)|refine u_join ?_)
 refine u_range (fun i=>[I (totTo p l car i),In i]) (fun _=>True) p.n rfl (fun _=>rfl) trivial (fun i hi _ R hR=>?_) (fun _ R=>?_)
 ·have hR:=hR trivial
  have hli:decide ((i:Int)<(p.n:Int))=true:=by simp;omega
  have h55:=c55 (bs:=bs) (p:=p) hcar i
  cases hr:runsB p (cd l car) i
  ·rw[hr] at h55
   repeat' (first|(apply nrm;simp only[sbe];rfl)|(apply u_iteT;rfl;(·first|exact hli|exact rfl))|(apply u_ev;rfl;simp only[sbe];rfl)|(apply u_call;rfl;rfl;exact h55;rfl;simp only[sbe];rfl)|refine u_join ?_|(apply u_jump;rfl;rfl)|refine at_jump ?_|(refine over_jump (by decide) ?_)|refine kj rfl ?_|(apply u_ret;rfl;first|exact rfl|(refine retB ?_)|(refine retI ?_)|(refine retD ?_)))
   rw[totN,totTo_stop (Nat.le_of_lt hi) hr]
  ·rw[hr] at h55
   rw[totTo,if_pos hr] at hR
   have hb:=totTo_bd hok hc hcar (i:=i) (by omega)
   have hkd:=Plan.ok_kind hok hi
   have h54:=c54 (bs:=bs) (p:=p) (l:=l) hi
   have h56:=c56 (bs:=bs) hp hok hc hi hcar
   have h108:=c108 (bs:=bs) hok hc hi hcar
   have hb1:=timeN_bd hok hc hi hcar
   have hb2:=jumpN_bd hok (cd l car) i
   have hb3:=mul_bd (h.late hok hi) (Plan.ok_rules hok).1
   have hb4:=mul_bd (h.early hok hi) (Plan.ok_rules hok).2.1
   cases hk:(p.it i).kind==2
   ·have hj:=h.nojump hi (by simp at hk;omega)
    rw[costN,if_neg (by simpa using hk)] at hR
    rw[hk] at h54
    have hpc:penC p (cd l car) i=lateN p (cd l car) i*p.late+earlyN p (cd l car) i*p.early:=rfl
    repeat' (first|(apply nrm;simp only[sbe];rfl)|(apply u_iteT;rfl;exact hli)|(apply u_iteF;rfl;(·first|exact rfl|exact hj))|(apply u_chk;rfl)|(apply u_eaddr;rfl;rfl;(·first|exact ea_cd hcar|exact ea_ln (by omega));simp only[sbe];rfl)|(apply u_inc;rfl;omega;simp only[sbe];rfl)|(apply u_add;rfl;rfl;omega;simp only[sbe];rfl)|(apply u_ev;rfl;simp only[sbe];rfl)|(apply u_call;rfl;rfl;(·first|exact h55|exact h54|exact h108);rfl;simp only[sbe];rfl)|refine u_join ?_|(apply u_jump;rfl;rfl)|refine at_jump ?_|refine kj rfl ?_)
    exact hR
   ·have hct:ctl p (cd l car) i=false:=by simp at hk;simp[ctl,hk]
    have hpc:penC p (cd l car) i=0:=by simp[penC,lateN,earlyN,hct]
    rw[hk] at h54
    rw[hpc] at h108
    rw[costN,if_pos (by simpa using hk)] at hR
    cases hj:((cd l car).ln i).jump
    ·have hjn:jumpN p (cd l car) i=0:=by rw[jumpN,if_neg (by simp[hj])]
     rw[hjn] at hR
     repeat' (first|(apply nrm;simp only[sbe];rfl)|(apply u_iteT;rfl;(·first|exact hli|exact rfl))|(apply u_iteF;rfl;(·first|exact rfl|exact hj))|(apply u_chk;rfl)|(apply u_eaddr;rfl;rfl;(·first|exact ea_cd hcar|exact ea_ln (by omega));simp only[sbe];rfl)|(apply u_inc;rfl;omega;simp only[sbe];rfl)|(apply u_add;rfl;rfl;omega;simp only[sbe];rfl)|(apply u_ev;rfl;simp only[sbe];rfl)|(apply u_call;rfl;rfl;(·first|exact h55|exact h54|exact h56|exact h108);rfl;simp only[sbe];rfl)|refine u_join ?_|(apply u_jump;rfl;rfl)|refine at_jump ?_|refine kj rfl ?_)
     rwa [Int.add_zero] at hR ⊢
    ·have h109:=c109 (bs:=bs) hok hc hi hcar hj hr
     repeat' (first|(apply nrm;simp only[sbe];rfl)|(apply u_iteT;rfl;(·first|exact hli|exact rfl|exact hj))|(apply u_iteF;rfl;exact rfl)|(apply u_chk;rfl)|(apply u_eaddr;rfl;rfl;(·first|exact ea_cd hcar|exact ea_ln (by omega));simp only[sbe];rfl)|(apply u_inc;rfl;omega;simp only[sbe];rfl)|(apply u_add;rfl;rfl;omega;simp only[sbe];rfl)|(apply u_ev;rfl;simp only[sbe];rfl)|(apply u_call;rfl;rfl;(·first|exact h55|exact h54|exact h56|exact h108|exact h109);rfl;simp only[sbe];rfl)|refine u_join ?_|(apply u_jump;rfl;rfl)|refine at_jump ?_|refine kj rfl ?_)
     rw[Int.add_zero,Int.add_assoc]
     exact hR
 ·have hlf:decide ((p.n:Int)<(p.n:Int))=false:=by simp
  repeat' (first|(apply nrm;simp only[sbe];rfl)|(apply u_iteF;rfl;exact hlf)|(apply u_ev;rfl;simp only[sbe];rfl)|(apply u_jump;rfl;rfl)|refine at_jump ?_|(refine over_jump (by decide) ?_)|refine kj rfl ?_|exact u_ret rfl rfl)
  all_goals exact rfl

end Go.Am.Sc

/-
 Time and Total;the law of times.
-/
namespace Go.Am.Sc
open Go.Proofs
set_option maxRecDepth 100000
set_option maxHeartbeats 4000000

attribute [local irreducible] inR allR lineOk

variable {bs:List D} {p:Plan} {c:Card} {l:List Card}

theorem c23_ok (hp:p.Ok)(hl:CardsOk l)(hok:p.ok=true)(hc:cardsOk p l=true){k:Nat}(hk:k<l.length):FSpecR Tryz.prog 23 (.st bs) [p.d,Cards l,In k] (.tup [I (totN p l k),I 0]):=by
 have h53:=c53_yes (bs:=bs) hp hl hok hc
 have hn:=(cards_ok hc).1
 have h46:=c46 (bs:=bs) k 0 (l.length-1)
 rw[inR_i (by omega)] at h46
 have h57:=c57 (bs:=bs) hp hok hc hk
 refine ku23.R rfl rfl ?_
 unfold u23
 simp only[ups_cons,ups_nil,List.cons_append,List.nil_append]
 repeat' (first|(apply nrm;simp only[sbe];rfl)|(apply u_iteF;rfl;exact rfl)|(apply u_chk;rfl)|(apply u_lenL;rfl;exact lenL_map;simp only[sbe];rfl)|(apply u_sub;rfl;rfl;omega;simp only[sbe];rfl)|(apply u_ev;rfl;simp only[sbe];rfl)|(apply u_call;rfl;rfl;(·first|exact h53|exact h46|exact h57);rfl;simp only[sbe];rfl)|(apply u_or;rfl)|exact u_ret rfl rfl|(intro hz;(try simp only[sbs] at hz)))

end Go.Am.Sc

/-
  The law of lateness, as a text.
-/
namespace Go.Am.Sc
open Go.Proofs

noncomputable def u11 : U := (ups [.chk (.aggN 14 y0),
  .call 15 y4 [(agc 14 y0)] [true],
  .ev (.un .not y5),
  .chain true y6 (ups [.call 16 y4 [y1, (ki 10)] [true],
  .ev (.un .not y7)]
  (.ret y8)),
  .chain true y7 (ups [.call 20 y4 [(agc 14 y0)] [true],
  .ev (.un .not y8)]
  (.ret y9)),
  .chain true y8 (ups [.call 24 y4 [(agc 14 y0), y1] [true],
  .ev (.un .not y9)]
  (.ret y10)),
  .chain true y9 (ups [.ev (.bin .lss .int y2 (ki 0))]
  (.ret y10)),
  .chain true y10 (ups [.ev (.lenL y1),
  .ev (.bin .geq .int y2 y11)]
  (.ret y12)),
  .chain true y11 (ups [.ev (.bin .lss .int y3 (ki 0))]
  (.ret y12)),
  .chain true y12 (ups [.chk (.cell 0 y0),
  .ev (.lenL (.cell 0 y0)),
  .ev (.bin .geq .int y3 y13)]
  (.ret y14))]
  (.ite y13 (ups [.call 17 y4 [] [true]]
  (.ret (.tcons y14 (.tcons y4 .tnil)))) (ups [.call 23 y4 [(agc 14 y0), y1, y2] [true, true],
  .ev (.bin .neq .int (.tget 1 y14) (ki 0))]
  (.ite y15 (.ret (.tcons (kb false) (.tcons y4 .tnil))) (ups [.join 0 1 (.loop 1 [(kb true), (ki 0)] (ups [.ev (.lenL y1),
  .ev (.bin .lss .int y17 y18)]
  (.ite y19 (ups [.join 2 1 (ups [.join 3 8 (.loop 4 [y16, (ki 0)] (ups [.ev (.eaddr 3 y1 y17),
  .chk (.padd 2 y22),
  .ev (.ld false 1 y4 (.padd 2 y22)),
  .ev (.lenL y23),
  .ev (.bin .lss .int y21 y24)]
  (.ite y25 (ups [.join 5 1 (ups [.chain false y20 (ups [.ev (.eaddr 3 y1 y17),
  .chk (.padd 2 y26),
  .ev (.ld false 1 y4 (.padd 2 y26)),
  .ev (.eaddr 4 y27 y21),
  .chk (.padd 3 y28),
  .ev (.ld false 1 y4 (.padd 3 y28)),
  .ev (.bin .eql .int y29 (ki 0))]
  (.ret y30))]
  (.jump 5 [y26] [])),
  .ev (.bin .add .int y21 (ki 1))]
  (.jump 4 [y26, y27] [])) (.jump 3 [y20, y21, y21, y22, (.padd 2 y22), y23, y24, y25] []))))]
  (.jump 2 [y20] [])),
  .ev (.bin .add .int y17 (ki 1))]
  (.jump 1 [y20, y21] [])) (.jump 0 [y16] [])))),
  .join 0 0 (.ite y16 (ups [.ev (.eaddr 3 y1 y2),
  .ev (.ld true 3 y4 y17),
  .ev (.lcons (.aggN 3 y18) (.const (.lst []))),
  .call 23 y4 [(agc 14 y0), y19, (ki 0)] [true, true],
  .ev (.bin .neq .int (.tget 1 y20) (ki 0)),
  .chain true y21 (ups [.chk (.tget 0 y20),
  .chk (.tget 0 y14),
  .ev (.bin .neq .int (.tget 0 y20) (.tget 0 y14))]
  (.ret y22))]
  (.ite y22 (.ret (.tcons (kb false) (.tcons y4 .tnil))) (.jump 0 [] []))) (.jump 0 [] [])),
  .ev (.eaddr 3 y1 y2),
  .ev (.ld true 3 y4 y17),
  .call 35 y4 [(agc 14 y0), y18, y3] [true, true],
  .ev (.bin .neq .int (.tget 1 y19) (ki 0)),
  .chain true y20 (ups [.ev (.eaddr 3 y1 y2),
  .chk (.padd 2 y21),
  .ev (.ld false 1 y4 (.padd 2 y21)),
  .ev (.eaddr 4 y22 y3),
  .chk (.padd 0 y23),
  .ev (.ld false 1 y4 (.padd 0 y23)),
  .chk (.tget 0 y19),
  .ev (.bin .lss .int y24 (.tget 0 y19))]
  (.ret y25)),
  .chain true y21 (ups [.ev (.eaddr 3 y1 y2),
  .chk (.padd 2 y22),
  .ev (.ld false 1 y4 (.padd 2 y22)),
  .ev (.eaddr 4 y23 y3),
  .chk (.padd 0 y24),
  .ev (.ld false 1 y4 (.padd 0 y24)),
  .ev (.bin .geq .int y25 (ki 100000))]
  (.ret y26))]
  (.ite y22 (ups [.call 17 y4 [] [true]]
  (.ret (.tcons y23 (.tcons y4 .tnil)))) (ups [.ev (.apph 31 3 56 y4 (.const .snil) y1),
  .ev (.eaddr 3 y1 y2),
  .chk (.padd 2 y24),
  .ev (.ld false 1 y23 (.padd 2 y24)),
  .ev (.apph 54 4 32 y23 (.const .snil) y25),
  .ev (.eaddr 3 (.apps y4 (.const .snil) y1) y2),
  .chk (.padd 2 y27),
  .ev (.sto 1 y26 (.padd 2 y27) (.apps y23 (.const .snil) y25)),
  .ev (.eaddr 3 (.apps y4 (.const .snil) y1) y2),
  .chk (.padd 2 y29),
  .ev (.ld false 1 y28 (.padd 2 y29)),
  .ev (.eaddr 4 y30 y3),
  .chk (.padd 0 y31),
  .ev (.ld false 1 y28 (.padd 0 y31)),
  .ev (.bin .add .int y32 (ki 1)),
  .ev (.eaddr 4 y30 y3),
  .chk (.padd 0 y34),
  .ev (.sto 1 y28 (.padd 0 y34) y33),
  .ev (.eaddr 3 y1 y2),
  .ev (.ld true 3 y35 y36),
  .call 36 y35 [(agc 14 y0), y37] [true, true],
  .ev (.eaddr 3 (.apps y4 (.const .snil) y1) y2),
  .ev (.ld true 3 y35 y39),
  .call 36 y35 [(agc 14 y0), y40] [true, true],
  .ev (.bin .neq .int (.tget 1 y38) (ki 0)),
  .chain true y42 (ups [.chk (.tget 1 y41),
  .ev (.bin .neq .int (.tget 1 y41) (ki 0))]
  (.ret y43))]
  (.ite y43 (.ret (.tcons (kb false) (.tcons y35 .tnil))) (ups [.ev (.bin .geq .int (.tget 0 y38) (ki 0)),
  .chain true y44 (ups [.chk (.tget 0 y41),
  .ev (.bin .geq .int (.tget 0 y41) (ki 0))]
  (.ret y45))]
  (.ite y45 (ups [.call 17 y35 [] [true]]
  (.ret (.tcons y46 (.tcons y35 .tnil)))) (ups [.call 23 y35 [(agc 14 y0), (.apps y4 (.const .snil) y1), y2] [true, true],
  .ev (.bin .eql .int (.tget 1 y46) (ki 0)),
  .chain false y47 (ups [.chk (.tget 0 y46),
  .chk (.tget 0 y14),
  .ev (.bin .geq .int (.tget 0 y46) (.tget 0 y14))]
  (.ret y48)),
  .chain false y48 (ups [.call 17 y35 [] [true]]
  (.ret y49))]
  (.ret (.tcons y49 (.tcons y35 .tnil))))))))))))))
theorem ku11 : UOk Tryz.prog 11 .plain (scf false [] [] Tryz.f11) [false, true, true, true] u11 := UOk.plain Tryz.func11 (by kernel_rfl) (by kernel_rfl)

end Go.Am.Sc

/-
 A car that reaches a control one minute later.
-/
namespace Go.Am.Sc

variable {p:Plan} {l l':List Card} {c:Card} {i:Nat}

def later (x:Line):Line:={ x with minute:=x.minute+1 }
def bump (c:Card)(i:Nat):Card:={ c with lines:=c.lines.set i (later (c.ln i)) }

theorem ln_bump (hi:i<c.lines.length)(k:Nat):(bump c i).ln k=if k=i then later (c.ln i) else c.ln k:=by
 unfold bump Card.ln
 simp only[List.getD]
 split
 ·rename_i h
  subst h
  simp[hi]
 ·rename_i h
  rw[List.getElem?_set_ne (fun e=>h e.symm)]

theorem mark_bump (hi:i<c.lines.length)(k:Nat):((bump c i).ln k).mark=(c.ln k).mark:=by
 rw[ln_bump hi]
 split
 ·rename_i h;rw[h];rfl
 ·rfl
theorem jump_bump (hi:i<c.lines.length)(k:Nat):((bump c i).ln k).jump=(c.ln k).jump:=by
 rw[ln_bump hi]
 split
 ·rename_i h;rw[h];rfl
 ·rfl

theorem cardOk_bump (hc:cardOk p c=true)(hi:i<p.n)(hk:(p.it i).kind=1)(hm:(c.ln i).mark≠2)(hlt:(c.ln i).minute<100000):cardOk p (bump c i)=true:=by
 have h:=cdOk hc
 have hil:i<c.lines.length:=by rw[h.len];exact hi
 simp only[cardOk,Bool.and_eq_true,beq_iff_eq] at hc ⊢
 obtain⟨h1,h2,h3,h4⟩:=hc
 refine⟨h1,h2,by simpa[bump] using h3,lines_of fun k hkn=>?_⟩
 have h5:=List.all_eq_true.1 h4 k (List.mem_range.2 hkn)
 unfold lnOk at h5 ⊢
 rw[mark_bump hil,mark_bump hil]
 rw[Bool.and_eq_true] at h5 ⊢
 refine⟨?_,h5.2⟩
 rw[ln_bump hil]
 split
 ·rename_i e
  subst e
  have h6:=h.minute hi
  have h7:=h5.1
  simp only[lineOk,Bool.and_eq_true,Bool.or_eq_true,beq_iff_eq,bne_iff_ne,decide_eq_true_eq,Bool.not_eq_true'] at h7
  have h8:(c.ln k).mark=0:=by omega
  have h9:=h7.2.2
  have h10:(c.ln k).time=0∧(c.ln k).jump=false:=by
   rcases h9 with h9 | h9 | h9
   ·rcases h9.2 with h9 | h9
    ·exact h9.2
    ·exact absurd hk h9.1
   ·omega
   ·omega
  have h11:inR ((c.ln k).minute+1) 0 100000=true:=inR_i (by omega)
  have h13:inR 0 0 36000000=true:=by decide
  simp[lineOk,later,h11,h13,h8,hk,h10.1,h10.2]
 ·exact h5.1

theorem cd_set {car:Nat}(h:car<l.length)(x:Card)(k:Nat):cd (l.set car x) k=if k=car then x else cd l k:=by
 unfold cd
 simp only[List.getD]
 split
 ·rename_i e
  subst e
  simp[h]
 ·rename_i e
  rw[List.getElem?_set_ne (fun h=>e h.symm)]

theorem timeN_congr {car:Nat}(hL:l'.length=l.length)(hln:∀j,(cd l' j).ln i=(cd l j).ln i)(hcl:∀j,(cd l' j).cls=(cd l j).cls)(hr:∀j,runsB p (cd l' j) i=runsB p (cd l j) i):timeN p l' car i=timeN p l car i:=by
 have h1:∀cls,isReal p l' i cls=isReal p l i cls:=fun cls=>by
  funext k
  simp only[isReal,hln,hcl,hr]
 have h2:∀cls,realN p l' i cls=realN p l i cls:=fun cls=>by rw[realN,realN,realTo,realTo,h1,hL]
 have h3:basis p l' i car=basis p l i car:=by rw[basis,basis,h2,h2,hcl]
 have h4:tmK l' i=tmK l i:=by funext k;simp only[tmK,hln]
 have h5:mnK l' i=mnK l i:=by funext k;simp only[mnK,hln]
 have h6:∀b,least l' i b=least l i b:=fun b=>by rw[least,least,tms,tms,h4]
 have h7:befF l' i=befF l i:=by
  funext a s k
  simp only[befF,h4,h5]
 unfold timeN notN
 rw[h3,h6,h7,h4,h5,hln]
 simp only[tms,h4]

variable {car:Nat}

theorem jumpN_bump (hi:i<c.lines.length)(k:Nat):jumpN p (bump c i) k=jumpN p c k:=by
 have:∀k,jumpK (bump c i) k=jumpK c k:=by
  intro k
  induction k with
  | zero=>rfl
  | succ k ih=>rw[jumpK,jumpK,ih,jump_bump hi]
 rw[jumpN,jumpN,this,jump_bump hi]

theorem due_bump (hi:i<c.lines.length)(k:Nat):dueA p c k≤dueA p (bump c i) k∧dueA p (bump c i) k≤dueA p c k+(if k=i+1 then 1 else 0):=by
 unfold dueA
 have hst:(bump c i).st=c.st:=rfl
 rw[hst,ln_bump hi]
 split
 ·rename_i h
  simp only[Bool.and_eq_true,bne_iff_ne] at h
  split
  ·rename_i e
   have:k=i+1:=by omega
   rw[if_pos this,e]
   simp only[later]
   omega
  ·rw[if_neg (by omega)]
   omega
 ·split <;> omega

theorem cost_bump (hp:p.ok=true)(h:CdOk p c)(hi:i<p.n)(hk:(p.it i).kind=1)(hm:(c.ln i).mark≠2)(hd:dueA p c i≤(c.ln i).minute)(k:Nat) :
  lateN p c k*p.late+earlyN p c k*p.early+(if k=i then p.late else 0)≤lateN p (bump c i) k*p.late+earlyN p (bump c i) k*p.early+(if k=i+1 then p.late else 0):=by
 have hil:i<c.lines.length:=by rw[h.len];exact hi
 have hr:=Plan.ok_rules hp
 have hb:=due_bump (p:=p) hil k
 have hctl:ctl p (bump c i) k=ctl p c k:=by rw[ctl,ctl,mark_bump hil]
 have hL:0≤p.late:=hr.1.1
 have hE:0≤p.early:=hr.2.1.1
 by_cases hki:k=i
 ·subst hki
  have hc:ctl p c k=true:=by simp[ctl,hk,hm]
  have hdd:dueA p (bump c k) k=dueA p c k:=by
   rw[if_neg (by omega)] at hb
   omega
  have hmn:((bump c k).ln k).minute=(c.ln k).minute+1:=by rw[ln_bump hil,if_pos rfl];rfl
  have h1:lateN p (bump c k) k=lateN p c k+1:=by
   rw[lateN,lateN,hctl,if_pos hc,if_pos hc,hdd,hmn]
   omega
  have h2:earlyN p c k=0:=by unfold earlyN;split <;> omega
  have h3:earlyN p (bump c k) k=0:=by
   unfold earlyN
   rw[hdd,hmn]
   split <;> omega
  rw[if_pos rfl,if_neg (by omega),h1,h2,h3,Int.add_mul]
  omega
 ·rw[if_neg hki]
  have hln:(bump c i).ln k=c.ln k:=by rw[ln_bump hil,if_neg hki]
  by_cases hk1:k=i+1
  ·rw[if_pos hk1] at hb ⊢
   have h1:lateN p c k≤lateN p (bump c i) k+1:=by
    rw[lateN,lateN,hctl,hln]
    split <;> omega
   have h2:earlyN p c k≤earlyN p (bump c i) k:=by
    rw[earlyN,earlyN,hctl,hln]
    split <;> omega
   have h3:=Int.mul_le_mul_of_nonneg_right h1 hL
   have h4:=Int.mul_le_mul_of_nonneg_right h2 hE
   rw[Int.add_mul] at h3
   omega
  ·rw[if_neg hk1] at hb ⊢
   have hdd:dueA p (bump c i) k=dueA p c k:=by omega
   have h1:lateN p (bump c i) k=lateN p c k:=by rw[lateN,lateN,hctl,hln,hdd]
   have h2:earlyN p (bump c i) k=earlyN p c k:=by rw[earlyN,earlyN,hctl,hln,hdd]
   rw[h1,h2]
   omega

theorem runs_of_out {c:Card}(h:outI p c<0)(k:Int):runsB p c k=true:=by simp[runsB,h]

theorem totTo_bump (hp:p.ok=true)(hc:cardsOk p l=true)(hcar:car<l.length)(hi:i<p.n)(hk:(p.it i).kind=1)(hm:((cd l car).ln i).mark≠2)(hd:dueA p (cd l car) i≤((cd l car).ln i).minute)(ho:outI p (cd l car)<0)(ho2:outI p (bump (cd l car) i)<0) :
  ∀n,n≤p.n→totTo p l car n+(if n=i+1 then p.late else 0)≤totTo p (l.set car (bump (cd l car) i)) car n
 | 0,_=>by rw[if_neg (by omega)];simp[totTo]
 | n+1,hn=>by
  have ih:=totTo_bump hp hc hcar hi hk hm hd ho ho2 n (by omega)
  have h:=(cards_ok hc).2 car hcar
  have hil:i<(cd l car).lines.length:=by rw[h.len];exact hi
  have hcd:cd (l.set car (bump (cd l car) i)) car=bump (cd l car) i:=by rw[cd_set hcar,if_pos rfl]
  rw[totTo,totTo,hcd,runs_of_out ho,runs_of_out ho2,if_pos rfl,if_pos rfl]
  have hL:0≤p.late:=(Plan.ok_rules hp).1.1
  have hcost:costN p l car n+(if n=i then p.late else 0)≤costN p (l.set car (bump (cd l car) i)) car n+(if n=i+1 then p.late else 0):=by
   rw[costN,costN,hcd]
   by_cases hs:(p.it n).kind=2
   ·have hni:n≠i:=fun e=>by rw[e] at hs;omega
    have ht:timeN p (l.set car (bump (cd l car) i)) car n=timeN p l car n:=timeN_congr (by simp) (fun j=>by
      rw[cd_set hcar]
      split
      ·rename_i e;rw[e,ln_bump hil,if_neg hni]
      ·rfl) (fun j=>by
      rw[cd_set hcar]
      split
      ·rename_i e;rw[e];rfl
      ·rfl) (fun j=>by
      rw[cd_set hcar]
      split
      ·rename_i e;rw[e,runs_of_out ho,runs_of_out ho2]
      ·rfl)
    rw[if_pos hs,if_pos hs,ht,jumpN_bump hil,if_neg hni]
    split <;> omega
   ·rw[if_neg hs,if_neg hs]
    exact cost_bump hp h hi hk hm hd n
  by_cases h1:n=i
  ·rw[if_pos (by omega)]
   rw[if_pos h1,if_neg (by omega)] at hcost
   rw[if_neg (by omega)] at ih
   omega
  ·rw[if_neg (by omega)]
   rw[if_neg h1] at hcost
   omega

theorem totTo_alone (hm:∀k,k<p.n→((cd l car).ln k).mark=0):∀n,n≤p.n→totTo p [cd l car] 0 n=totTo p l car n
 | 0,_=>rfl
 | n+1,hn=>by
  have e:cd [cd l car] 0=cd l car:=rfl
  have h:=hm n (by omega)
  have ht:timeN p [cd l car] 0 n=timeN p l car n:=by
   rw[timeN,timeN,e,if_pos h,if_pos h,tmK,tmK,e]
  rw[totTo,totTo,totTo_alone hm n (by omega),e,costN,costN,ht,e]

end Go.Am.Sc

/-
 A reader is called with what lies in the store: it reads what this melts to.
-/
namespace Go.Am.Sc

inductive Dry:D→Prop
 | v (x:Value):Dry (.v x)
 | tup {cs:List D} (h:∀c,c∈cs→∃x,c=.v x):Dry (.tup cs)

theorem Dry.rd {d:D}(hd:Dry d){w w':World}{S S':Sets}{v:Value}(h:RdD w S v d):RdD w' S' v d:=by
 cases hd with
 | v x=>cases h with | v hp=>exact .v hp
 | tup hc=>
  cases h with
  | tup hl hr=>
   refine .tup hl fun i u d hu hd=>?_
   obtain⟨x,rfl⟩:=hc d (List.mem_of_getElem? hd)
   have:=hr i u _ hu hd
   cases this with | v hp=>exact .v hp

theorem unmelt {P:Program}{f:FuncId}{ds ds':List D}{bs:List D}{n:Nat}{d:D}(h:FSpecR P f (.st []) ds' d)(hm:meltL (melt bs n) ds=some ds')(hd:Dry d):FSpecR P f (.st bs) ds d:=by
 intro w S foot bs0 vs hb hst hhold hfl hS hvl hrd
 cases hb
 let S0:Sets:={ mem:=(S.or fun b _=>foot b).mem,loc:=fun _=>0,n:=0,cap:=fun _=>0 }
 have hst0:StOk w S0 (fun _=>False) []:=⟨rfl,fun i e sz cs hi=>by simp at hi,fun b off hf=>hf.elim,fun i kvs hi=>by simp at hi,fun i j x y hi=>by simp at hi,fun i z hi=>by simp at hi⟩
 have hS0:∀b o,S0 b o→b<w.heap.size:=fun b o h=>by
  rcases h with h | h
  ·exact hS b o h
  ·exact hfl b h
 obtain⟨hl,hg⟩:=meltL_get hm
 refine(h w S0 (fun _=>False) [] vs rfl hst0 (fun l rec hl=>by cases hl) (fun _ hf=>hf.elim) hS0 (by rw[hvl,hl]) fun i v x' hv hx'=>?_).mono ?_
 ·obtain⟨x,hx,hmx⟩:=hg i x' hx'
  exact(melt_rd hst n n (Nat.le_refl _) (hrd i v x hv hx) hmx).free (fun _ _ h=>h) (melt_noid hmx)
 ·rintro e w' ⟨v,S',hends,hb,hle,hsn,hnew,hlt⟩
  exact⟨v,S,⟨hends.1,hd.rd hends.2⟩,hb,Sets.le_refl _,rfl,fun b o h=>.inl h,fun b o h=>Nat.lt_of_lt_of_le (hS b o h) hb.size⟩

end Go.Am.Sc
