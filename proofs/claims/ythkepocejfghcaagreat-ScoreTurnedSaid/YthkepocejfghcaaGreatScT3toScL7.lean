/-
  Several texts, one behind the other.
-/
import Derived.Test.YthkepocejfghcaaGreatScC1toScShelf
import Derived.Test.YthkepocejfghcaaGreatAmSortUtoAmRow
set_option linter.unusedSimpArgs false
set_option linter.unusedVariables false
/-
 The program's events: cards with where they are out;the cars with real times;sorted times.
-/
namespace Go.Am.Sc
open Go.Proofs
set_option maxRecDepth 100000
set_option maxHeartbeats 4000000

attribute [local irreducible] inR allR lineOk

variable {bs:List D} {p:Plan} {c:Card} {l:List Card}

def outs (p:Plan)(l:List Card):List Int:=l.map (outI p)

def evCl (p:Plan)(l:List Card)(s:D):List D:=[.lst (p.items.map Item.d),I p.classes,I p.late,I p.early,I p.maxLate,I p.legLate,Is p.jumps,B p.ret,I p.missed,I p.notional,I p.percent,I p.power,Is p.points,Is p.extra,Cards l,s]
def evD (p:Plan)(l:List Card):D:=.ptr (evCl p l (Is (outs p l)))

theorem outs_get {k:Nat}(h:k<l.length):D.eaddr 1 (Is (outs p l)) (In k)=some (.ptr [I (outI p (cd l k))]):=by
 have:=eaddr_get (enc:=I) (sz:=1) (xs:=outs p l) (i:=k) (by simpa[outs] using h) rfl
 have e:(outs p l)[k]'(by simpa[outs] using h)=outI p (cd l k):=by simp[outs,cd,List.getD,h]
 rw[e] at this
 exact this

theorem c55 {k:Nat}(h:k<l.length)(i:Int):FSpecR Tryz.prog 55 (.st bs) [evD p l,In k,I i] (B (runsB p (cd l k) i)):=by
 refine ku55.R rfl rfl ?_
 unfold u55
 simp only[ups_cons,ups_nil,List.cons_append,List.nil_append]
 repeat' (first|(apply nrm;simp only[sbe];rfl)|(apply u_chk;rfl)|(apply u_eaddr;rfl;rfl;exact outs_get h;simp only[sbe];rfl)|(apply u_ev;rfl;simp only[sbe];rfl)|(apply u_or;rfl)|exact u_ret rfl rfl|(intro hz;(try simp only[sbs] at hz)))

theorem c54 {i:Nat}(hi:i<p.n):FSpecR Tryz.prog 54 (.st bs) [evD p l,In i] (B ((p.it i).kind==2)):=by
 refine ku54.R rfl rfl ?_
 unfold u54
 simp only[ups_cons,ups_nil,List.cons_append,List.nil_append]
 repeat' (first|(apply u_chk;rfl)|(apply u_eaddr;rfl;rfl;exact ea_it hi;simp only[sbe];rfl)|(apply u_ev;rfl;simp only[sbe];rfl)|exact u_ret rfl rfl)

theorem c66 {k i:Nat}(hk:k<l.length)(hi:i<(cd l k).lines.length):FSpecR Tryz.prog 66 (.st bs) [evD p l,In k,In i] (I (tmK l i k)):=by
 refine ku66.R rfl rfl ?_
 unfold u66
 simp only[ups_cons,ups_nil,List.cons_append,List.nil_append]
 repeat' (first|(apply u_chk;rfl)|(apply u_eaddr;rfl;rfl;(·first|exact ea_cd hk|exact ea_ln hi);simp only[sbe];rfl)|(apply u_ev;rfl;simp only[sbe];rfl)|exact u_ret rfl rfl)


theorem c127 {P:Card→Bool}{f:Nat}{us cs:List D}{l:List Card}(hL:l.length≤maxLen)(hc:callable Tryz.prog f=true)(hf:∀x,x∈l→FSpecR Tryz.prog f (.st bs) (us++[Card.d x]++cs) (B (P x))):FSpecR Tryz.prog 127 (.st bs) [.lst (l.map Card.d),.fn f us cs] (I (fi P l)):=by
 have hL':l.length≤9223372036854775807:=hL
 refine ku127.R rfl rfl ?_
 unfold u127
 simp only[ups_cons,ups_nil,List.cons_append,List.nil_append]
 repeat' (first|(apply u_lenL;rfl;exact lenL_map;simp only[sbe];rfl)|refine u_join ?_)
 refine u_range (fun i=>[I i]) (fun i=>∀k (h:k<i) (h2:k<l.length),P l[k]=false) l.length rfl (fun _=>rfl) (fun k h=>absurd h (Nat.not_lt_zero _)) (fun i hi hJ R hR=>?_) (fun hJ R=>?_)
 ·have hcal:=hf l[i] (List.getElem_mem hi)
  have hli:decide ((i:Int)<(l.length:Int))=true:=by simp;omega
  cases hP:P l[i]
  ·rw[hP] at hcal
   repeat' (first|(apply nrm;simp only[sbe];rfl)|(apply u_iteT;rfl;exact hli)|(apply u_iteF;rfl;exact rfl)|(apply u_eaddr;rfl;rfl;exact eaddr_get hi rfl;simp only[sbe];rfl)|(apply u_add;rfl;rfl;omega;simp only[sbe];rfl)|(apply u_ev;rfl;simp only[sbe];rfl)|(apply u_callv;rfl;exact hc;rfl;rfl;exact hcal;rfl;simp only[sbe];rfl)|refine u_join ?_|(apply u_jump;rfl;rfl)|refine at_jump ?_|refine kj rfl ?_)
   refine hR fun k hk h2=>?_
   rcases Nat.lt_or_ge k i with h3 | h3
   ·exact hJ k h3 h2
   ·have e:k=i:=by omega
    subst e
    exact hP
  ·rw[hP] at hcal
   repeat' (first|(apply nrm;simp only[sbe];rfl)|(apply u_iteT;rfl;(·first|exact hli|exact rfl))|(apply u_eaddr;rfl;rfl;exact eaddr_get hi rfl;simp only[sbe];rfl)|(apply u_ev;rfl;simp only[sbe];rfl)|(apply u_callv;rfl;exact hc;rfl;rfl;exact hcal;rfl;simp only[sbe];rfl)|refine u_join ?_|(apply u_ret;rfl;first|exact rfl|(refine retB ?_)|(refine retI ?_)|(refine retD ?_)))
   exact(fi_at hi hP fun k hk=>hJ k hk (by omega)).symm
 ·repeat' (first|(apply nrm;simp only[sbe];rfl)|(apply u_ev;rfl;simp only[sbe];rfl)|(apply u_jump;rfl;rfl)|refine at_jump ?_|(refine over_jump (by decide) ?_)|refine kj rfl ?_|(apply u_ite;rfl;all_goals (intro hz;(try simp only[sbs] at hz);first|(exact absurd hz (by decide))|(exfalso;omega)|skip))|(apply u_ret;rfl;first|exact rfl|(refine retB ?_)|(refine retI ?_)|(refine retD ?_)))
  refine(fi_no fun a ha=>?_).symm
  obtain⟨k,hk,rfl⟩:=List.mem_iff_getElem.1 ha
  exact hJ k hk hk

theorem c101 {P:Card→Bool}{f:Nat}{us cs:List D}{l:List Card}(hL:l.length≤maxLen)(hc:callable Tryz.prog f=true)(hf:∀x,x∈l→FSpecR Tryz.prog f (.st bs) (us++[x.d]++cs) (B (P x))):FSpecR Tryz.prog 101 (.st bs) [Cards l,.fn f us cs] (B (l.any P)):=by
 refine ku101.R rfl rfl ?_
 unfold u101
 simp only[ups_cons,ups_nil,List.cons_append,List.nil_append]
 repeat' (first|(apply u_ev;rfl;simp only[sbe];rfl)|(apply u_call;rfl;rfl;exact c127 hL hc hf;rfl;simp only[sbe];rfl)|(apply u_ret;rfl;first|exact rfl|(refine retB ?_)|(refine retI ?_)|(refine retD ?_)))
 exact fi_any P l

theorem c102 (hp:p.Ok)(hok:p.ok=true)(hc:c.Ok):FSpecR Tryz.prog 102 (.st bs) [c.d,.ptr p.cs] (B (!cardOk p c)):=by
 have h19:=c19 (bs:=bs) hp hc
 rw[hok,Bool.true_and] at h19
 refine ku102.R rfl rfl ?_
 unfold u102
 simp only[ups_cons,ups_nil,List.cons_append,List.nil_append]
 repeat' (first|(apply u_chk;rfl)|(apply u_ev;rfl;simp only[sbe];rfl)|(apply u_call;rfl;rfl;exact h19;rfl;simp only[sbe];rfl)|(apply u_ret;rfl;first|exact rfl|(refine retB ?_)|(refine retI ?_)|(refine retD ?_)))
 cases cardOk p c <;> rfl

/-! ## what an event melts to -/

variable {n:Nat}

theorem melt_items:melt bs (n+3) (.lst (p.items.map Item.d))=some (.lst (p.items.map Item.d)):=by
 rw[melt,meltL_map (enc:=Item.d) fun a _=>by rfl]
 rfl

theorem melt_card (c:Card):melt bs (n+4) c.d=some c.d:=by
 have h1:melt bs (n+3) (Is c.starts)=some (Is c.starts):=melt_is
 have h2:melt bs (n+3) (.lst (c.lines.map Line.d))=some (.lst (c.lines.map Line.d)):=by
  rw[melt,meltL_map (enc:=Line.d) fun a _=>by rfl]
  rfl
 have h3:melt bs (n+3) (I c.cls)=some (I c.cls):=rfl
 rw[Card.d,melt]
 simp only[Card.cs,meltL,h1,h2,h3,Option.bind_some,Option.map_some]

theorem melt_cards:melt bs (n+5) (Cards l)=some (Cards l):=by
 rw[melt,meltL_map (enc:=Card.d) fun a _=>melt_card a]
 rfl

theorem gB_set {x y:D}{r:List D}:∀{xs:List Int},(gB (x :: r) xs).set 0 y=gB (y :: r) xs
 | []=>rfl
 | _ :: _=>rfl

abbrev evB (p:Plan)(l:List Card)(s:D):D:=.blk 99 16 (evCl p l s)

theorem ev_ld {s:D}{xs:List Int}:D.ld false 1 (.st (gB [evB p l s] xs)) (.loc 0 15)=some s:=ld_blk (e:=99) (sz:=16) (cs:=evCl p l s) (by rw[gB_low (by simp)];rfl) rfl

theorem ev_sto {s s':D}{xs:List Int}(hs:s'.one=true):D.sto 1 (.st (gB [evB p l s] xs)) (.loc 0 15) s'=some (.st (gB [evB p l s'] xs)):=by
 rw[sto_blk (e:=99) (sz:=16) (cs:=evCl p l s) (by rw[gB_low (by simp)];rfl) (by simp[evCl]) hs,gB_set]
 rfl

theorem gS_one {m:Nat}:∀xs:List Int,(gS m xs).one=true
 | []=>rfl
 | _ :: _=>rfl

theorem ev_melt:melt (gB [evB p l (gS 1 (outs p l))] (outs p l)) 8 (.tup [.loc 0 0,B true])=some (.tup [evD p l,B true]):=by
 have hs:melt (gB [evB p l (gS 1 (outs p l))] (outs p l)) 6 (gS 1 (outs p l))=some (Is (outs p l)):=melt_g (b0:=[evB p l (gS 1 (outs p l))]) (n:=4)
 have h0:(gB [evB p l (gS 1 (outs p l))] (outs p l))[0]? = some (evB p l (gS 1 (outs p l))):=by rw[gB_low (by simp)];rfl
 generalize gB [evB p l (gS 1 (outs p l))] (outs p l)=st at *
 have hl:melt st 7 (.loc 0 0)=some (evD p l):=by
  have h1:melt st 6 (.lst (p.items.map Item.d))=some (.lst (p.items.map Item.d)):=melt_items
  have h2:melt st 6 (Cards l)=some (Cards l):=melt_cards
  have h3:∀x:List Int,melt st 6 (Is x)=some (Is x):=fun x=>melt_is
  have h4:∀x:Int,melt st 6 (I x)=some (I x):=fun x=>rfl
  have h5:∀x:Bool,melt st 6 (B x)=some (B x):=fun x=>rfl
  rw[melt]
  simp only[h0,List.drop_zero,evCl,meltL,h1,h2,h3,h4,h5,hs,Option.bind_some,Option.map_some]
  rfl
 have hb:melt st 7 (B true)=some (B true):=rfl
 rw[melt]
 simp only[meltL,hl,hb,Option.bind_some,Option.map_some]

theorem c53_no (hp:p.Ok)(hl:CardsOk l)(h:(p.ok&&cardsOk p l)=false):FSpecR Tryz.prog 53 (.st bs) [p.d,Cards l] (.tup [.v (.pointer none),B false]):=by
 have h18:=c18 (bs:=[]) hp
 have hW:FSpecW Tryz.prog 53 (.st []) [p.d,Cards l] (.tup [.v (.pointer none),B false]) (.st []):=by
  refine ku53.W rfl ?_
  unfold u53
  simp only[ups_cons,ups_nil,List.cons_append,List.nil_append]
  cases hok:p.ok
  ·rw[hok] at h18
   replace h18:FSpecR Tryz.prog 18 (.st []) [p.d] (I 2):=h18
   repeat' (first|(apply nrm;simp only[sbe];rfl)|(apply u_orT;rfl;exact rfl)|(apply u_iteT;rfl;exact rfl)|(apply u_ev;rfl;simp only[sbe];rfl)|(apply u_call;rfl;rfl;exact h18;rfl;simp only[sbe];rfl)|exact u_ret rfl rfl)
  ·rw[hok,Bool.true_and] at h
   rw[hok] at h18
   replace h18:FSpecR Tryz.prog 18 (.st []) [p.d] (I 0):=h18
   have h101:FSpecR Tryz.prog 101 (.st []) [Cards l,.fn 102 [] [.ptr p.cs]] (B (l.any fun c=>!cardOk p c)):=c101 (us:=[]) (cs:=[.ptr p.cs]) hl.2 (by kernel_rfl) fun x hx=>c102 hp hok (hl.1 x hx)
   repeat' (first|(apply nrm;simp only[sbe];rfl)|(apply u_lenL;rfl;exact lenL_map;simp only[sbe];rfl)|(apply u_ev;rfl;simp only[sbe];rfl)|(apply u_call;rfl;rfl;(·first|exact h18|exact h101);rfl;simp only[sbe];rfl)|(apply u_or;rfl)|refine u_join ?_|(apply u_ite;rfl;all_goals (intro hz;(try simp only[sbs] at hz);first|(exact absurd hz (by decide))|(exfalso;omega)|skip))|exact u_ret rfl rfl|(intro hz;(try simp only[sbs] at hz)))
   have h1:=not_any (cardOk p) l
   rw[hz.2] at h1
   have h2:l.length≤200:=by omega
   simp[cardsOk,←h1,h2] at h
 exact hW.melt (n:=3) (by simp[noids,plan_noid,cards_noid]) rfl bs

theorem c53_yes (hp:p.Ok)(hl:CardsOk l)(hok:p.ok=true)(hc:cardsOk p l=true):FSpecR Tryz.prog 53 (.st bs) [p.d,Cards l] (.tup [evD p l,B true]):=by
 have hcs:=cards_ok hc
 have h18:=c18 (bs:=[]) hp
 rw[hok] at h18
 replace h18:FSpecR Tryz.prog 18 (.st []) [p.d] (I 0):=h18
 have h101:FSpecR Tryz.prog 101 (.st []) [Cards l,.fn 102 [] [.ptr p.cs]] (B (l.any fun c=>!cardOk p c)):=c101 (us:=[]) (cs:=[.ptr p.cs]) hl.2 (by kernel_rfl) fun x hx=>c102 hp hok (hl.1 x hx)
 have hall:(l.any fun c=>!cardOk p c)=false:=by
  have h1:=not_any (cardOk p) l
  simp only[cardsOk,Bool.and_eq_true] at hc
  rw[hc.2] at h1
  simpa using h1
 rw[hall] at h101
 have hW:FSpecW Tryz.prog 53 (.st []) [p.d,Cards l] (.tup [.loc 0 0,B true]) (.st (gB [evB p l (gS 1 (outs p l))] (outs p l))):=by
  refine ku53.W rfl ?_
  unfold u53
  simp only[ups_cons,ups_nil,List.cons_append,List.nil_append]
  repeat' (first|(apply nrm;simp only[sbe];rfl)|(apply u_lenL;rfl;exact lenL_map;simp only[sbe];rfl)|(apply u_ev;rfl;simp only[sbe];rfl)|(apply u_call;rfl;rfl;(·first|exact h18|exact h101);rfl;simp only[sbe];rfl)|(apply u_or;rfl)|refine u_join ?_|(apply u_ite;rfl;all_goals (intro hz;(try simp only[sbs] at hz);first|(exact absurd hz (by decide))|(exfalso;omega)|skip))|exact u_ret rfl rfl|(intro hz;(try simp only[sbs] at hz)))
  ·rcases hz with h | h
   ·exact absurd trivial h
   ·omega
  refine u_range (fun k=>[In k,.st (gB [evB p l (gS 1 ((outs p l).take k))] ((outs p l).take k))]) (fun _=>True) l.length rfl (fun _=>rfl) trivial (fun k hk _ R hR=>?_) (fun _ R=>?_)
  ·have hlk:decide ((k:Int)<(l.length:Int))=true:=by simp;omega
   have hR:=hR trivial
   have hko:k<(outs p l).length:=by simpa[outs] using hk
   have e:(outs p l).take (k+1)=(outs p l).take k++[outI p (cd l k)]:=by
    rw[List.take_add_one,List.getElem?_eq_getElem hko]
    simp[outs,cd,List.getD,hk]
   rw[e] at hR
   have hlen:((outs p l).take k).length≤200:=by rw[List.length_take];omega
   generalize(outs p l).take k=xs at hR hlen ⊢
   have h89:=c89 (bs:=gB [evB p l (gS 1 xs)] xs) hp hok (hcs.2 k hk)
   have ha1:=g_apph (b0:=[evB p l (gS 1 xs)]) (xs:=xs) (x:=outI p (cd l k)) (by omega)
   have ha2:=g_apps (b0:=[evB p l (gS 1 xs)]) (xs:=xs) (x:=outI p (cd l k))
   repeat' (first|(apply nrm;simp only[sbe];rfl)|(apply u_iteT;rfl;exact hlk)|(apply u_chk;rfl)|(apply u_stoa;rfl;rfl;rfl;rfl;rfl;exact ha2;(·exact ev_sto (gS_one _));simp only[sbe];rfl)|(apply u_ld;rfl;rfl;exact ev_ld;simp only[sbe];rfl)|(apply u_eaddr;rfl;rfl;exact ea_cd hk;simp only[sbe];rfl)|(apply u_apph;rfl;rfl;rfl;exact ha1;simp only[sbe];rfl)|(apply u_ev;rfl;simp only[sbe];rfl)|(apply u_call;rfl;rfl;exact h89;rfl;simp only[sbe];rfl)|refine u_join ?_)
   refine u_jump (evC rfl (evC (ev_apps rfl rfl rfl ha2) (evC rfl (evC rfl (evC rfl evN))))) rfl ?_
   repeat' (first|(apply nrm;simp only[sbe];rfl)|(apply u_inc;rfl;omega;simp only[sbe];rfl)|(apply u_jump;rfl;rfl)|refine at_jump ?_|refine kj rfl ?_)
   exact hR
  ·have hlf:decide ((l.length:Int)<(l.length:Int))=false:=by simp
   have e:(outs p l).take l.length=outs p l:=List.take_of_length_le (by simp[outs])
   repeat' (first|(apply nrm;simp only[sbe];rfl)|(apply u_iteF;rfl;exact hlf)|(apply u_ev;rfl;simp only[sbe];rfl)|(apply u_jump;rfl;rfl)|refine at_jump ?_|(refine over_jump (by decide) ?_)|refine kj rfl ?_)
   rw[e]
   repeat' ((with_reducible exact u_ret rfl rfl))
 exact hW.melt (n:=8) (by simp[noids,plan_noid,cards_noid]) ev_melt bs

end Go.Am.Sc

/-
 The program's real times,sorted times,notional times.
-/
namespace Go.Am.Sc
open Go.Proofs
set_option maxRecDepth 100000
set_option maxHeartbeats 4000000

attribute [local irreducible] inR allR lineOk

variable {bs:List D} {p:Plan} {c:Card} {l:List Card}

abbrev ints (L:List Nat):List Int:=L.map fun n:Nat=>Int.ofNat n
theorem ix_is (L:List Nat):Ix L=Is (ints L):=by simp only[Ix,Is,ints,List.map_map];rfl

theorem ev_noid:(evD p l).noid=true:=by
 simp only[evD,evCl,D.noid,noids,noid_map (enc:=I) (fun _=>rfl),noid_map (enc:=Item.d) (fun x=>rfl),noid_map (enc:=Card.d) card_noid,Bool.and_self]

theorem c64 (hp:p.Ok)(hok:p.ok=true)(hc:cardsOk p l=true){i:Nat}(hi:i<p.n)(cls:Int):FSpecR Tryz.prog 64 (.st bs) [evD p l,In i,I cls] (Ix (realN p l i cls)):=by
 have hcs:=cards_ok hc
 have hW:FSpecW Tryz.prog 64 (.st []) [evD p l,In i,I cls] (gS 0 (ints (realN p l i cls))) (.st (gB [] (ints (realN p l i cls)))):=by
  refine ku64.W rfl ?_
  unfold u64
  simp only[ups_cons,ups_nil,List.cons_append,List.nil_append]
  repeat' (first|(apply u_chk;rfl)|(apply u_lenL;rfl;exact lenL_map;simp only[sbe];rfl)|(apply u_ev;rfl;simp only[sbe];rfl)|refine u_join ?_)
  refine u_range (fun k=>[gS 0 (ints (realTo p l i cls k)),In k,.st (gB [] (ints (realTo p l i cls k)))]) (fun _=>True) l.length rfl (fun _=>rfl) trivial (fun k hk _ R hR=>?_) (fun _ R=>?_)
  ·have hlk:decide ((k:Int)<(l.length:Int))=true:=by simp;omega
   have h:=hcs.2 k hk
   have hln:=h.len
   have hR:=hR trivial
   rw[realTo_succ] at hR
   have hrl:=realTo_len (p:=p) (l:=l) (i:=i) (cls:=cls) (n:=k)
   have h55:=c55 (bs:=gB [] (ints (realTo p l i cls k))) (p:=p) hk i
   cases hr:isReal p l i cls k
   ·rw[if_neg (by simp[hr])] at hR
    have hf:(((cd l k).ln i).mark==0&&runsB p (cd l k) i&&(decide (cls<0)||(cd l k).cls==cls))=false:=by rw[Bool.and_assoc];exact hr
    repeat' (first|(apply nrm;simp only[sbe];rfl)|(apply u_iteT;rfl;exact hlk)|(apply u_iteF;rfl;exact hf)|(apply u_chk;rfl)|(apply u_eaddr;rfl;rfl;(·first|exact ea_cd hk|exact ea_ln (by omega));simp only[sbe];rfl)|(apply u_inc;rfl;omega;simp only[sbe];rfl)|(apply u_ev;rfl;simp only[sbe];rfl)|(apply u_call;rfl;rfl;exact h55;rfl;simp only[sbe];rfl)|(apply u_or;rfl)|(apply u_and;rfl)|refine u_join ?_|(apply u_jump;rfl;rfl)|refine at_jump ?_|refine kj rfl ?_|exact u_ret rfl rfl|(intro hz;(try simp only[sbs] at hz)))
    exact hR
   ·rw[if_pos hr,ints,List.map_append,List.map_cons,List.map_nil] at hR
    have ht:(((cd l k).ln i).mark==0&&runsB p (cd l k) i&&(decide (cls<0)||(cd l k).cls==cls))=true:=by rw[Bool.and_assoc];exact hr
    have ha1:=g_apph (b0:=[]) (xs:=ints (realTo p l i cls k)) (x:=(k:Int)) (by simp only[ints,List.length_map];omega)
    have ha2:=g_apps (b0:=[]) (xs:=ints (realTo p l i cls k)) (x:=(k:Int))
    repeat' (first|(apply nrm;simp only[sbe];rfl)|(apply u_iteT;rfl;(·first|exact hlk|exact ht))|(apply u_chk;rfl)|(apply u_eaddr;rfl;rfl;(·first|exact ea_cd hk|exact ea_ln (by omega));simp only[sbe];rfl)|(apply u_apph;rfl;rfl;rfl;exact ha1;simp only[sbe];rfl)|(apply u_inc;rfl;omega;simp only[sbe];rfl)|(apply u_ev;rfl;simp only[sbe];rfl)|(apply u_call;rfl;rfl;exact h55;rfl;simp only[sbe];rfl)|(apply u_or;rfl)|(apply u_and;rfl)|refine u_join ?_|(apply u_jump;rfl;(·exact evC (ev_apps rfl rfl rfl ha2) (evC rfl evN)))|(apply u_jump;rfl;rfl)|refine at_jump ?_|refine kj rfl ?_|exact u_ret rfl rfl|(intro hz;(try simp only[sbs] at hz)))
    exact hR
  ·have hlf:decide ((l.length:Int)<(l.length:Int))=false:=by simp
   repeat' (first|(apply nrm;simp only[sbe];rfl)|(apply u_iteF;rfl;exact hlf)|(apply u_ev;rfl;simp only[sbe];rfl)|(apply u_jump;rfl;rfl)|refine at_jump ?_|(refine over_jump (by decide) ?_)|refine kj rfl ?_|exact u_ret rfl rfl)
   all_goals exact rfl
 rw[ix_is]
 exact hW.melt (n:=2) (by simp[noids,ev_noid,D.noid]) melt_g bs

theorem c103 (hp:p.Ok)(hok:p.ok=true)(hc:cardsOk p l=true){i car:Nat}(hi:i<p.n)(hcar:car<l.length):FSpecR Tryz.prog 103 (.st bs) [evD p l,In car,In i] (Ix (basis p l i car)):=by
 have h1:=c64 (bs:=bs) hp hok hc hi (cd l car).cls
 have h2:=c64 (bs:=bs) hp hok hc hi (-1)
 refine ku103.R rfl rfl ?_
 unfold u103
 simp only[ups_cons,ups_nil,List.cons_append,List.nil_append]
 repeat' (first|(apply u_chk;rfl)|(apply u_eaddr;rfl;rfl;exact ea_cd hcar;simp only[sbe];rfl)|(apply u_lenL;rfl;exact lenL_map;simp only[sbe];rfl)|(apply u_ev;rfl;simp only[sbe];rfl)|(apply u_call;rfl;rfl;(·first|exact h1|exact h2);rfl;simp only[sbe];rfl)|(apply u_ite;rfl;all_goals (intro hz;(try simp only[sbs] at hz);first|(exact absurd hz (by decide))|(exfalso;omega)|skip))|(apply u_ret;rfl;first|exact rfl|(refine retB ?_)|(refine retI ?_)|(refine retD ?_)))
 ·rw[basis,if_pos (by omega)]
 ·rw[basis,if_neg (by omega)]

theorem c96 {xs:List Int}(hL:xs.length≤1000):∃st,FSpecW Tryz.prog 96 (.st (gB [] xs)) [gS 0 xs] (.tup []) (.st st)∧∀n,melt st (n+2) (gS 0 xs)=some (Is (srt xs)):=by
 by_cases hx:xs=[]
 ·subst hx
  exact⟨[],Srt.sortN fun p cap w=>(Tryz.slices_Sort_int_none p cap w).mono fun e w' h=>⟨h.1,0,by rw[h.2];rfl⟩,fun n=>by rw[show srt []=[] by simp[srt]];rfl⟩
 ·have hg:=gB_get (b0:=[]) hx
  have h:FSpecW Tryz.prog 96 (.st (gB [] xs)) [.sl (([]:List D).length+(xs.length-1)) 0 xs.length] (.tup []) (.st ((gB [] xs).set (([]:List D).length+(xs.length-1)) (.blk 3 1 ((srt xs).map I)))):=Srt.sortW (P:=Tryz.prog) (f:=96) (fun blk off cap zs w h1 h2 h3=>Tryz.slices_Sort_int blk off cap zs w h1 h2 h3) (xs:=xs) hg (by omega)
  have e:=gS_cons (m:=([]:List D).length) hx
  refine⟨_,by rw[show gS 0 xs=_ from e];exact h,fun n=>?_⟩
  rw[show gS 0 xs=_ from e,melt]
  have hl:([]:List D).length+(xs.length-1)<(gB [] xs).length:=(List.getElem?_eq_some_iff.1 hg).1
  simp only[set_get hl]
  have hsl:=srt_len xs
  rw[if_pos (by simp[hsl])]
  simp only[Nat.mul_one,Nat.zero_add,List.drop_zero]
  rw[show((srt xs).map I).take xs.length=(srt xs).map I from List.take_of_length_le (by simp[hsl]),meltL_map (enc:=I) fun a _=>by rw[melt]]
  simp

theorem c67 {i:Nat}{b:List Nat}(hb:∀k,k∈b→k<l.length∧i<(cd l k).lines.length)(hL:b.length≤1000):FSpecR Tryz.prog 67 (.st bs) [evD p l,Ix b,In i] (Is (srt (tms l i b))):=by
 obtain⟨st,hs,hm⟩:=c96 (xs:=tms l i b) (by rw[tms_len];omega)
 have hW:FSpecW Tryz.prog 67 (.st []) [evD p l,Ix b,In i] (gS 0 (tms l i b)) (.st st):=by
  refine ku67.W rfl ?_
  unfold u67
  simp only[ups_cons,ups_nil,List.cons_append,List.nil_append]
  repeat' (first|(apply u_lenL;rfl;exact lenL_map;simp only[sbe];rfl)|refine u_join ?_)
  refine u_range (fun k=>[gS 0 (tms l i (b.take k)),In k,.st (gB [] (tms l i (b.take k)))]) (fun _=>True) b.length rfl (fun _=>rfl) trivial (fun k hk _ R hR=>?_) (fun _ R=>?_)
  ·have hlk:decide ((k:Int)<(b.length:Int))=true:=by simp;omega
   have hbk:=hb b[k] (List.getElem_mem hk)
   have hR:=hR trivial
   rw[tms_take hk] at hR
   have h66:=c66 (bs:=gB [] (tms l i (b.take k))) (p:=p) hbk.1 hbk.2
   have hlen:(tms l i (b.take k)).length≤1000:=by rw[tms_len,List.length_take];omega
   generalize tms l i (b.take k)=xs at hR hlen h66 ⊢
   have ha1:=g_apph (b0:=[]) (xs:=xs) (x:=tmK l i b[k]) (by omega)
   have ha2:=g_apps (b0:=[]) (xs:=xs) (x:=tmK l i b[k])
   repeat' (first|(apply nrm;simp only[sbe];rfl)|(apply u_iteT;rfl;exact hlk)|(apply u_eaddr;rfl;rfl;exact ix_get hk;simp only[sbe];rfl)|(apply u_apph;rfl;rfl;rfl;exact ha1;simp only[sbe];rfl)|(apply u_ev;rfl;simp only[sbe];rfl)|(apply u_call;rfl;rfl;exact h66;rfl;simp only[sbe];rfl)|refine u_join ?_)
   refine u_jump (evC (ev_apps rfl rfl rfl ha2) evN) (evC (ev_apps rfl rfl rfl ha2) (evC rfl evN)) ?_
   repeat' (first|(apply nrm;simp only[sbe];rfl)|(apply u_inc;rfl;omega;simp only[sbe];rfl)|(apply u_jump;rfl;rfl)|refine at_jump ?_|refine kj rfl ?_)
   exact hR
  ·have hlf:decide ((b.length:Int)<(b.length:Int))=false:=by simp
   rw[List.take_length]
   repeat' (first|(apply nrm;simp only[sbe];rfl)|(apply u_iteF;rfl;exact hlf)|(apply u_ev;rfl;simp only[sbe];rfl)|(apply u_wcall;rfl;rfl;exact hs;rfl;simp only[sbe];rfl)|(apply u_jump;rfl;rfl)|refine at_jump ?_|(refine over_jump (by decide) ?_)|refine kj rfl ?_|exact u_ret rfl rfl)
 exact hW.melt (n:=2) (by simp[noids,ev_noid,D.noid,noid_map (enc:=In) (fun _=>rfl)]) (hm 0) bs


theorem c104 (hok:p.ok=true)(hc:cardsOk p l=true){i car:Nat}(hi:i<p.n)(h0:0<(basis p l i car).length):FSpecR Tryz.prog 104 (.st bs) [evD p l,Ix (basis p l i car),In car,In i] (I ((srt (tms l i (basis p l i car))).getD (((basis p l i car).length-1) / 2) 0)):=by
 have hcs:=cards_ok hc
 have hm:=Plan.ok_more hok
 have hbl:=basis_len (p:=p) (l:=l) (i:=i) (car:=car)
 have hmb:∀k,k∈basis p l i car→k<l.length∧i<(cd l k).lines.length:=fun k hk=>⟨(mem_basis hk).1,by rw[(hcs.2 k (mem_basis hk).1).len];exact hi⟩
 have h67:=c67 (bs:=bs) (p:=p) hmb (by omega)
 have hlb:=least_bd hc (car:=car) hi
 have hSl:(srt (tms l i (basis p l i car))).length=(basis p l i car).length:=by rw[srt_len,tms_len]
 have hg1:D.eaddr 1 (Is (srt (tms l i (basis p l i car)))) (I (((((basis p l i car).length-1:Nat)):Int) / 2))=some (.ptr [I ((srt (tms l i (basis p l i car))).getD (((basis p l i car).length-1) / 2) 0)]):=by
  rw[show(((((basis p l i car).length-1:Nat)):Int) / 2)=((((basis p l i car).length-1) / 2:Nat):Int) by omega]
  exact is_get (by omega)
 refine ku104.R rfl rfl ?_
 unfold u104
 simp only[ups_cons,ups_nil,List.cons_append,List.nil_append]
 repeat' (first|(apply u_eaddr;rfl;rfl;exact hg1;simp only[sbe];rfl)|(apply u_bin;rfl;rfl;(·exact bin_quo (a:=((((basis p l i car).length-1:Nat)):Int)) (by decide) (by omega));simp only[sbe];rfl)|(apply u_lenL;rfl;exact lenL_map;simp only[sbe];rfl)|(apply u_pred;rfl;omega;simp only[sbe];rfl)|(apply u_ev;rfl;simp only[sbe];rfl)|(apply u_call;rfl;rfl;exact h67;rfl;simp only[sbe];rfl)|exact u_ret rfl rfl)

theorem c105 (hok:p.ok=true)(hc:cardsOk p l=true){i car:Nat}(hi:i<p.n)(h0:0<(basis p l i car).length):FSpecR Tryz.prog 105 (.st bs) [evD p l,Ix (basis p l i car),In car,In i] (I ((srt (tms l i (basis p l i car))).getD ((basis p l i car).length-1) 0)):=by
 have hcs:=cards_ok hc
 have hm:=Plan.ok_more hok
 have hbl:=basis_len (p:=p) (l:=l) (i:=i) (car:=car)
 have hmb:∀k,k∈basis p l i car→k<l.length∧i<(cd l k).lines.length:=fun k hk=>⟨(mem_basis hk).1,by rw[(hcs.2 k (mem_basis hk).1).len];exact hi⟩
 have h67:=c67 (bs:=bs) (p:=p) hmb (by omega)
 have hlb:=least_bd hc (car:=car) hi
 have hSl:(srt (tms l i (basis p l i car))).length=(basis p l i car).length:=by rw[srt_len,tms_len]
 refine ku105.R rfl rfl ?_
 unfold u105
 simp only[ups_cons,ups_nil,List.cons_append,List.nil_append]
 repeat' (first|(apply u_eaddr;rfl;rfl;(·exact is_get (by omega));simp only[sbe];rfl)|(apply u_lenL;rfl;exact lenL_map;simp only[sbe];rfl)|(apply u_pred;rfl;omega;simp only[sbe];rfl)|(apply u_ev;rfl;simp only[sbe];rfl)|(apply u_call;rfl;rfl;exact h67;rfl;simp only[sbe];rfl)|exact u_ret rfl rfl)

theorem c107 (hok:p.ok=true)(hc:cardsOk p l=true){i car:Nat}(hi:i<p.n)(h0:0<(basis p l i car).length):FSpecR Tryz.prog 107 (.st bs) [evD p l,Ix (basis p l i car),In car,In i] (I ((least l i (basis p l i car)*p.percent+99) / 100)):=by
 have hcs:=cards_ok hc
 have hm:=Plan.ok_more hok
 have hbl:=basis_len (p:=p) (l:=l) (i:=i) (car:=car)
 have hmb:∀k,k∈basis p l i car→k<l.length∧i<(cd l k).lines.length:=fun k hk=>⟨(mem_basis hk).1,by rw[(hcs.2 k (mem_basis hk).1).len];exact hi⟩
 have h67:=c67 (bs:=bs) (p:=p) hmb (by omega)
 have hlb:=least_bd hc (car:=car) hi
 have hSl:(srt (tms l i (basis p l i car))).length=(basis p l i car).length:=by rw[srt_len,tms_len]
 have hg0:D.eaddr 1 (Is (srt (tms l i (basis p l i car)))) (I 0)=some (.ptr [I (least l i (basis p l i car))]):=is_get (i:=0) (by omega)
 have hmul:=mul_bd hlb ⟨(by omega:0≤p.percent),hm.2.1.2⟩
 refine ku107.R rfl rfl ?_
 unfold u107
 simp only[ups_cons,ups_nil,List.cons_append,List.nil_append]
 repeat' (first|(apply u_chk;rfl)|(apply u_eaddr;rfl;rfl;exact hg0;simp only[sbe];rfl)|(apply u_bin;rfl;rfl;(·first|exact bin_mul (by omega)|exact bin_quo (by decide) (by omega));simp only[sbe];rfl)|(apply u_add;rfl;rfl;omega;simp only[sbe];rfl)|(apply u_ev;rfl;simp only[sbe];rfl)|(apply u_call;rfl;rfl;exact h67;rfl;simp only[sbe];rfl)|exact u_ret rfl rfl)

theorem c106 (hok:p.ok=true)(hc:cardsOk p l=true){i car:Nat}(hi:i<p.n)(hcar:car<l.length)(h0:0<(basis p l i car).length):FSpecR Tryz.prog 106 (.st bs) [evD p l,Ix (basis p l i car),In car,In i] (I ((basis p l i car).foldl (befF l i (mnK l i car)) (-1,least l i (basis p l i car))).2):=by
 have hcs:=cards_ok hc
 have hm:=Plan.ok_more hok
 have hbl:=basis_len (p:=p) (l:=l) (i:=i) (car:=car)
 have hmb:∀k,k∈basis p l i car→k<l.length∧i<(cd l k).lines.length:=fun k hk=>⟨(mem_basis hk).1,by rw[(hcs.2 k (mem_basis hk).1).len];exact hi⟩
 have h67:=c67 (bs:=bs) (p:=p) hmb (by omega)
 have hlb:=least_bd hc (car:=car) hi
 have hSl:(srt (tms l i (basis p l i car))).length=(basis p l i car).length:=by rw[srt_len,tms_len]
 have hcl:=(hcs.2 car hcar).len
 have hg0:D.eaddr 1 (Is (srt (tms l i (basis p l i car)))) (I 0)=some (.ptr [I (least l i (basis p l i car))]):=is_get (i:=0) (by omega)
 refine ku106.R rfl rfl ?_
 unfold u106
 simp only[ups_cons,ups_nil,List.cons_append,List.nil_append]
 repeat' (first|(apply u_eaddr;rfl;rfl;exact hg0;simp only[sbe];rfl)|(apply u_lenL;rfl;exact lenL_map;simp only[sbe];rfl)|(apply u_ev;rfl;simp only[sbe];rfl)|(apply u_call;rfl;rfl;exact h67;rfl;simp only[sbe];rfl)|refine u_join ?_)
 generalize basis p l i car=b at hmb hbl hlb hSl h0 hg0 ⊢
 refine u_range (fun k=>[I ((b.take k).foldl (befF l i (mnK l i car)) (-1,least l i b)).1,I ((b.take k).foldl (befF l i (mnK l i car)) (-1,least l i b)).2,In k]) (fun _=>True) b.length rfl (fun _=>rfl) trivial (fun k hk _ R hR=>?_) (fun _ R=>?_)
 ·have hlk:decide ((k:Int)<(b.length:Int))=true:=by simp;omega
  have hbk:=hmb b[k] (List.getElem_mem hk)
  have hR:=hR trivial
  rw[List.take_add_one,List.getElem?_eq_getElem hk,Option.toList_some,List.foldl_append,List.foldl_cons,List.foldl_nil] at hR
  generalize(b.take k).foldl (befF l i (mnK l i car)) (-1,least l i b)=s at hR ⊢
  have h66:=c66 (bs:=bs) (p:=p) hbk.1 hbk.2
  repeat' (first|(apply nrm;simp only[sbe];rfl)|(apply u_iteT;rfl;exact hlk)|(apply u_chk;rfl)|(apply u_eaddr;rfl;rfl;(·first|exact ix_get hk|exact ea_cd hbk.1|exact ea_ln hbk.2|exact ea_cd hcar|exact ea_ln (by omega));simp only[sbe];rfl)|(apply u_inc;rfl;omega;simp only[sbe];rfl)|(apply u_ev;rfl;simp only[sbe];rfl)|(apply u_call;rfl;rfl;exact h66;rfl;simp only[sbe];rfl)|(apply u_or;rfl)|(apply u_and;rfl)|refine u_join ?_|(apply u_jump;rfl;rfl)|refine at_jump ?_|refine kj rfl ?_|(apply u_phiS;rfl;all_goals (intro hz;(try simp only[sbs] at hz);first|(exact absurd hz (by decide))|(exfalso;omega)|(refine⟨_,rfl,?_⟩)))|exact u_ret rfl rfl|(intro hz;(try simp only[sbs] at hz)))
  all_goals first
  |(rw[befF_no (by simp only[mnK,tmK] at *;omega)] at hR;exact hR)
  |(rw[befF_yes (by simp only[mnK,tmK] at *;omega)] at hR;exact hR)
 ·have hlf:decide ((b.length:Int)<(b.length:Int))=false:=by simp
  repeat' (first|(apply nrm;simp only[sbe];rfl)|(apply u_iteF;rfl;exact hlf)|(apply u_ev;rfl;simp only[sbe];rfl)|(apply u_jump;rfl;rfl)|refine at_jump ?_|(refine over_jump (by decide) ?_)|refine kj rfl ?_|(apply u_ret;rfl;first|exact rfl|(refine retB ?_)|(refine retI ?_)|(refine retD ?_)))
  rw[List.take_length]

end Go.Am.Sc

/-
 Times and totals,in the program.
-/
namespace Go.Am.Sc
open Go.Proofs
set_option maxRecDepth 100000
set_option maxHeartbeats 4000000

attribute [local irreducible] inR allR lineOk

variable {bs:List D} {p:Plan} {c:Card} {l:List Card}


theorem c56 (hp:p.Ok)(hok:p.ok=true)(hc:cardsOk p l=true){i car:Nat}(hi:i<p.n)(hcar:car<l.length):FSpecR Tryz.prog 56 (.st bs) [evD p l,In car,In i] (I (timeN p l car i)):=by
 have hcs:=cards_ok hc
 have hm:=Plan.ok_more hok
 have hcc:=hcs.2 car hcar
 have hcl:=hcc.len
 have hmk:=hcc.mark hi
 have hr:=Plan.ok_rules hok
 have hbl:=basis_len (p:=p) (l:=l) (i:=i) (car:=car)
 have hmb:∀k,k∈basis p l i car→k<l.length∧i<(cd l k).lines.length:=fun k hk=>⟨(mem_basis hk).1,by rw[(hcs.2 k (mem_basis hk).1).len];exact hi⟩
 have hlb:=least_bd hc (car:=car) hi
 have hSl:(srt (tms l i (basis p l i car))).length=(basis p l i car).length:=by rw[srt_len,tms_len]
 have h103:=c103 (bs:=[]) hp hok hc hi hcar
 have h66:=c66 (bs:=[]) (p:=p) hcar (i:=i) (by omega)
 have h67:=c67 (bs:=[]) (p:=p) hmb (by omega)
 have k4:callable Tryz.prog 104=true:=by kernel_rfl
 have k5:callable Tryz.prog 105=true:=by kernel_rfl
 have k6:callable Tryz.prog 106=true:=by kernel_rfl
 have k7:callable Tryz.prog 107=true:=by kernel_rfl
 have hd:noids [evD p l,In car,In i]=true:=by simp[noids,ev_noid,D.noid]
 unfold timeN
 rcases hmk with hmk | hmk | hmk
 ·rw[if_pos hmk]
  have hW:FSpecW Tryz.prog 56 (.st []) [evD p l,In car,In i] (I (tmK l i car)) (.st []):=by
   refine ku56.W rfl ?_
   unfold u56
   simp only[ups_cons,ups_nil,List.cons_append,List.nil_append]
   repeat' (first|(apply u_chk;rfl)|(apply u_eaddr;rfl;rfl;(·first|exact ea_cd hcar|exact ea_ln (by omega));simp only[sbe];rfl)|(apply u_ev;rfl;simp only[sbe];rfl)|(apply u_call;rfl;rfl;(·first|exact h103|exact h66);rfl;simp only[sbe];rfl)|refine u_join ?_|(apply u_ite;rfl;all_goals (intro hz;(try simp only[sbs] at hz);first|(exact absurd hz (by decide))|(exfalso;omega)|skip))|(apply u_ret;rfl;first|exact rfl|(refine retB ?_)|(refine retI ?_)|(refine retD ?_)))
  exact hW.melt (n:=1) hd rfl bs
 ·rw[if_neg (by omega),if_pos hmk]
  unfold notN
  by_cases h0:(basis p l i car).length=0
  ·rw[if_pos h0]
   have hW:FSpecW Tryz.prog 56 (.st []) [evD p l,In car,In i] (I 0) (.st []):=by
    refine ku56.W rfl ?_
    unfold u56
    simp only[ups_cons,ups_nil,List.cons_append,List.nil_append]
    repeat' (first|(apply nrm;simp only[sbe];rfl)|(apply u_chk;rfl)|(apply u_eaddr;rfl;rfl;(·first|exact ea_cd hcar|exact ea_ln (by omega));simp only[sbe];rfl)|(apply u_lenL;rfl;exact lenL_map;simp only[sbe];rfl)|(apply u_ev;rfl;simp only[sbe];rfl)|(apply u_call;rfl;rfl;exact h103;rfl;simp only[sbe];rfl)|refine u_join ?_|(apply u_jump;rfl;rfl)|refine at_jump ?_|refine kj rfl ?_|(apply u_ite;rfl;all_goals (intro hz;(try simp only[sbs] at hz);first|(exact absurd hz (by decide))|(exfalso;omega)|skip))|exact u_ret rfl rfl)
   exact hW.melt (n:=1) hd rfl bs
  ·rw[if_neg h0]
   obtain h1 | h1 | h1 | h1:p.notional=1∨p.notional=2∨p.notional=4∨p.notional=3:=by omega
   ·rw[if_pos h1]
    refine meltV (st:=[.blk 129 5 [.v .nilFunc,.fn 104 [evD p l] [],.fn 105 [evD p l] [],.fn 106 [evD p l] [],.fn 107 [evD p l] []]]) ?_ hd bs
    refine ku56.W rfl ?_
    unfold u56
    simp only[ups_cons,ups_nil,List.cons_append,List.nil_append]
    have hm4:∀x y:D,D.m4 (.elemA 5 1) (.loc 0 0) (I p.notional) x y=some (.loc 0 1):=fun x y=>by rw[h1];rfl
    repeat' (first|(apply nrm;simp only[sbe];rfl)|(apply u_chk;rfl)|(apply u_eaddr;rfl;rfl;(·first|exact ea_cd hcar|exact ea_ln (by omega));simp only[sbe];rfl)|(apply u_m4;rfl;rfl;rfl;rfl;exact hm4 _ _;simp only[sbe];rfl)|(apply u_lenL;rfl;exact lenL_map;simp only[sbe];rfl)|(apply u_ev;rfl;simp only[sbe];rfl)|(apply u_call;rfl;rfl;exact h103;rfl;simp only[sbe];rfl)|(apply u_callv;rfl;exact k4;rfl;rfl;(·exact c104 hok hc hi (by omega));rfl;simp only[sbe];rfl)|refine u_join ?_|(apply u_jump;rfl;rfl)|refine at_jump ?_|refine kj rfl ?_|(apply u_ite;rfl;all_goals (intro hz;(try simp only[sbs] at hz);first|(exact absurd hz (by decide))|(exfalso;omega)|skip))|exact u_ret rfl rfl)
   ·rw[if_neg (by omega),if_pos h1]
    refine meltV (st:=[.blk 129 5 [.v .nilFunc,.fn 104 [evD p l] [],.fn 105 [evD p l] [],.fn 106 [evD p l] [],.fn 107 [evD p l] []]]) ?_ hd bs
    refine ku56.W rfl ?_
    unfold u56
    simp only[ups_cons,ups_nil,List.cons_append,List.nil_append]
    have hm4:∀x y:D,D.m4 (.elemA 5 1) (.loc 0 0) (I p.notional) x y=some (.loc 0 2):=fun x y=>by rw[h1];rfl
    repeat' (first|(apply nrm;simp only[sbe];rfl)|(apply u_chk;rfl)|(apply u_eaddr;rfl;rfl;(·first|exact ea_cd hcar|exact ea_ln (by omega));simp only[sbe];rfl)|(apply u_m4;rfl;rfl;rfl;rfl;exact hm4 _ _;simp only[sbe];rfl)|(apply u_lenL;rfl;exact lenL_map;simp only[sbe];rfl)|(apply u_ev;rfl;simp only[sbe];rfl)|(apply u_call;rfl;rfl;exact h103;rfl;simp only[sbe];rfl)|(apply u_callv;rfl;exact k5;rfl;rfl;(·exact c105 hok hc hi (by omega));rfl;simp only[sbe];rfl)|refine u_join ?_|(apply u_jump;rfl;rfl)|refine at_jump ?_|refine kj rfl ?_|(apply u_ite;rfl;all_goals (intro hz;(try simp only[sbs] at hz);first|(exact absurd hz (by decide))|(exfalso;omega)|skip))|exact u_ret rfl rfl)
   ·rw[if_neg (by omega),if_neg (by omega),if_pos h1]
    refine meltV (st:=[.blk 129 5 [.v .nilFunc,.fn 104 [evD p l] [],.fn 105 [evD p l] [],.fn 106 [evD p l] [],.fn 107 [evD p l] []]]) ?_ hd bs
    refine ku56.W rfl ?_
    unfold u56
    simp only[ups_cons,ups_nil,List.cons_append,List.nil_append]
    have hm4:∀x y:D,D.m4 (.elemA 5 1) (.loc 0 0) (I p.notional) x y=some (.loc 0 4):=fun x y=>by rw[h1];rfl
    repeat' (first|(apply nrm;simp only[sbe];rfl)|(apply u_chk;rfl)|(apply u_eaddr;rfl;rfl;(·first|exact ea_cd hcar|exact ea_ln (by omega));simp only[sbe];rfl)|(apply u_m4;rfl;rfl;rfl;rfl;exact hm4 _ _;simp only[sbe];rfl)|(apply u_lenL;rfl;exact lenL_map;simp only[sbe];rfl)|(apply u_ev;rfl;simp only[sbe];rfl)|(apply u_call;rfl;rfl;exact h103;rfl;simp only[sbe];rfl)|(apply u_callv;rfl;exact k7;rfl;rfl;(·exact c107 hok hc hi (by omega));rfl;simp only[sbe];rfl)|refine u_join ?_|(apply u_jump;rfl;rfl)|refine at_jump ?_|refine kj rfl ?_|(apply u_ite;rfl;all_goals (intro hz;(try simp only[sbs] at hz);first|(exact absurd hz (by decide))|(exfalso;omega)|skip))|exact u_ret rfl rfl)
   ·rw[if_neg (by omega),if_neg (by omega),if_neg (by omega)]
    refine meltV (st:=[.blk 129 5 [.v .nilFunc,.fn 104 [evD p l] [],.fn 105 [evD p l] [],.fn 106 [evD p l] [],.fn 107 [evD p l] []]]) ?_ hd bs
    refine ku56.W rfl ?_
    unfold u56
    simp only[ups_cons,ups_nil,List.cons_append,List.nil_append]
    have hm4:∀x y:D,D.m4 (.elemA 5 1) (.loc 0 0) (I p.notional) x y=some (.loc 0 3):=fun x y=>by rw[h1];rfl
    repeat' (first|(apply nrm;simp only[sbe];rfl)|(apply u_chk;rfl)|(apply u_eaddr;rfl;rfl;(·first|exact ea_cd hcar|exact ea_ln (by omega));simp only[sbe];rfl)|(apply u_m4;rfl;rfl;rfl;rfl;exact hm4 _ _;simp only[sbe];rfl)|(apply u_lenL;rfl;exact lenL_map;simp only[sbe];rfl)|(apply u_ev;rfl;simp only[sbe];rfl)|(apply u_call;rfl;rfl;exact h103;rfl;simp only[sbe];rfl)|(apply u_callv;rfl;exact k6;rfl;rfl;(·exact c106 hok hc hi hcar (by omega));rfl;simp only[sbe];rfl)|refine u_join ?_|(apply u_jump;rfl;rfl)|refine at_jump ?_|refine kj rfl ?_|(apply u_ite;rfl;all_goals (intro hz;(try simp only[sbs] at hz);first|(exact absurd hz (by decide))|(exfalso;omega)|skip))|exact u_ret rfl rfl)
 ·rw[if_neg (by omega),if_neg (by omega)]
  by_cases h0:(basis p l i car).length=0
  ·rw[if_neg (by omega),Int.zero_add]
   have hW:FSpecW Tryz.prog 56 (.st []) [evD p l,In car,In i] (I p.missed) (.st []):=by
    refine ku56.W rfl ?_
    unfold u56
    simp only[ups_cons,ups_nil,List.cons_append,List.nil_append]
    repeat' (first|(apply u_chk;rfl)|(apply u_eaddr;rfl;rfl;(·first|exact ea_cd hcar|exact ea_ln (by omega));simp only[sbe];rfl)|(apply u_lenL;rfl;exact lenL_map;simp only[sbe];rfl)|(apply u_ev;rfl;simp only[sbe];rfl)|(apply u_call;rfl;rfl;exact h103;rfl;simp only[sbe];rfl)|refine u_join ?_|(apply u_ite;rfl;all_goals (intro hz;(try simp only[sbs] at hz);first|(exact absurd hz (by decide))|(exfalso;omega)|skip))|(apply u_ret;rfl;first|exact rfl|(refine retB ?_)|(refine retI ?_)|(refine retD ?_)))
   exact hW.melt (n:=1) hd rfl bs
  ·rw[if_pos (by omega)]
   have hg0:D.eaddr 1 (Is (srt (tms l i (basis p l i car)))) (I 0)=some (.ptr [I (least l i (basis p l i car))]):=is_get (i:=0) (by omega)
   have hW:FSpecW Tryz.prog 56 (.st []) [evD p l,In car,In i] (I (least l i (basis p l i car)+p.missed)) (.st []):=by
    refine ku56.W rfl ?_
    unfold u56
    simp only[ups_cons,ups_nil,List.cons_append,List.nil_append]
    repeat' (first|(apply u_chk;rfl)|(apply u_eaddr;rfl;rfl;(·first|exact ea_cd hcar|exact ea_ln (by omega)|exact hg0);simp only[sbe];rfl)|(apply u_lenL;rfl;exact lenL_map;simp only[sbe];rfl)|(apply u_add;rfl;rfl;omega;simp only[sbe];rfl)|(apply u_ev;rfl;simp only[sbe];rfl)|(apply u_call;rfl;rfl;(·first|exact h103|exact h67);rfl;simp only[sbe];rfl)|refine u_join ?_|(apply u_ite;rfl;all_goals (intro hz;(try simp only[sbs] at hz);first|(exact absurd hz (by decide))|(exfalso;omega)|skip))|(apply u_ret;rfl;first|exact rfl|(refine retB ?_)|(refine retI ?_)|(refine retD ?_)))
   exact hW.melt (n:=1) hd rfl bs

end Go.Am.Sc

/-
 Penalties,false starts and totals,in the program;Time and Total.
-/
namespace Go.Am.Sc
open Go.Proofs
set_option maxRecDepth 100000
set_option maxHeartbeats 4000000

attribute [local irreducible] inR allR lineOk

variable {bs:List D} {p:Plan} {c:Card} {l:List Card}

def penC (p:Plan)(c:Card)(i:Nat):Int:=lateN p c i*p.late+earlyN p c i*p.early

theorem c108 (hok:p.ok=true)(hc:cardsOk p l=true){i car:Nat}(hi:i<p.n)(hcar:car<l.length):FSpecR Tryz.prog 108 (.st bs) [evD p l,In car,In i] (.tup [I (sideK p (cd l car) i),I (penC p (cd l car) i)]):=by
 have h:=(cards_ok hc).2 car hcar
 have hd:=h.due hok hi
 have hm:=h.minute hi
 have hr:=Plan.ok_rules hok
 have h119:=c119 (bs:=bs) hok h hi
 by_cases hct:ctl p (cd l car) i=true
 ·rcases Int.lt_trichotomy (dueA p (cd l car) i) ((cd l car).ln i).minute with h1 | h1 | h1
  ·have hk:sideK p (cd l car) i=1:=by rw[sideK,if_pos hct,if_pos h1]
   have hn:sideN p (cd l car) i=((cd l car).ln i).minute-dueA p (cd l car) i:=by rw[sideN,if_pos hct,if_pos h1]
   have hp1:penC p (cd l car) i=(((cd l car).ln i).minute-dueA p (cd l car) i)*p.late:=by
    have hl:lateN p (cd l car) i=((cd l car).ln i).minute-dueA p (cd l car) i:=by rw[lateN,if_pos hct];omega
    have he:earlyN p (cd l car) i=0:=by unfold earlyN;split <;> omega
    rw[penC,hl,he,Int.zero_mul,Int.add_zero]
   have hmul:=mul_bd (a:=((cd l car).ln i).minute-dueA p (cd l car) i) (x:=200000) (by omega) hr.1
   rw[hk,hn] at h119
   rw[hk,hp1]
   refine ku108.R rfl rfl ?_
   unfold u108
   simp only[ups_cons,ups_nil,List.cons_append,List.nil_append]
   repeat' (first|(apply u_iteT;rfl;exact rfl)|(apply u_chk;rfl)|(apply u_eaddr;rfl;rfl;exact ea_cd hcar;simp only[sbe];rfl)|(apply u_bin;rfl;rfl;(·exact bin_mul (by omega));simp only[sbe];rfl)|(apply u_ev;rfl;simp only[sbe];rfl)|(apply u_call;rfl;rfl;exact h119;rfl;simp only[sbe];rfl)|refine u_join ?_|(apply u_ret;rfl;first|exact rfl|(refine retB ?_)|(refine retI ?_)|(refine retD ?_)))
  ·have hk:sideK p (cd l car) i=0:=by rw[sideK,if_pos hct,if_neg (by omega),if_neg (by omega)]
   have hp1:penC p (cd l car) i=0:=by
    have hl:lateN p (cd l car) i=0:=by rw[lateN,if_pos hct];omega
    have he:earlyN p (cd l car) i=0:=by unfold earlyN;split <;> omega
    rw[penC,hl,he,Int.zero_mul,Int.zero_mul];rfl
   rw[hk] at h119
   rw[hk,hp1]
   refine ku108.R rfl rfl ?_
   unfold u108
   simp only[ups_cons,ups_nil,List.cons_append,List.nil_append]
   repeat' (first|(apply nrm;simp only[sbe];rfl)|(apply u_andF;rfl;exact rfl)|(apply u_iteF;rfl;exact rfl)|(apply u_chk;rfl)|(apply u_eaddr;rfl;rfl;exact ea_cd hcar;simp only[sbe];rfl)|(apply u_ev;rfl;simp only[sbe];rfl)|(apply u_call;rfl;rfl;exact h119;rfl;simp only[sbe];rfl)|refine u_join ?_|(apply u_jump;rfl;rfl)|refine at_jump ?_|refine kj rfl ?_|exact u_ret rfl rfl)
  ·have hk:sideK p (cd l car) i=2:=by rw[sideK,if_pos hct,if_neg (by omega),if_pos (by omega)]
   have hn:sideN p (cd l car) i=dueA p (cd l car) i-((cd l car).ln i).minute:=by rw[sideN,if_pos hct,if_neg (by omega)]
   have hl:lateN p (cd l car) i=0:=by rw[lateN,if_pos hct];omega
   have hmul:=mul_bd (a:=dueA p (cd l car) i-((cd l car).ln i).minute) (x:=200000) (by omega) hr.2.1
   rw[hk,hn] at h119
   rw[hk]
   cases hf:(p.it i).free
   ·have he:earlyN p (cd l car) i=dueA p (cd l car) i-((cd l car).ln i).minute:=by
     rw[earlyN,if_pos (by rw[hct,hf];rfl)];omega
    have hfr:(true&&!(p.it i).free)=true:=by rw[hf];rfl
    rw[penC,hl,he,Int.zero_mul,Int.zero_add]
    refine ku108.R rfl rfl ?_
    unfold u108
    simp only[ups_cons,ups_nil,List.cons_append,List.nil_append]
    repeat' (first|(apply nrm;simp only[sbe];rfl)|(apply u_iteT;rfl;exact hfr)|(apply u_iteF;rfl;exact rfl)|(apply u_chk;rfl)|(apply u_eaddr;rfl;rfl;(·first|exact ea_cd hcar|exact ea_it hi);simp only[sbe];rfl)|(apply u_bin;rfl;rfl;(·exact bin_mul (by omega));simp only[sbe];rfl)|(apply u_ev;rfl;simp only[sbe];rfl)|(apply u_call;rfl;rfl;exact h119;rfl;simp only[sbe];rfl)|(apply u_and;rfl)|refine u_join ?_|exact u_ret rfl rfl|(apply u_ret;rfl;first|exact rfl|(refine retB ?_)|(refine retI ?_)|(refine retD ?_))|(intro hz;(try simp only[sbs] at hz)))
   ·have he:earlyN p (cd l car) i=0:=by rw[earlyN,if_neg (by rw[hf];simp)]
    have hfr:(true&&!(p.it i).free)=false:=by rw[hf];rfl
    rw[penC,hl,he,Int.zero_mul,Int.zero_mul]
    refine ku108.R rfl rfl ?_
    unfold u108
    simp only[ups_cons,ups_nil,List.cons_append,List.nil_append]
    repeat' (first|(apply nrm;simp only[sbe];rfl)|(apply u_iteF;rfl;(·first|exact rfl|exact hfr))|(apply u_chk;rfl)|(apply u_eaddr;rfl;rfl;(·first|exact ea_cd hcar|exact ea_it hi);simp only[sbe];rfl)|(apply u_ev;rfl;simp only[sbe];rfl)|(apply u_call;rfl;rfl;exact h119;rfl;simp only[sbe];rfl)|(apply u_and;rfl)|refine u_join ?_|(apply u_jump;rfl;rfl)|refine at_jump ?_|refine kj rfl ?_|exact u_ret rfl rfl|(intro hz;(try simp only[sbs] at hz)))
 ·have hk:sideK p (cd l car) i=0:=by rw[sideK,if_neg hct]
  have hp1:penC p (cd l car) i=0:=by
   have hl:lateN p (cd l car) i=0:=by rw[lateN,if_neg hct]
   have he:earlyN p (cd l car) i=0:=by rw[earlyN,if_neg (by simp[hct])]
   rw[penC,hl,he,Int.zero_mul,Int.zero_mul];rfl
  rw[hk] at h119
  rw[hk,hp1]
  refine ku108.R rfl rfl ?_
  unfold u108
  simp only[ups_cons,ups_nil,List.cons_append,List.nil_append]
  repeat' (first|(apply nrm;simp only[sbe];rfl)|(apply u_andF;rfl;exact rfl)|(apply u_iteF;rfl;exact rfl)|(apply u_chk;rfl)|(apply u_eaddr;rfl;rfl;exact ea_cd hcar;simp only[sbe];rfl)|(apply u_ev;rfl;simp only[sbe];rfl)|(apply u_call;rfl;rfl;exact h119;rfl;simp only[sbe];rfl)|refine u_join ?_|(apply u_jump;rfl;rfl)|refine at_jump ?_|refine kj rfl ?_|exact u_ret rfl rfl)

theorem c123 (hc:cardsOk p l=true){car n:Nat}{m:Int}(hm:m+1=n)(hn:n≤p.n)(hN:p.n≤100)(hcar:car<l.length):FSpecR Tryz.prog 123 (.st bs) [evD p l,In car,I m] (Ix (jmpTo p (cd l car) n)):=by
 have h:=(cards_ok hc).2 car hcar
 have hln:=h.len
 have hadd:D.bin .add .int (I m) (I 1)=some (In n):=by
  show some (I (IntKind.i64.wrap (m+1)))=_
  rw[hm,wrap64 (by omega)]
 refine ku123.R rfl rfl ?_
 unfold u123
 simp only[ups_cons,ups_nil,List.cons_append,List.nil_append]
 repeat' (first|(apply u_bin;rfl;rfl;exact hadd;simp only[sbe];rfl)|refine u_join ?_)
 refine u_range (fun k=>[Ix (jmpTo p (cd l car) k),In k]) (fun _=>True) n rfl (fun _=>rfl) trivial (fun k hk _ R hR=>?_) (fun _ R=>?_)
 ·have hlk:decide ((k:Int)<(n:Int))=true:=by simp;omega
  have hR:=hR trivial
  rw[jmpTo_succ] at hR
  have h55:=c55 (bs:=bs) (p:=p) hcar k
  have happ:=app_ix (xs:=jmpTo p (cd l car) k) (x:=k) (by have:=jmpTo_le (p:=p) (c:=cd l car) (n:=k);omega)
  cases hj:(((cd l car).ln k).jump&&runsB p (cd l car) k)
  ·rw[if_neg (by simp[hj])] at hR
   repeat' (first|(apply nrm;simp only[sbe];rfl)|(apply u_iteT;rfl;exact hlk)|(apply u_iteF;rfl;exact hj)|(apply u_chk;rfl)|(apply u_eaddr;rfl;rfl;(·first|exact ea_cd hcar|exact ea_ln (by omega));simp only[sbe];rfl)|(apply u_inc;rfl;omega;simp only[sbe];rfl)|(apply u_ev;rfl;simp only[sbe];rfl)|(apply u_call;rfl;rfl;exact h55;rfl;simp only[sbe];rfl)|(apply u_and;rfl)|refine u_join ?_|(apply u_jump;rfl;rfl)|refine at_jump ?_|refine kj rfl ?_|exact u_ret rfl rfl|(intro hz;(try simp only[sbs] at hz)))
   exact hR
  ·rw[if_pos hj] at hR
   repeat' (first|(apply nrm;simp only[sbe];rfl)|(apply u_iteT;rfl;(·first|exact hlk|exact hj))|(apply u_chk;rfl)|(apply u_eaddr;rfl;rfl;(·first|exact ea_cd hcar|exact ea_ln (by omega));simp only[sbe];rfl)|(apply u_app;rfl;rfl;exact happ;simp only[sbe];rfl)|(apply u_inc;rfl;omega;simp only[sbe];rfl)|(apply u_ev;rfl;simp only[sbe];rfl)|(apply u_call;rfl;rfl;exact h55;rfl;simp only[sbe];rfl)|(apply u_and;rfl)|refine u_join ?_|(apply u_jump;rfl;rfl)|refine at_jump ?_|refine kj rfl ?_|exact u_ret rfl rfl|(intro hz;(try simp only[sbs] at hz)))
   exact hR
 ·have hlf:decide ((n:Int)<(n:Int))=false:=by simp
  repeat' (first|(apply nrm;simp only[sbe];rfl)|(apply u_iteF;rfl;exact hlf)|(apply u_ev;rfl;simp only[sbe];rfl)|(apply u_jump;rfl;rfl)|refine at_jump ?_|(refine over_jump (by decide) ?_)|refine kj rfl ?_|exact u_ret rfl rfl)

theorem c109 (hok:p.ok=true)(hc:cardsOk p l=true){i car:Nat}(hi:i<p.n)(hcar:car<l.length)(hj:((cd l car).ln i).jump=true)(hr:runsB p (cd l car) i=true):FSpecR Tryz.prog 109 (.st bs) [evD p l,In car,In i] (I (jumpN p (cd l car) i)):=by
 have hh:=Plan.ok_head hok
 have hru:=Plan.ok_rules hok
 have h123:=c123 (bs:=bs) hc (car:=car) (n:=i+1) (m:=i) (by omega) (by omega) hh.1.2 hcar
 have hlen:(jmpTo p (cd l car) (i+1)).length=jumpK (cd l car) i+1:=by
  rw[jmpTo_len (.inr (by rwa [show((i+1:Nat):Int)-1=i by omega])),jumpK,if_pos hj]
 have hll:D.lenL (Ix (jmpTo p (cd l car) (i+1)))=some (In (jumpK (cd l car) i+1)):=by
  rw[←hlen]
  exact lenL_map
 have hmm:D.mm false (In (jumpK (cd l car) i+1)) (In p.jumps.length)=some (In (min (jumpK (cd l car) i) (p.jumps.length-1)+1)):=by
  rw[In,In,mm_min]
  congr 2
  omega
 have hle:=jumpK_le (c:=cd l car) i
 rw[jumpN,if_pos hj]
 refine ku109.R rfl rfl ?_
 unfold u109
 simp only[ups_cons,ups_nil,List.cons_append,List.nil_append]
 repeat' (first|(apply u_chk;rfl)|(apply u_eaddr;rfl;rfl;(·exact is_get (by omega));simp only[sbe];rfl)|(apply u_lenL;rfl;exact hll;simp only[sbe];rfl)|(apply u_mm;rfl;rfl;exact hmm;simp only[sbe];rfl)|(apply u_lenL;rfl;exact lenL_map;simp only[sbe];rfl)|(apply u_pred;rfl;omega;simp only[sbe];rfl)|(apply u_ev;rfl;simp only[sbe];rfl)|(apply u_call;rfl;rfl;exact h123;rfl;simp only[sbe];rfl)|exact u_ret rfl rfl)

theorem c57 (hp:p.Ok)(hok:p.ok=true)(hc:cardsOk p l=true){car:Nat}(hcar:car<l.length):FSpecR Tryz.prog 57 (.st bs) [evD p l,In car] (I (totN p l car)):=by
 have hh:=Plan.ok_head hok
 have hcs:=cards_ok hc
 have h:=hcs.2 car hcar
 have hln:=h.len
 refine ku57.R rfl rfl ?_
 unfold u57
 simp only[ups_cons,ups_nil,List.cons_append,List.nil_append]
 repeat' (first|(apply u_chk;rfl)|(apply u_lenL;rfl;exact ln_it;simp only[sbe];rfl)|(apply u_ev;rfl;simp only[sbe];rfl)|refine u_join ?_)
 refine u_range (fun i=>[I (totTo p l car i),In i]) (fun _=>True) p.n rfl (fun _=>rfl) trivial (fun i hi _ R hR=>?_) (fun _ R=>?_)
 ·have hR:=hR trivial
  have hli:decide ((i:Int)<(p.n:Int))=true:=by simp;omega
  have h55:=c55 (bs:=bs) (p:=p) hcar i
  cases hr:runsB p (cd l car) i
  ·rw[hr] at h55
   repeat' (first|(apply nrm;simp only[sbe];rfl)|(apply u_iteT;rfl;(·first|exact hli|exact rfl))|(apply u_ev;rfl;simp only[sbe];rfl)|(apply u_call;rfl;rfl;exact h55;rfl;simp only[sbe];rfl)|refine u_join ?_|(apply u_jump;rfl;rfl)|refine at_jump ?_|(refine over_jump (by decide) ?_)|refine kj rfl ?_|(apply u_ret;rfl;first|exact rfl|(refine retB ?_)|(refine retI ?_)|(refine retD ?_)))
   rw[totN,totTo_stop (Nat.le_of_lt hi) hr]
  ·rw[hr] at h55
   rw[totTo,if_pos hr] at hR
   have hb:=totTo_bd hok hc hcar (i:=i) (by omega)
   have hkd:=Plan.ok_kind hok hi
   have h54:=c54 (bs:=bs) (p:=p) (l:=l) hi
   have h56:=c56 (bs:=bs) hp hok hc hi hcar
   have h108:=c108 (bs:=bs) hok hc hi hcar
   have hb1:=timeN_bd hok hc hi hcar
   have hb2:=jumpN_bd hok (cd l car) i
   have hb3:=mul_bd (h.late hok hi) (Plan.ok_rules hok).1
   have hb4:=mul_bd (h.early hok hi) (Plan.ok_rules hok).2.1
   cases hk:(p.it i).kind==2
   ·have hj:=h.nojump hi (by simp at hk;omega)
    rw[costN,if_neg (by simpa using hk)] at hR
    rw[hk] at h54
    have hpc:penC p (cd l car) i=lateN p (cd l car) i*p.late+earlyN p (cd l car) i*p.early:=rfl
    repeat' (first|(apply nrm;simp only[sbe];rfl)|(apply u_iteT;rfl;exact hli)|(apply u_iteF;rfl;(·first|exact rfl|exact hj))|(apply u_chk;rfl)|(apply u_eaddr;rfl;rfl;(·first|exact ea_cd hcar|exact ea_ln (by omega));simp only[sbe];rfl)|(apply u_inc;rfl;omega;simp only[sbe];rfl)|(apply u_add;rfl;rfl;omega;simp only[sbe];rfl)|(apply u_ev;rfl;simp only[sbe];rfl)|(apply u_call;rfl;rfl;(·first|exact h55|exact h54|exact h108);rfl;simp only[sbe];rfl)|refine u_join ?_|(apply u_jump;rfl;rfl)|refine at_jump ?_|refine kj rfl ?_)
    exact hR
   ·have hct:ctl p (cd l car) i=false:=by simp at hk;simp[ctl,hk]
    have hpc:penC p (cd l car) i=0:=by simp[penC,lateN,earlyN,hct]
    rw[hk] at h54
    rw[hpc] at h108
    rw[costN,if_pos (by simpa using hk)] at hR
    cases hj:((cd l car).ln i).jump
    ·have hjn:jumpN p (cd l car) i=0:=by rw[jumpN,if_neg (by simp[hj])]
     rw[hjn] at hR
     repeat' (first|(apply nrm;simp only[sbe];rfl)|(apply u_iteT;rfl;(·first|exact hli|exact rfl))|(apply u_iteF;rfl;(·first|exact rfl|exact hj))|(apply u_chk;rfl)|(apply u_eaddr;rfl;rfl;(·first|exact ea_cd hcar|exact ea_ln (by omega));simp only[sbe];rfl)|(apply u_inc;rfl;omega;simp only[sbe];rfl)|(apply u_add;rfl;rfl;omega;simp only[sbe];rfl)|(apply u_ev;rfl;simp only[sbe];rfl)|(apply u_call;rfl;rfl;(·first|exact h55|exact h54|exact h56|exact h108);rfl;simp only[sbe];rfl)|refine u_join ?_|(apply u_jump;rfl;rfl)|refine at_jump ?_|refine kj rfl ?_)
     rwa [Int.add_zero] at hR ⊢
    ·have h109:=c109 (bs:=bs) hok hc hi hcar hj hr
     repeat' (first|(apply nrm;simp only[sbe];rfl)|(apply u_iteT;rfl;(·first|exact hli|exact rfl|exact hj))|(apply u_iteF;rfl;exact rfl)|(apply u_chk;rfl)|(apply u_eaddr;rfl;rfl;(·first|exact ea_cd hcar|exact ea_ln (by omega));simp only[sbe];rfl)|(apply u_inc;rfl;omega;simp only[sbe];rfl)|(apply u_add;rfl;rfl;omega;simp only[sbe];rfl)|(apply u_ev;rfl;simp only[sbe];rfl)|(apply u_call;rfl;rfl;(·first|exact h55|exact h54|exact h56|exact h108|exact h109);rfl;simp only[sbe];rfl)|refine u_join ?_|(apply u_jump;rfl;rfl)|refine at_jump ?_|refine kj rfl ?_)
     rw[Int.add_zero,Int.add_assoc]
     exact hR
 ·have hlf:decide ((p.n:Int)<(p.n:Int))=false:=by simp
  repeat' (first|(apply nrm;simp only[sbe];rfl)|(apply u_iteF;rfl;exact hlf)|(apply u_ev;rfl;simp only[sbe];rfl)|(apply u_jump;rfl;rfl)|refine at_jump ?_|(refine over_jump (by decide) ?_)|refine kj rfl ?_|exact u_ret rfl rfl)
  all_goals exact rfl

end Go.Am.Sc

/-
 Time and Total;the law of times.
-/
namespace Go.Am.Sc
open Go.Proofs
set_option maxRecDepth 100000
set_option maxHeartbeats 4000000

attribute [local irreducible] inR allR lineOk

variable {bs:List D} {p:Plan} {c:Card} {l:List Card}

theorem c23_bad (hp:p.Ok)(hl:CardsOk l){car:Int}(h:(p.ok&&cardsOk p l)=false∨(car<0∨(l.length:Int)≤car)):FSpecR Tryz.prog 23 (.st bs) [p.d,Cards l,I car] (.tup [I 0,I 2]):=by
 cases hb:p.ok&&cardsOk p l
 ·have h53:=c53_no (bs:=bs) hp hl hb
  refine ku23.R rfl rfl ?_
  unfold u23
  simp only[ups_cons,ups_nil,List.cons_append,List.nil_append]
  repeat' (first|(apply nrm;simp only[sbe];rfl)|(apply u_orT;rfl;exact rfl)|(apply u_iteT;rfl;exact rfl)|(apply u_chk;rfl)|(apply u_ev;rfl;simp only[sbe];rfl)|(apply u_call;rfl;rfl;exact h53;rfl;simp only[sbe];rfl)|exact u_ret rfl rfl)
 ·have hb2:=(Bool.and_eq_true _ _ ▸ hb:p.ok=true∧cardsOk p l=true)
  have h53:=c53_yes (bs:=bs) hp hl hb2.1 hb2.2
  have hn:=(cards_ok hb2.2).1
  have h46:=c46 (bs:=bs) car 0 (l.length-1)
  rw[inR_n (by rcases h with h | h;(rw[hb] at h;cases h);omega)] at h46
  refine ku23.R rfl rfl ?_
  unfold u23
  simp only[ups_cons,ups_nil,List.cons_append,List.nil_append]
  repeat' (first|(apply nrm;simp only[sbe];rfl)|(apply u_iteT;rfl;exact rfl)|(apply u_chk;rfl)|(apply u_lenL;rfl;exact lenL_map;simp only[sbe];rfl)|(apply u_sub;rfl;rfl;omega;simp only[sbe];rfl)|(apply u_ev;rfl;simp only[sbe];rfl)|(apply u_call;rfl;rfl;(·first|exact h53|exact h46);rfl;simp only[sbe];rfl)|(apply u_or;rfl)|exact u_ret rfl rfl|(intro hz;(try simp only[sbs] at hz)))

theorem c23_ok (hp:p.Ok)(hl:CardsOk l)(hok:p.ok=true)(hc:cardsOk p l=true){k:Nat}(hk:k<l.length):FSpecR Tryz.prog 23 (.st bs) [p.d,Cards l,In k] (.tup [I (totN p l k),I 0]):=by
 have h53:=c53_yes (bs:=bs) hp hl hok hc
 have hn:=(cards_ok hc).1
 have h46:=c46 (bs:=bs) k 0 (l.length-1)
 rw[inR_i (by omega)] at h46
 have h57:=c57 (bs:=bs) hp hok hc hk
 refine ku23.R rfl rfl ?_
 unfold u23
 simp only[ups_cons,ups_nil,List.cons_append,List.nil_append]
 repeat' (first|(apply nrm;simp only[sbe];rfl)|(apply u_iteF;rfl;exact rfl)|(apply u_chk;rfl)|(apply u_lenL;rfl;exact lenL_map;simp only[sbe];rfl)|(apply u_sub;rfl;rfl;omega;simp only[sbe];rfl)|(apply u_ev;rfl;simp only[sbe];rfl)|(apply u_call;rfl;rfl;(·first|exact h53|exact h46|exact h57);rfl;simp only[sbe];rfl)|(apply u_or;rfl)|exact u_ret rfl rfl|(intro hz;(try simp only[sbs] at hz)))

theorem c22_bad (hp:p.Ok)(hl:CardsOk l){car item:Int}(h:(p.ok&&cardsOk p l)=false∨(car<0∨(l.length:Int)≤car)∨(item<0∨(p.n:Int)≤item)∨¬(p.it item.toNat).kind=2):FSpecR Tryz.prog 22 (.st bs) [p.d,Cards l,I car,I item] (.tup [I 0,I 2]):=by
 cases hb:p.ok&&cardsOk p l
 ·have h53:=c53_no (bs:=bs) hp hl hb
  refine ku22.R rfl rfl ?_
  unfold u22
  simp only[ups_cons,ups_nil,List.cons_append,List.nil_append]
  repeat' (first|(apply nrm;simp only[sbe];rfl)|(apply u_orT;rfl;exact rfl)|(apply u_iteT;rfl;exact rfl)|(apply u_chk;rfl)|(apply u_ev;rfl;simp only[sbe];rfl)|(apply u_call;rfl;rfl;exact h53;rfl;simp only[sbe];rfl)|exact u_ret rfl rfl)
 ·have hb2:=(Bool.and_eq_true _ _ ▸ hb:p.ok=true∧cardsOk p l=true)
  have h53:=c53_yes (bs:=bs) hp hl hb2.1 hb2.2
  have hn:=(cards_ok hb2.2).1
  have hh:=Plan.ok_head hb2.1
  have h46:=c46 (bs:=bs) car 0 (l.length-1)
  have h46b:=c46 (bs:=bs) item 0 (p.n-1)
  by_cases h1:car<0∨(l.length:Int)≤car
  ·rw[inR_n (by omega)] at h46
   refine ku22.R rfl rfl ?_
   unfold u22
   simp only[ups_cons,ups_nil,List.cons_append,List.nil_append]
   repeat' (first|(apply nrm;simp only[sbe];rfl)|(apply u_orT;rfl;exact rfl)|(apply u_iteT;rfl;exact rfl)|(apply u_chk;rfl)|(apply u_lenL;rfl;exact lenL_map;simp only[sbe];rfl)|(apply u_sub;rfl;rfl;omega;simp only[sbe];rfl)|(apply u_ev;rfl;simp only[sbe];rfl)|(apply u_call;rfl;rfl;(·first|exact h53|exact h46);rfl;simp only[sbe];rfl)|(apply u_or;rfl)|exact u_ret rfl rfl|(intro hz;(try simp only[sbs] at hz)))
  ·rw[inR_i (by omega)] at h46
   by_cases h2:item<0∨(p.n:Int)≤item
   ·rw[inR_n (x:=item) (by omega)] at h46b
    refine ku22.R rfl rfl ?_
    unfold u22
    simp only[ups_cons,ups_nil,List.cons_append,List.nil_append]
    repeat' (first|(apply nrm;simp only[sbe];rfl)|(apply u_orT;rfl;exact rfl)|(apply u_iteT;rfl;exact rfl)|(apply u_chk;rfl)|(apply u_lenL;rfl;exact ln_it;simp only[sbe];rfl)|(apply u_lenL;rfl;exact lenL_map;simp only[sbe];rfl)|(apply u_sub;rfl;rfl;omega;simp only[sbe];rfl)|(apply u_ev;rfl;simp only[sbe];rfl)|(apply u_call;rfl;rfl;(·first|exact h53|exact h46b|exact h46);rfl;simp only[sbe];rfl)|(apply u_or;rfl)|exact u_ret rfl rfl|(intro hz;(try simp only[sbs] at hz)))
   ·rw[inR_i (x:=item) (by omega)] at h46b
    have h54:=c54 (bs:=bs) (p:=p) (l:=l) (i:=item.toNat) (by omega)
    rw[In,show((item.toNat:Nat):Int)=item by omega] at h54
    rw[show((p.it item.toNat).kind==2)=false by simp;rcases h with h | h | h | h;(rw[hb] at h;cases h);omega;omega;exact h] at h54
    refine ku22.R rfl rfl ?_
    unfold u22
    simp only[ups_cons,ups_nil,List.cons_append,List.nil_append]
    repeat' (first|(apply nrm;simp only[sbe];rfl)|(apply u_iteT;rfl;exact rfl)|(apply u_chk;rfl)|(apply u_lenL;rfl;exact ln_it;simp only[sbe];rfl)|(apply u_lenL;rfl;exact lenL_map;simp only[sbe];rfl)|(apply u_sub;rfl;rfl;omega;simp only[sbe];rfl)|(apply u_ev;rfl;simp only[sbe];rfl)|(apply u_call;rfl;rfl;(·first|exact h53|exact h46b|exact h46|exact h54);rfl;simp only[sbe];rfl)|(apply u_or;rfl)|exact u_ret rfl rfl|(intro hz;(try simp only[sbs] at hz)))

theorem c22_ok (hp:p.Ok)(hl:CardsOk l)(hok:p.ok=true)(hc:cardsOk p l=true){k i:Nat}(hk:k<l.length)(hi:i<p.n)(hs:(p.it i).kind=2):FSpecR Tryz.prog 22 (.st bs) [p.d,Cards l,In k,In i] (.tup [I (if runsB p (cd l k) i=true then timeN p l k i else 0),I (if runsB p (cd l k) i=true then 0 else 5)]):=by
 have h53:=c53_yes (bs:=bs) hp hl hok hc
 have hn:=(cards_ok hc).1
 have hh:=Plan.ok_head hok
 have h46:=c46 (bs:=bs) k 0 (l.length-1)
 have h46b:=c46 (bs:=bs) i 0 (p.n-1)
 rw[inR_i (by omega)] at h46
 rw[inR_i (by omega)] at h46b
 have h54:=c54 (bs:=bs) (p:=p) (l:=l) hi
 rw[show((p.it i).kind==2)=true by simp[hs]] at h54
 have h55:=c55 (bs:=bs) (p:=p) hk i
 have h56:=c56 (bs:=bs) hp hok hc hi hk
 cases hr:runsB p (cd l k) i
 ·rw[hr] at h55
  rw[if_neg (by simp),if_neg (by simp)]
  refine ku22.R rfl rfl ?_
  unfold u22
  simp only[ups_cons,ups_nil,List.cons_append,List.nil_append]
  repeat' (first|(apply nrm;simp only[sbe];rfl)|(apply u_iteT;rfl;exact rfl)|(apply u_iteF;rfl;exact rfl)|(apply u_chk;rfl)|(apply u_lenL;rfl;exact ln_it;simp only[sbe];rfl)|(apply u_lenL;rfl;exact lenL_map;simp only[sbe];rfl)|(apply u_sub;rfl;rfl;omega;simp only[sbe];rfl)|(apply u_ev;rfl;simp only[sbe];rfl)|(apply u_call;rfl;rfl;(·first|exact h53|exact h46b|exact h46|exact h54|exact h55);rfl;simp only[sbe];rfl)|(apply u_or;rfl)|exact u_ret rfl rfl|(intro hz;(try simp only[sbs] at hz)))
 ·rw[hr] at h55
  rw[if_pos rfl,if_pos rfl]
  refine ku22.R rfl rfl ?_
  unfold u22
  simp only[ups_cons,ups_nil,List.cons_append,List.nil_append]
  repeat' (first|(apply nrm;simp only[sbe];rfl)|(apply u_iteF;rfl;exact rfl)|(apply u_chk;rfl)|(apply u_lenL;rfl;exact ln_it;simp only[sbe];rfl)|(apply u_lenL;rfl;exact lenL_map;simp only[sbe];rfl)|(apply u_sub;rfl;rfl;omega;simp only[sbe];rfl)|(apply u_ev;rfl;simp only[sbe];rfl)|(apply u_call;rfl;rfl;(·first|exact h53|exact h46b|exact h46|exact h54|exact h55|exact h56);rfl;simp only[sbe];rfl)|(apply u_or;rfl)|exact u_ret rfl rfl|(intro hz;(try simp only[sbs] at hz)))

theorem c4 (hk:FSpecR Tryz.prog 17 (.st bs) [] (B true))(hp:p.Ok)(hl:CardsOk l)(car item:Int):FSpecW Tryz.prog 4 (.st bs) [p.d,Cards l,I car,I item] (B true) (.st bs):=by
 have h16:=c16 (bs:=bs) (l:=l) (most:=10) hl.2
 have h20:=c20 (bs:=bs) hp
 cases hok:p.ok
 ·rw[hok] at h20
  have h22:=c22_bad (bs:=bs) hp hl (car:=car) (item:=item) (.inl (by rw[hok];rfl))
  have h23:=c23_bad (bs:=bs) hp hl (car:=car) (.inl (by rw[hok];rfl))
  refine ku4.W rfl ?_
  unfold u4
  simp only[ups_cons,ups_nil,List.cons_append,List.nil_append]
  repeat' (first|(apply nrm;simp only[sbe];rfl)|(apply u_orT;rfl;exact rfl)|(apply u_chk;rfl)|(apply u_ev;rfl;simp only[sbe];rfl)|(apply u_call;rfl;rfl;(·first|exact c15|exact h16|exact h22|exact h23|exact h20|exact hk);rfl;simp only[sbe];rfl)|(apply u_or;rfl)|(apply u_and;rfl)|(apply u_ite;rfl;all_goals (intro hz;(try simp only[sbs] at hz);first|(exact absurd hz (by decide))|(exfalso;omega)|skip))|exact u_ret rfl rfl|(intro hz;(try simp only[sbs] at hz)))
  all_goals simp_all
 rw[hok] at h20
 have h24:=c24 (bs:=bs) hp hok hl
 cases hc:cardsOk p l
 ·rw[hc] at h24
  have h22:=c22_bad (bs:=bs) hp hl (car:=car) (item:=item) (.inl (by rw[hok,hc];rfl))
  have h23:=c23_bad (bs:=bs) hp hl (car:=car) (.inl (by rw[hok,hc];rfl))
  refine ku4.W rfl ?_
  unfold u4
  simp only[ups_cons,ups_nil,List.cons_append,List.nil_append]
  repeat' (first|(apply nrm;simp only[sbe];rfl)|(apply u_orT;rfl;exact rfl)|(apply u_chk;rfl)|(apply u_ev;rfl;simp only[sbe];rfl)|(apply u_call;rfl;rfl;(·first|exact c15|exact h16|exact h22|exact h23|exact h20|exact h24|exact hk);rfl;simp only[sbe];rfl)|(apply u_or;rfl)|(apply u_and;rfl)|(apply u_ite;rfl;all_goals (intro hz;(try simp only[sbs] at hz);first|(exact absurd hz (by decide))|(exfalso;omega)|skip))|exact u_ret rfl rfl|(intro hz;(try simp only[sbs] at hz)))
  all_goals simp_all
 rw[hc] at h24
 by_cases hcar:0≤car∧car<l.length
 ·obtain⟨k,rfl⟩:∃k:Nat,car=k:=⟨car.toNat,by omega⟩
  have hkl:k<l.length:=by omega
  have h23:=c23_ok (bs:=bs) hp hl hok hc hkl
  have h25:=c25 (bs:=bs) hp hok hc hkl
  by_cases hit:0≤item∧item<p.n
  ·obtain⟨i,rfl⟩:∃i:Nat,item=i:=⟨item.toNat,by omega⟩
   have hi:i<p.n:=by omega
   by_cases hs:(p.it i).kind=2
   ·have h22:=c22_ok (bs:=bs) hp hl hok hc hkl hi hs
    have h26:=c26 (bs:=bs) hp hok ((cards_ok hc).2 k hkl) i
    have h27:=c27 (bs:=bs) hp hok hc hi hkl
    cases hr:runsB p (cd l k) i
    ·rw[hr] at h26 h22
     refine ku4.W rfl ?_
     unfold u4
     simp only[ups_cons,ups_nil,List.cons_append,List.nil_append]
     repeat' (first|(apply nrm;simp only[sbe];rfl)|(apply u_chk;rfl)|(apply u_eaddr;rfl;rfl;(·first|exact ea_it hi|exact ea_cd hkl);simp only[sbe];rfl)|(apply u_lenL;rfl;exact ln_it;simp only[sbe];rfl)|(apply u_lenL;rfl;exact lenL_map;simp only[sbe];rfl)|(apply u_ev;rfl;simp only[sbe];rfl)|(apply u_call;rfl;rfl;(·first|exact c15|exact h16|exact h22|exact h23|exact h20|exact h24|exact h25|exact h26|exact hk);rfl;simp only[sbe];rfl)|(apply u_or;rfl)|(apply u_and;rfl)|(apply u_ite;rfl;all_goals (intro hz;(try simp only[sbs] at hz);first|(exact absurd hz (by decide))|(exfalso;omega)|skip))|exact u_ret rfl rfl|(intro hz;(try simp only[sbs] at hz)))
     all_goals simp_all
     all_goals (try omega)
    ·rw[hr] at h26 h22
     refine ku4.W rfl ?_
     unfold u4
     simp only[ups_cons,ups_nil,List.cons_append,List.nil_append]
     repeat' (first|(apply nrm;simp only[sbe];rfl)|(apply u_chk;rfl)|(apply u_eaddr;rfl;rfl;(·first|exact ea_it hi|exact ea_cd hkl);simp only[sbe];rfl)|(apply u_lenL;rfl;exact ln_it;simp only[sbe];rfl)|(apply u_lenL;rfl;exact lenL_map;simp only[sbe];rfl)|(apply u_ev;rfl;simp only[sbe];rfl)|(apply u_call;rfl;rfl;(·first|exact c15|exact h16|exact h22|exact h23|exact h20|exact h24|exact h25|exact h26|exact h27|exact hk);rfl;simp only[sbe];rfl)|(apply u_or;rfl)|(apply u_and;rfl)|(apply u_ite;rfl;all_goals (intro hz;(try simp only[sbs] at hz);first|(exact absurd hz (by decide))|(exfalso;omega)|skip))|exact u_ret rfl rfl|(apply u_ret;rfl;first|exact rfl|(refine retB ?_)|(refine retI ?_)|(refine retD ?_))|(intro hz;(try simp only[sbs] at hz)))
     all_goals simp_all
     all_goals (try omega)
   ·have h22:=c22_bad (bs:=bs) hp hl (car:=k) (item:=i) (.inr (.inr (.inr (by simpa using hs))))
    have ht:((p.it i).kind != 2)=true:=by simp[hs]
    refine ku4.W rfl ?_
    unfold u4
    simp only[ups_cons,ups_nil,List.cons_append,List.nil_append]
    repeat' (first|(apply nrm;simp only[sbe];rfl)|(apply u_chk;rfl)|(apply u_eaddr;rfl;rfl;exact ea_it hi;simp only[sbe];rfl)|(apply u_lenL;rfl;exact ln_it;simp only[sbe];rfl)|(apply u_lenL;rfl;exact lenL_map;simp only[sbe];rfl)|(apply u_ev;rfl;simp only[sbe];rfl)|(apply u_call;rfl;rfl;(·first|exact c15|exact h16|exact h22|exact h23|exact h20|exact h24|exact h25|exact hk);rfl;simp only[sbe];rfl)|(apply u_or;rfl)|(apply u_and;rfl)|(apply u_ite;rfl;all_goals (intro hz;(try simp only[sbs] at hz);first|(exact absurd hz (by decide))|(exfalso;omega)|skip))|exact u_ret rfl rfl|(intro hz;(try simp only[sbs] at hz)))
    all_goals simp_all
    all_goals (try omega)
  ·have h22:=c22_bad (bs:=bs) hp hl (car:=k) (item:=item) (.inr (.inr (.inl (by omega))))
   have ho:(decide (item<0)||decide (item≥(p.n:Int)))=true:=by simp;omega
   refine ku4.W rfl ?_
   unfold u4
   simp only[ups_cons,ups_nil,List.cons_append,List.nil_append]
   repeat' (first|(apply nrm;simp only[sbe];rfl)|(apply u_orT;rfl;exact ho)|(apply u_chk;rfl)|(apply u_lenL;rfl;exact ln_it;simp only[sbe];rfl)|(apply u_lenL;rfl;exact lenL_map;simp only[sbe];rfl)|(apply u_ev;rfl;simp only[sbe];rfl)|(apply u_call;rfl;rfl;(·first|exact c15|exact h16|exact h22|exact h23|exact h20|exact h24|exact h25|exact hk);rfl;simp only[sbe];rfl)|(apply u_or;rfl)|(apply u_and;rfl)|(apply u_ite;rfl;all_goals (intro hz;(try simp only[sbs] at hz);first|(exact absurd hz (by decide))|(exfalso;omega)|skip))|exact u_ret rfl rfl|(intro hz;(try simp only[sbs] at hz)))
   all_goals simp_all
   all_goals (try omega)
 ·have h22:=c22_bad (bs:=bs) hp hl (car:=car) (item:=item) (.inr (.inl (by omega)))
  have h23:=c23_bad (bs:=bs) hp hl (car:=car) (.inr (by omega))
  refine ku4.W rfl ?_
  unfold u4
  simp only[ups_cons,ups_nil,List.cons_append,List.nil_append]
  repeat' (first|(apply nrm;simp only[sbe];rfl)|(apply u_chk;rfl)|(apply u_lenL;rfl;exact lenL_map;simp only[sbe];rfl)|(apply u_ev;rfl;simp only[sbe];rfl)|(apply u_call;rfl;rfl;(·first|exact c15|exact h16|exact h22|exact h23|exact h20|exact h24|exact hk);rfl;simp only[sbe];rfl)|(apply u_or;rfl)|(apply u_and;rfl)|(apply u_ite;rfl;all_goals (intro hz;(try simp only[sbs] at hz);first|(exact absurd hz (by decide))|(exfalso;omega)|skip))|exact u_ret rfl rfl|(intro hz;(try simp only[sbs] at hz)))
  all_goals simp_all
  all_goals (try omega)

end Go.Am.Sc

/-
 The bounds of notional times.
-/
namespace Go.Am.Sc

theorem fmin_spec:∀(l:List Int) (a:Int),l.foldl min a≤a∧(∀x,x∈l→l.foldl min a≤x)∧(l.foldl min a=a∨l.foldl min a∈l)
 | [],a=>by simp
 | y :: l,a=>by
  obtain⟨h1,h2,h3⟩:=fmin_spec l (min a y)
  rw[List.foldl_cons]
  refine⟨by omega,fun x hx=>?_,?_⟩
  ·rcases List.mem_cons.1 hx with rfl | hx
   ·omega
   ·exact h2 x hx
  ·rcases h3 with h3 | h3
   ·rcases Int.le_total a y with h4 | h4
    ·exact .inl (by omega)
    ·exact .inr (by rw[show l.foldl min (min a y)=y by omega];exact List.mem_cons_self ..)
   ·exact .inr (List.mem_cons_of_mem _ h3)

theorem fmax_spec:∀(l:List Int) (a:Int),a≤l.foldl max a∧(∀x,x∈l→x≤l.foldl max a)
 | [],a=>by simp
 | y :: l,a=>by
  obtain⟨h1,h2⟩:=fmax_spec l (max a y)
  rw[List.foldl_cons]
  refine⟨by omega,fun x hx=>?_⟩
  rcases List.mem_cons.1 hx with rfl | hx
  ·omega
  ·exact h2 x hx

variable {p:Plan} {l:List Card}

def lowT (l:List Card)(i:Nat)(b:List Nat):Int:=(tms l i b).foldl min 36000000
def highT (l:List Card)(i:Nat)(b:List Nat):Int:=(tms l i b).foldl max 0

theorem least_mem {i:Nat}{b:List Nat}(h:b≠[]):least l i b∈tms l i b:=by
 have h0:0<(srt (tms l i b)).length:=by
  rw[srt_len,tms_len]
  exact List.length_pos_iff.2 h
 have e:least l i b=(srt (tms l i b))[0]:=by simp[least,List.getD,h0]
 rw[e]
 exact srt_mem.1 (List.getElem_mem h0)

theorem least_le {i:Nat}{b:List Nat}{x:Int}(h:x∈tms l i b):least l i b≤x:=by
 obtain⟨k,hk,rfl⟩:=List.mem_iff_getElem.1 (srt_mem.2 h)
 have h0:0<(srt (tms l i b)).length:=by omega
 have e:least l i b=(srt (tms l i b))[0]:=by simp[least,List.getD,h0]
 rw[e]
 rcases Nat.eq_zero_or_pos k with h1 | h1
 ·subst h1
  exact Int.le_refl _
 ·exact List.pairwise_iff_getElem.1 (srt_sorted (tms l i b)) 0 k h0 hk h1

theorem low_least (hc:cardsOk p l=true){i car:Nat}(hi:i<p.n)(h:basis p l i car≠[]):lowT l i (basis p l i car)=least l i (basis p l i car):=by
 obtain⟨h1,h2,h3⟩:=fmin_spec (tms l i (basis p l i car)) 36000000
 have h4:=h2 _ (least_mem h)
 have h5:=(basis_tm hc hi (least_mem h)).2
 unfold lowT
 rcases h3 with h3 | h3
 ·omega
 ·have:=least_le h3
  omega

theorem bef_mem {i:Nat}{m:Int}{T:List Int}:∀{b:List Nat} {s:Int×Int},(∀k,k∈b→tmK l i k∈T)→s.2∈T→(b.foldl (befF l i m) s).2∈T
 | [],s,_,h=>h
 | k :: b,s,hb,h=>by
  rw[List.foldl_cons]
  refine bef_mem (fun k hk=>hb k (List.mem_cons_of_mem _ hk)) ?_
  unfold befF
  split
  ·exact hb k (List.mem_cons_self ..)
  ·exact h

theorem getD_mem {b:List Int}{k:Nat}(h:k<b.length):(srt b).getD k 0∈b:=by
 have hk2:k<(srt b).length:=by rw[srt_len];exact h
 have e:(srt b).getD k 0=(srt b)[k]:=by simp[List.getD,hk2]
 rw[e]
 exact srt_mem.1 (List.getElem_mem hk2)

theorem notN_mem {i car:Nat}(h:basis p l i car≠[])(hn:p.notional≠4):notN p l car i∈tms l i (basis p l i car):=by
 have h0:0<(basis p l i car).length:=List.length_pos_iff.2 h
 have hl:(tms l i (basis p l i car)).length=(basis p l i car).length:=tms_len
 unfold notN
 rw[if_neg (by omega)]
 split
 ·exact getD_mem (by omega)
 ·split
  ·exact getD_mem (by omega)
  ·first | rw[if_neg hn] | skip
   exact bef_mem (fun k hk=>List.mem_map.2 ⟨k,hk,rfl⟩) (least_mem h)

theorem notN_share {i car:Nat}(h:basis p l i car≠[])(hn:p.notional=4):notN p l car i=(least l i (basis p l i car)*p.percent+99) / 100:=by
 have h0:0<(basis p l i car).length:=List.length_pos_iff.2 h
 unfold notN
 rw[if_neg (by omega),if_neg (by omega),if_neg (by omega),if_pos hn]

end Go.Am.Sc

/-
 The law of bounds.
-/
namespace Go.Am.Sc
open Go.Proofs
set_option maxRecDepth 100000
set_option maxHeartbeats 4000000

attribute [local irreducible] inR allR lineOk

variable {bs:List D} {p:Plan} {c:Card} {l:List Card}

theorem e_iteT {env:List D}{g x y:E}{q:Bool}{d:D}(hg:g.eval env=some (.v (.bool q)))(hq:q=true)(hx:x.eval env=some d):(E.ite g x y).eval env=some d:=by
 subst hq
 simp only[E.eval,hg,Option.bind_some,hx]


theorem c5 (hk:FSpecR Tryz.prog 17 (.st bs) [] (B true))(hp:p.Ok)(hl:CardsOk l)(car item:Int):FSpecW Tryz.prog 5 (.st bs) [p.d,Cards l,I car,I item] (B true) (.st bs):=by
 have h16:=c16 (bs:=bs) (l:=l) (most:=10) hl.2
 have h20:=c20 (bs:=bs) hp
 cases hok:p.ok
 ·rw[hok] at h20
  refine ku5.W rfl ?_
  unfold u5
  simp only[ups_cons,ups_nil,List.cons_append,List.nil_append]
  repeat' (first|(apply nrm;simp only[sbe];rfl)|(apply u_orT;rfl;(·first|exact rfl|exact Bool.or_true _))|(apply u_iteT;rfl;exact rfl)|(apply u_chk;rfl)|(apply u_ev;rfl;simp only[sbe];rfl)|(apply u_call;rfl;rfl;(·first|exact c15|exact h16|exact h20|exact hk);rfl;simp only[sbe];rfl)|(apply u_or;rfl)|exact u_ret rfl rfl|(intro hz;(try simp only[sbs] at hz)))
 rw[hok] at h20
 have h24:=c24 (bs:=bs) hp hok hl
 cases hc:cardsOk p l
 ·rw[hc] at h24
  refine ku5.W rfl ?_
  unfold u5
  simp only[ups_cons,ups_nil,List.cons_append,List.nil_append]
  repeat' (first|(apply nrm;simp only[sbe];rfl)|(apply u_orT;rfl;(·first|exact rfl|exact Bool.or_true _))|(apply u_iteT;rfl;exact rfl)|(apply u_chk;rfl)|(apply u_ev;rfl;simp only[sbe];rfl)|(apply u_call;rfl;rfl;(·first|exact c15|exact h16|exact h20|exact h24|exact hk);rfl;simp only[sbe];rfl)|(apply u_or;rfl)|exact u_ret rfl rfl|(intro hz;(try simp only[sbs] at hz)))
 rw[hc] at h24
 by_cases hcar:0≤car∧car<l.length
 ·obtain⟨k,rfl⟩:∃k:Nat,car=k:=⟨car.toNat,by omega⟩
  have hkl:k<l.length:=by omega
  by_cases hit:0≤item∧item<p.n
  ·obtain⟨i,rfl⟩:∃i:Nat,item=i:=⟨item.toNat,by omega⟩
   have hi:i<p.n:=by omega
   by_cases hs:(p.it i).kind=2
   ·have h22:=c22_ok (bs:=bs) hp hl hok hc hkl hi hs
    have h26:=c26 (bs:=bs) hp hok ((cards_ok hc).2 k hkl) i
    have h28:=c28 (bs:=bs) hp hok hc hi hkl
    cases hr:runsB p (cd l k) i
    ·rw[hr] at h26
     refine ku5.W rfl ?_
     unfold u5
     simp only[ups_cons,ups_nil,List.cons_append,List.nil_append]
     repeat' (first|(apply nrm;simp only[sbe];rfl)|(apply u_iteT;rfl;exact Bool.or_true _)|(apply u_chk;rfl)|(apply u_eaddr;rfl;rfl;(·first|exact ea_it hi|exact ea_cd hkl);simp only[sbe];rfl)|(apply u_lenL;rfl;exact ln_it;simp only[sbe];rfl)|(apply u_lenL;rfl;exact lenL_map;simp only[sbe];rfl)|(apply u_ev;rfl;simp only[sbe];rfl)|(apply u_call;rfl;rfl;(·first|exact c15|exact h16|exact h20|exact h24|exact h26|exact hk);rfl;simp only[sbe];rfl)|(apply u_or;rfl)|exact u_ret rfl rfl|(intro hz;(try simp only[sbs] at hz)))
     all_goals simp_all
    ·rw[hr] at h26 h22
     rw[if_pos rfl,if_pos rfl] at h22
     refine ku5.W rfl ?_
     unfold u5
     simp only[ups_cons,ups_nil,List.cons_append,List.nil_append]
     have hcs:=cards_ok hc
     have hcl:=(hcs.2 k hkl).len
     have hmk:=(hcs.2 k hkl).mark hi
     have hm:=Plan.ok_more hok
     have hru:=Plan.ok_rules hok
     have htb:=timeN_bd hok hc hi hkl
     have hlb:=least_bd hc (car:=k) hi
     have hbl:=basis_len (p:=p) (l:=l) (i:=i) (car:=k)
     have hmb:∀j,j∈basis p l i k→j<l.length∧i<(cd l j).lines.length:=fun j hj=>⟨(mem_basis hj).1,by rw[(hcs.2 j (mem_basis hj).1).len];exact hi⟩
     repeat' (first|(apply nrm;simp only[sbe];rfl)|(apply u_chk;rfl)|(apply u_eaddr;rfl;rfl;(·first|exact ea_it hi|exact ea_cd hkl);simp only[sbe];rfl)|(apply u_lenL;rfl;exact ln_it;simp only[sbe];rfl)|(apply u_lenL;rfl;exact lenL_map;simp only[sbe];rfl)|(apply u_ev;rfl;simp only[sbe];rfl)|(apply u_call;rfl;rfl;(·first|exact c15|exact h16|exact h20|exact h24|exact h26|exact h22|exact h28|exact hk);rfl;simp only[sbe];rfl)|(apply u_or;rfl)|refine u_join ?_|(apply u_ite;rfl;all_goals (intro hz;(try simp only[sbs] at hz);first|(exact absurd hz (by decide))|(exfalso;omega)|skip))|exact u_ret rfl rfl|(intro hz;(try simp only[sbs] at hz)))
     refine u_range (fun j=>[I ((tms l i ((basis p l i k).take j)).foldl min 36000000),I ((tms l i ((basis p l i k).take j)).foldl max 0),In j]) (fun _=>True) (basis p l i k).length rfl (fun _=>rfl) trivial (fun j hj _ R hR=>?_) (fun _ R=>?_)
     ·have hlj:decide ((j:Int)<((basis p l i k).length:Int))=true:=by simp;omega
      have hbj:=hmb _ (List.getElem_mem hj)
      have hR:=hR trivial
      rw[tms_take hj,List.foldl_append,List.foldl_append] at hR
      repeat' (first|(apply nrm;simp only[sbe];rfl)|(apply u_iteT;rfl;exact hlj)|(apply u_chk;rfl)|(apply u_eaddr;rfl;rfl;(·first|exact ix_get hj|exact ea_cd hbj.1|exact ea_ln hbj.2);simp only[sbe];rfl)|(apply u_mm;rfl;rfl;(·first|exact mm_min|exact mm_max);simp only[sbe];rfl)|(apply u_lenL;rfl;exact lenL_map;simp only[sbe];rfl)|(apply u_inc;rfl;omega;simp only[sbe];rfl)|(apply u_ev;rfl;simp only[sbe];rfl)|refine u_join ?_|(apply u_jump;rfl;rfl)|refine at_jump ?_|refine kj rfl ?_)
      exact hR
     ·have hlf:decide (((basis p l i k).length:Int)<((basis p l i k).length:Int))=false:=by simp
      rw[List.take_length]
      have hlow:basis p l i k≠[]→(tms l i (basis p l i k)).foldl min 36000000=least l i (basis p l i k):=low_least hc hi
      have hhi:=(fmax_spec (tms l i (basis p l i k)) 0).2
      have hne:basis p l i k≠[]↔¬(basis p l i k).length=0:=by rw[ne_eq,List.length_eq_zero_iff]
      generalize(tms l i (basis p l i k)).foldl min 36000000=lo at hlow ⊢
      generalize(tms l i (basis p l i k)).foldl max 0=hg at hhi ⊢
      by_cases h0:(basis p l i k).length=0
      ·rcases hmk with hmk | hmk | hmk
       ·have ht:timeN p l k i=tmK l i k:=by rw[timeN,if_pos hmk]
        rw[ht]
        repeat' (first|(apply nrm;simp only[sbe];rfl)|(apply u_iteF;rfl;exact hlf)|(apply u_chk;rfl)|(apply u_eaddr;rfl;rfl;(·first|exact ea_cd hkl|exact ea_ln (by omega));simp only[sbe];rfl)|(apply u_lenL;rfl;exact lenL_map;simp only[sbe];rfl)|(apply u_ev;rfl;simp only[sbe];rfl)|(apply u_call;rfl;rfl;exact hk;rfl;simp only[sbe];rfl)|(apply u_and;rfl)|refine u_join ?_|(apply u_jump;rfl;rfl)|refine at_jump ?_|(refine over_jump (by decide) ?_)|refine kj rfl ?_|(apply u_ite;rfl;all_goals (intro hz;(try simp only[sbs] at hz);first|(exact absurd hz (by decide))|(exfalso;omega)|skip))|exact u_ret rfl rfl|(apply u_ret;rfl;first|exact rfl|(refine retB ?_)|(refine retI ?_)|(refine retD ?_))|(intro hz;(try simp only[sbs] at hz)))
        all_goals simp_all [tmK]
       ·have ht:timeN p l k i=0:=by rw[timeN,if_neg (by omega),if_pos hmk,notN,if_pos h0]
        rw[ht]
        repeat' (first|(apply nrm;simp only[sbe];rfl)|(apply u_iteF;rfl;exact hlf)|(apply u_chk;rfl)|(apply u_eaddr;rfl;rfl;(·first|exact ea_cd hkl|exact ea_ln (by omega));simp only[sbe];rfl)|(apply u_lenL;rfl;exact lenL_map;simp only[sbe];rfl)|(apply u_ev;rfl;simp only[sbe];rfl)|(apply u_call;rfl;rfl;exact hk;rfl;simp only[sbe];rfl)|(apply u_and;rfl)|refine u_join ?_|(apply u_jump;rfl;rfl)|refine at_jump ?_|(refine over_jump (by decide) ?_)|refine kj rfl ?_|(apply u_ite;rfl;all_goals (intro hz;(try simp only[sbs] at hz);first|(exact absurd hz (by decide))|(exfalso;omega)|skip))|exact u_ret rfl rfl|(intro hz;(try simp only[sbs] at hz)))
        all_goals simp_all
       ·have ht:timeN p l k i=p.missed:=by rw[timeN,if_neg (by omega),if_neg (by omega),if_neg (by omega),Int.zero_add]
        rw[ht]
        repeat' (first|(apply nrm;simp only[sbe];rfl)|(apply u_iteF;rfl;exact hlf)|(apply u_chk;rfl)|(apply u_eaddr;rfl;rfl;(·first|exact ea_cd hkl|exact ea_ln (by omega));simp only[sbe];rfl)|(apply u_lenL;rfl;exact lenL_map;simp only[sbe];rfl)|(apply u_ev;rfl;simp only[sbe];rfl)|(apply u_call;rfl;rfl;exact hk;rfl;simp only[sbe];rfl)|(apply u_and;rfl)|refine u_join ?_|(apply u_jump;rfl;rfl)|refine at_jump ?_|(refine over_jump (by decide) ?_)|refine kj rfl ?_|(apply u_ite;rfl;all_goals (intro hz;(try simp only[sbs] at hz);first|(exact absurd hz (by decide))|(exfalso;omega)|skip))|exact u_ret rfl rfl|(apply u_ret;rfl;first|exact rfl|(refine retB ?_)|(refine retI ?_)|(refine retD ?_))|(intro hz;(try simp only[sbs] at hz)))
        all_goals simp_all
      ·have hlo:=hlow (hne.2 h0)
       subst hlo
       rcases hmk with hmk | hmk | hmk
       ·have ht:timeN p l k i=tmK l i k:=by rw[timeN,if_pos hmk]
        rw[ht]
        repeat' (first|(apply nrm;simp only[sbe];rfl)|(apply u_iteF;rfl;exact hlf)|(apply u_chk;rfl)|(apply u_eaddr;rfl;rfl;(·first|exact ea_cd hkl|exact ea_ln (by omega));simp only[sbe];rfl)|(apply u_lenL;rfl;exact lenL_map;simp only[sbe];rfl)|(apply u_ev;rfl;simp only[sbe];rfl)|(apply u_call;rfl;rfl;exact hk;rfl;simp only[sbe];rfl)|(apply u_and;rfl)|refine u_join ?_|(apply u_jump;rfl;rfl)|refine at_jump ?_|(refine over_jump (by decide) ?_)|refine kj rfl ?_|(apply u_ite;rfl;all_goals (intro hz;(try simp only[sbs] at hz);first|(exact absurd hz (by decide))|(exfalso;omega)|skip))|exact u_ret rfl rfl|(apply u_ret;rfl;first|exact rfl|(refine retB ?_)|(refine retI ?_)|(refine retD ?_))|(intro hz;(try simp only[sbs] at hz)))
        all_goals simp_all [tmK]
       ·have ht:timeN p l k i=notN p l k i:=by rw[timeN,if_neg (by omega),if_pos hmk]
        rw[ht] at htb ⊢
        by_cases h4:p.notional=4
        ·have hsh:=notN_share (hne.2 h0) h4
         have hmul:=mul_bd hlb ⟨(by omega:0≤p.percent),hm.2.1.2⟩
         repeat' (first|(apply nrm;simp only[sbe];rfl)|(apply u_iteF;rfl;exact hlf)|(apply u_chk;rfl)|(apply u_eaddr;rfl;rfl;(·first|exact ea_cd hkl|exact ea_ln (by omega));simp only[sbe];rfl)|(apply u_lenL;rfl;exact lenL_map;simp only[sbe];rfl)|(apply u_bin;rfl;rfl;(·exact bin_mul (by omega));simp only[sbe];rfl)|(apply u_sub;rfl;rfl;omega;simp only[sbe];rfl)|(apply u_ev;rfl;simp only[sbe];rfl)|(apply u_call;rfl;rfl;exact hk;rfl;simp only[sbe];rfl)|(apply u_and;rfl)|refine u_join ?_|(apply u_jump;rfl;rfl)|refine at_jump ?_|(refine over_jump (by decide) ?_)|refine kj rfl ?_|(apply u_ite;rfl;all_goals (intro hz;(try simp only[sbs] at hz);first|(exact absurd hz (by decide))|(exfalso;omega)|skip))|exact u_ret rfl rfl|(apply u_ret;rfl;first|exact rfl|(refine retB ?_)|(refine retI ?_)|(refine retD ?_))|(intro hz;(try simp only[sbs] at hz)))
         all_goals simp_all
         all_goals (try omega)
        ·have hmem:=notN_mem (hne.2 h0) h4
         have hle:=least_le hmem
         have hge:=hhi _ hmem
         repeat' (first|(apply nrm;simp only[sbe];rfl)|(apply u_iteF;rfl;exact hlf)|(apply u_chk;rfl)|(apply u_eaddr;rfl;rfl;(·first|exact ea_cd hkl|exact ea_ln (by omega));simp only[sbe];rfl)|(apply u_lenL;rfl;exact lenL_map;simp only[sbe];rfl)|(apply u_ev;rfl;simp only[sbe];rfl)|refine u_join ?_|(apply u_jump;rfl;rfl)|refine at_jump ?_|(refine over_jump (by decide) ?_)|refine kj rfl ?_|(apply u_ite;rfl;all_goals (intro hz;(try simp only[sbs] at hz);first|(exact absurd hz (by decide))|(exfalso;omega)|skip)))
         refine u_range (fun j=>[B ((tms l i ((basis p l i k).take j)).any fun x=>x==notN p l k i),In j]) (fun _=>True) (basis p l i k).length rfl (fun _=>rfl) trivial (fun j hj _ R hR=>?_) (fun _ R=>?_)
         ·have hlj:decide ((j:Int)<((basis p l i k).length:Int))=true:=by simp;omega
          have hbj:=hmb _ (List.getElem_mem hj)
          have hR:=hR trivial
          rw[tms_take hj,List.any_append] at hR
          simp only[List.any_cons,List.any_nil,Bool.or_false] at hR
          repeat' (first|(apply nrm;simp only[sbe];rfl)|(apply u_iteT;rfl;exact hlj)|(apply u_chk;rfl)|(apply u_eaddr;rfl;rfl;(·first|exact ix_get hj|exact ea_cd hbj.1|exact ea_ln hbj.2);simp only[sbe];rfl)|(apply u_lenL;rfl;exact lenL_map;simp only[sbe];rfl)|(apply u_inc;rfl;omega;simp only[sbe];rfl)|(apply u_ev;rfl;simp only[sbe];rfl)|(apply u_or;rfl)|refine u_join ?_|(apply u_jump;rfl;rfl)|refine at_jump ?_|refine kj rfl ?_|exact u_ret rfl rfl|(intro hz;(try simp only[sbs] at hz)))
          exact hR
         ·rw[List.take_length]
          have hany:((tms l i (basis p l i k)).any fun x=>x==notN p l k i)=true:=List.any_eq_true.2 ⟨_,hmem,by simp⟩
          rw[hany]
          have hcmp:(decide (least l i (basis p l i k)≤notN p l k i)&&decide (notN p l k i≤hg))=true:=by simp[hle,hge]
          repeat' (first|(apply nrm;simp only[sbe];rfl)|(apply u_iteF;rfl;exact hlf)|(apply u_chk;rfl)|(apply u_lenL;rfl;exact lenL_map;simp only[sbe];rfl)|(apply u_ev;exact e_iteT rfl hcmp rfl;simp only[sbe];rfl)|(apply u_ev;rfl;simp only[sbe];rfl)|(apply u_call;rfl;rfl;exact hk;rfl;simp only[sbe];rfl)|(apply u_and;rfl)|(apply u_jump;rfl;rfl)|refine at_jump ?_|(refine over_jump (by decide) ?_)|refine kj rfl ?_|exact u_ret rfl rfl|(intro hz;(try simp only[sbs] at hz)))
       ·have ht:timeN p l k i=least l i (basis p l i k)+p.missed:=by rw[timeN,if_neg (by omega),if_neg (by omega),if_pos (by omega)]
        rw[ht]
        repeat' (first|(apply nrm;simp only[sbe];rfl)|(apply u_iteF;rfl;exact hlf)|(apply u_chk;rfl)|(apply u_eaddr;rfl;rfl;(·first|exact ea_cd hkl|exact ea_ln (by omega));simp only[sbe];rfl)|(apply u_lenL;rfl;exact lenL_map;simp only[sbe];rfl)|(apply u_add;rfl;rfl;omega;simp only[sbe];rfl)|(apply u_ev;rfl;simp only[sbe];rfl)|(apply u_call;rfl;rfl;exact hk;rfl;simp only[sbe];rfl)|(apply u_and;rfl)|refine u_join ?_|(apply u_jump;rfl;rfl)|refine at_jump ?_|(refine over_jump (by decide) ?_)|refine kj rfl ?_|(apply u_ite;rfl;all_goals (intro hz;(try simp only[sbs] at hz);first|(exact absurd hz (by decide))|(exfalso;omega)|skip))|exact u_ret rfl rfl|(apply u_ret;rfl;first|exact rfl|(refine retB ?_)|(refine retI ?_)|(refine retD ?_))|(intro hz;(try simp only[sbs] at hz)))
        all_goals simp_all
   ·have ht:((p.it i).kind != 2)=true:=by simp[hs]
    refine ku5.W rfl ?_
    unfold u5
    simp only[ups_cons,ups_nil,List.cons_append,List.nil_append]
    repeat' (first|(apply nrm;simp only[sbe];rfl)|(apply u_iteT;rfl;exact Bool.or_true _)|(apply u_chk;rfl)|(apply u_eaddr;rfl;rfl;(·first|exact ea_it hi|exact ea_cd hkl);simp only[sbe];rfl)|(apply u_lenL;rfl;exact ln_it;simp only[sbe];rfl)|(apply u_lenL;rfl;exact lenL_map;simp only[sbe];rfl)|(apply u_ev;rfl;simp only[sbe];rfl)|(apply u_call;rfl;rfl;(·first|exact c15|exact h16|exact h20|exact h24|exact hk);rfl;simp only[sbe];rfl)|(apply u_or;rfl)|exact u_ret rfl rfl|(intro hz;(try simp only[sbs] at hz)))
    all_goals simp_all
  ·have ho:(decide (item<0)||decide (item≥(p.n:Int)))=true:=by simp;omega
   refine ku5.W rfl ?_
   unfold u5
   simp only[ups_cons,ups_nil,List.cons_append,List.nil_append]
   repeat' (first|(apply nrm;simp only[sbe];rfl)|(apply u_orT;rfl;exact Bool.or_true _)|(apply u_iteT;rfl;exact rfl)|(apply u_chk;rfl)|(apply u_lenL;rfl;exact ln_it;simp only[sbe];rfl)|(apply u_lenL;rfl;exact lenL_map;simp only[sbe];rfl)|(apply u_ev;rfl;simp only[sbe];rfl)|(apply u_call;rfl;rfl;(·first|exact c15|exact h16|exact h20|exact h24|exact hk);rfl;simp only[sbe];rfl)|(apply u_or;rfl)|exact u_ret rfl rfl|(intro hz;(try simp only[sbs] at hz)))
   all_goals simp_all
 ·have ho:(decide (car<0)||decide (car≥(l.length:Int)))=true:=by simp;omega
  refine ku5.W rfl ?_
  unfold u5
  simp only[ups_cons,ups_nil,List.cons_append,List.nil_append]
  repeat' (first|(apply nrm;simp only[sbe];rfl)|(apply u_orT;rfl;exact Bool.or_true _)|(apply u_iteT;rfl;exact rfl)|(apply u_chk;rfl)|(apply u_lenL;rfl;exact lenL_map;simp only[sbe];rfl)|(apply u_ev;rfl;simp only[sbe];rfl)|(apply u_call;rfl;rfl;(·first|exact c15|exact h16|exact h20|exact h24|exact hk);rfl;simp only[sbe];rfl)|(apply u_or;rfl)|exact u_ret rfl rfl|(intro hz;(try simp only[sbs] at hz)))
  all_goals simp_all

end Go.Am.Sc

/-
 Times and totals do not depend on the order of the cards.
-/
namespace Go.Am.Sc

variable {p:Plan} {l l':List Card} {i:Nat}

def realC (p:Plan)(i:Nat)(cls:Int)(c:Card):Bool:=(c.ln i).mark==0&&(runsB p c i&&(decide (cls<0)||c.cls==cls))

theorem range_cd (l:List Card):(List.range l.length).map (cd l)=l:=by
 refine List.ext_getElem (by simp) fun k h1 h2=>?_
 simp[cd,List.getD,h2]

theorem real_map (cls:Int):(realN p l i cls).map (cd l)=l.filter (realC p i cls):=by
 have h:isReal p l i cls=realC p i cls ∘ cd l:=rfl
 rw[realN,realTo,h,←List.filter_map,range_cd]

def basC (p:Plan)(l:List Card)(i:Nat)(cls:Int):List Card:=if 0<(l.filter (realC p i cls)).length then l.filter (realC p i cls) else l.filter (realC p i (-1))

theorem basis_map (car:Nat):(basis p l i car).map (cd l)=basC p l i (cd l car).cls:=by
 have h1:=real_map (p:=p) (l:=l) (i:=i) (cd l car).cls
 have h2:=congrArg List.length h1
 rw[List.length_map] at h2
 unfold basis basC
 rw[h2]
 split
 ·exact h1
 ·exact real_map (-1)

theorem basC_perm (h:l'.Perm l)(cls:Int):(basC p l' i cls).Perm (basC p l i cls):=by
 have h1:=h.filter (realC p i cls)
 unfold basC
 rw[h1.length_eq]
 split
 ·exact h1
 ·exact h.filter _

theorem tms_map (b:List Nat):tms l i b=(b.map (cd l)).map fun c=>(c.ln i).time:=by
 rw[List.map_map]
 rfl

theorem tms_perm (h:l'.Perm l){a b:Nat}(e:cd l' a=cd l b):(tms l' i (basis p l' i a)).Perm (tms l i (basis p l i b)):=by
 rw[tms_map,tms_map,basis_map,basis_map,e]
 exact(basC_perm h _).map _

theorem srt_eq {a b:List Int}(h:a.Perm b):srt a=srt b:=sorted_unique (srt_sorted a) (srt_sorted b) ((srt_perm a).trans (h.trans (srt_perm b).symm))

def befC (i:Nat)(m:Int)(s:Int×Int)(c:Card):Int×Int:=
 if(c.ln i).minute≤m∧((c.ln i).minute > s.1∨(c.ln i).minute=s.1∧(c.ln i).time > s.2) then((c.ln i).minute,(c.ln i).time) else s

theorem bef_map (m:Int)(s:Int×Int)(b:List Nat):b.foldl (befF l i m) s=(b.map (cd l)).foldl (befC i m) s:=by
 rw[List.foldl_map]
 rfl

theorem befC_comm (m:Int)(s:Int×Int)(a b:Card):befC i m (befC i m s a) b=befC i m (befC i m s b) a:=by
 have key:∀(x y u v p q:Int),(if x≤m∧(x > (if u≤m∧(u > p∨u=p∧v > q) then((u,v):Int×Int) else(p,q)).1∨x=(if u≤m∧(u > p∨u=p∧v > q) then((u,v):Int×Int) else(p,q)).1∧y > (if u≤m∧(u > p∨u=p∧v > q) then((u,v):Int×Int) else(p,q)).2) then(x,y) else(if u≤m∧(u > p∨u=p∧v > q) then((u,v):Int×Int) else(p,q))) =
   (if u≤m∧(u > (if x≤m∧(x > p∨x=p∧y > q) then((x,y):Int×Int) else(p,q)).1∨u=(if x≤m∧(x > p∨x=p∧y > q) then((x,y):Int×Int) else(p,q)).1∧v > (if x≤m∧(x > p∨x=p∧y > q) then((x,y):Int×Int) else(p,q)).2) then(u,v) else(if x≤m∧(x > p∨x=p∧y > q) then((x,y):Int×Int) else(p,q))):=by
  intro x y u v p q
  by_cases h1:u≤m∧(u > p∨u=p∧v > q) <;> by_cases h2:x≤m∧(x > p∨x=p∧y > q)
  ·rw[if_pos h1,if_pos h2]
   split
   ·split
    ·exfalso;omega
    ·rfl
   ·split
    ·rfl
    ·simp only[Prod.mk.injEq]
     omega
  ·simp only[if_pos h1,if_neg h2]
   split
   ·exfalso;omega
   ·rfl
  ·simp only[if_neg h1,if_pos h2]
   split
   ·exfalso;omega
   ·rfl
  ·simp only[if_neg h1,if_neg h2]
 obtain⟨p,q⟩:=s
 exact key _ _ _ _ p q

theorem bef_perm {b b':List Card}(h:b'.Perm b)(m:Int)(s:Int×Int):b'.foldl (befC i m) s=b.foldl (befC i m) s:=
 h.foldl_eq' (fun x _ y _ z=>befC_comm m z x y) s

theorem notN_perm (h:l'.Perm l){a b:Nat}(e:cd l' a=cd l b):notN p l' a i=notN p l b i:=by
 have hT:=srt_eq (tms_perm (p:=p) (i:=i) h e)
 have hL:(basis p l' i a).length=(basis p l i b).length:=by
  have:=(tms_perm (p:=p) (i:=i) h e).length_eq
  rwa [tms_len,tms_len] at this
 have hle:least l' i (basis p l' i a)=least l i (basis p l i b):=by rw[least,least,hT]
 have hB:(basis p l' i a).foldl (befF l' i (mnK l' i a)) (-1,least l' i (basis p l' i a))=(basis p l i b).foldl (befF l i (mnK l i b)) (-1,least l i (basis p l i b)):=by
  rw[bef_map,bef_map,basis_map,basis_map,hle,e,show mnK l' i a=mnK l i b by rw[mnK,mnK,e]]
  exact bef_perm (basC_perm h _) _ _
 unfold notN
 rw[hT,hL,hle,←hle,hB,hle]

theorem timeN_perm (h:l'.Perm l){a b:Nat}(e:cd l' a=cd l b):timeN p l' a i=timeN p l b i:=by
 have hT:=srt_eq (tms_perm (p:=p) (i:=i) h e)
 have hL:(basis p l' i a).length=(basis p l i b).length:=by
  have:=(tms_perm (p:=p) (i:=i) h e).length_eq
  rwa [tms_len,tms_len] at this
 have hle:least l' i (basis p l' i a)=least l i (basis p l i b):=by rw[least,least,hT]
 unfold timeN
 rw[e,notN_perm h e,hle,hL,show tmK l' i a=tmK l i b by rw[tmK,tmK,e]]

theorem totTo_perm (h:l'.Perm l){a b:Nat}(e:cd l' a=cd l b):∀n,totTo p l' a n=totTo p l b n
 | 0=>rfl
 | n+1=>by
  rw[totTo,totTo,totTo_perm h e n,e,costN,costN,timeN_perm h e,e]

theorem totN_perm (h:l'.Perm l){a b:Nat}(e:cd l' a=cd l b):totN p l' a=totN p l b:=totTo_perm h e p.n

theorem cardsOk_perm (h:l'.Perm l)(hc:cardsOk p l=true):cardsOk p l'=true:=by
 simp only[cardsOk,Bool.and_eq_true,decide_eq_true_eq,List.all_eq_true] at hc ⊢
 exact⟨by rw[h.length_eq];exact hc.1,fun x hx=>hc.2 x (h.mem_iff.1 hx)⟩

theorem cd_reverse {k:Nat}(h:k<l.length):cd l.reverse (l.length-1-k)=cd l k:=by
 have h1:l.length-1-k<l.reverse.length:=by simp;omega
 have e:cd l.reverse (l.length-1-k)=l.reverse[l.length-1-k]:=by
  rw[cd,List.getD,List.getElem?_eq_getElem h1]
  rfl
 rw[e,List.getElem_reverse]
 have:l.length-1-(l.length-1-k)=k:=by omega
 simp[this,cd,List.getD,h]

end Go.Am.Sc

/-
 The law of turned cards.
-/
namespace Go.Am.Sc
open Go.Proofs
set_option maxRecDepth 100000
set_option maxHeartbeats 4000000

attribute [local irreducible] inR allR lineOk

variable {bs:List D} {p:Plan} {c:Card} {l:List Card}

theorem app_cd {xs:List Card}{x:Card}(h:xs.length≤100000):D.app 3 56 (Cards xs) (.lst [x.d])=some (Cards (xs++[x])):=app1_lst (enc:=Card.d) (by omega) (Nat.le_trans (Nat.succ_le_succ h) (by decide)) (fun _=>rfl)

theorem c7 (hk:FSpecR Tryz.prog 17 (.st bs) [] (B true))(hp:p.Ok)(hl:CardsOk l)(car item:Int):FSpecW Tryz.prog 7 (.st bs) [p.d,Cards l,I car,I item] (B true) (.st bs):=by
 have h16:=c16 (bs:=bs) (l:=l) (most:=20) hl.2
 have h20:=c20 (bs:=bs) hp
 cases hok:p.ok
 ·rw[hok] at h20
  refine ku7.W rfl ?_
  unfold u7
  simp only[ups_cons,ups_nil,List.cons_append,List.nil_append]
  repeat' (first|(apply nrm;simp only[sbe];rfl)|(apply u_orT;rfl;(·first|exact rfl|exact Bool.or_true _))|(apply u_iteT;rfl;exact rfl)|(apply u_chk;rfl)|(apply u_ev;rfl;simp only[sbe];rfl)|(apply u_call;rfl;rfl;(·first|exact c15|exact h16|exact h20|exact hk);rfl;simp only[sbe];rfl)|(apply u_or;rfl)|exact u_ret rfl rfl|(intro hz;(try simp only[sbs] at hz)))
 rw[hok] at h20
 have h24:=c24 (bs:=bs) hp hok hl
 cases hc:cardsOk p l
 ·rw[hc] at h24
  refine ku7.W rfl ?_
  unfold u7
  simp only[ups_cons,ups_nil,List.cons_append,List.nil_append]
  repeat' (first|(apply nrm;simp only[sbe];rfl)|(apply u_orT;rfl;(·first|exact rfl|exact Bool.or_true _))|(apply u_iteT;rfl;exact rfl)|(apply u_chk;rfl)|(apply u_ev;rfl;simp only[sbe];rfl)|(apply u_call;rfl;rfl;(·first|exact c15|exact h16|exact h20|exact h24|exact hk);rfl;simp only[sbe];rfl)|(apply u_or;rfl)|exact u_ret rfl rfl|(intro hz;(try simp only[sbs] at hz)))
 rw[hc] at h24
 by_cases hcar:0≤car∧car<l.length
 ·obtain⟨k,rfl⟩:∃k:Nat,car=k:=⟨car.toNat,by omega⟩
  have hkl:k<l.length:=by omega
  have hcs:=cards_ok hc
  have hl2:CardsOk l.reverse:=⟨fun x hx=>hl.1 x (by simpa using hx),by simpa using hl.2⟩
  have hc2:cardsOk p l.reverse=true:=cardsOk_perm (List.reverse_perm l) hc
  have hk2:l.length-1-k<l.reverse.length:=by simp;omega
  have hcd:=cd_reverse hkl
  have h23:=c23_ok (bs:=bs) hp hl hok hc hkl
  have h23b:=c23_ok (bs:=bs) hp hl2 hok hc2 hk2
  rw[totN_perm (List.reverse_perm l) hcd,In,show((l.length-1-k:Nat):Int)=(l.length:Int)-1-k by omega] at h23b
  obtain⟨t,e,h22,h22b⟩:∃t e:Int,FSpecR Tryz.prog 22 (.st bs) [p.d,Cards l,In k,I item] (.tup [I t,I e])∧FSpecR Tryz.prog 22 (.st bs) [p.d,Cards l.reverse,I ((l.length:Int)-1-k),I item] (.tup [I t,I e]):=by
   by_cases hit:(0≤item∧item<p.n)∧(p.it item.toNat).kind=2
   ·obtain⟨i,rfl⟩:∃i:Nat,item=i:=⟨item.toNat,by omega⟩
    have hi:i<p.n:=by omega
    have h1:=c22_ok (bs:=bs) hp hl hok hc hkl hi hit.2
    have h2:=c22_ok (bs:=bs) hp hl2 hok hc2 hk2 hi hit.2
    rw[timeN_perm (List.reverse_perm l) hcd,hcd,In,show((l.length-1-k:Nat):Int)=(l.length:Int)-1-k by omega] at h2
    exact⟨_,_,h1,h2⟩
   ·refine⟨0,2,c22_bad hp hl (.inr (.inr ?_)),c22_bad hp hl2 (.inr (.inr ?_))⟩
    all_goals
     by_cases h3:item<0∨(p.n:Int)≤item
     ·exact .inl h3
     ·exact .inr fun h4=>hit ⟨by omega,h4⟩
  refine ku7.W rfl ?_
  unfold u7
  simp only[ups_cons,ups_nil,List.cons_append,List.nil_append]
  repeat' (first|(apply nrm;simp only[sbe];rfl)|(apply u_chk;rfl)|(apply u_lenL;rfl;exact lenL_map;simp only[sbe];rfl)|(apply u_sub;rfl;rfl;omega;simp only[sbe];rfl)|(apply u_ev;rfl;simp only[sbe];rfl)|(apply u_call;rfl;rfl;(·first|exact c15|exact h16|exact h20|exact h24|exact hk);rfl;simp only[sbe];rfl)|(apply u_or;rfl)|refine u_join ?_|(apply u_ite;rfl;all_goals (intro hz;(try simp only[sbs] at hz);first|(exact absurd hz (by decide))|(exfalso;omega)|skip))|exact u_ret rfl rfl|(intro hz;(try simp only[sbs] at hz)))
  refine u_range (fun j=>[Cards (l.reverse.take j),I ((l.length:Int)-1-j)]) (fun _=>True) l.length ?_ (fun _=>rfl) trivial (fun j hj _ R hR=>?_) (fun _ R=>?_)
  ·simp only[List.take_zero,Int.ofNat_zero,Int.sub_zero]
   rfl
  ·have hlj:decide ((l.length:Int)-1-j≥0)=true:=by simp;omega
   have hR:=hR trivial
   have hjr:j<l.reverse.length:=by simpa using hj
   have he:l.reverse.take (j+1)=l.reverse.take j++[cd l (l.length-1-j)]:=by
    rw[List.take_add_one,List.getElem?_eq_getElem hjr,List.getElem_reverse]
    have h5:l.length-1-j<l.length:=by omega
    simp[cd,List.getD,h5]
   rw[he] at hR
   have hea:D.eaddr 3 (Cards l) (I ((l.length:Int)-1-j))=some (.ptr (cd l (l.length-1-j)).d.cells):=by
    have:=ea_cd (l:=l) (k:=l.length-1-j) (by omega)
    rwa [In,show((l.length-1-j:Nat):Int)=(l.length:Int)-1-j by omega] at this
   have happ:=app_cd (xs:=l.reverse.take j) (x:=cd l (l.length-1-j)) (by rw[List.length_take];omega)
   repeat' (first|(apply nrm;simp only[sbe];rfl)|(apply u_iteT;rfl;exact hlj)|(apply u_eaddr;rfl;rfl;exact hea;simp only[sbe];rfl)|(apply u_app;rfl;rfl;exact happ;simp only[sbe];rfl)|(apply u_sub;rfl;rfl;omega;simp only[sbe];rfl)|(apply u_ev;rfl;simp only[sbe];rfl)|refine u_join ?_|(apply u_jump;rfl;rfl)|refine at_jump ?_|refine kj rfl ?_)
   rwa [show(l.length:Int)-1-((j+1:Nat):Int)=(l.length:Int)-1-j-1 by omega] at hR
  ·have hlf:decide ((l.length:Int)-1-(l.length:Nat)≥0)=false:=by simp;omega
   have he:l.reverse.take l.length=l.reverse:=List.take_of_length_le (by simp)
   rw[he]
   repeat' (first|(apply nrm;simp only[sbe];rfl)|(apply u_iteF;rfl;exact hlf)|(apply u_chk;rfl)|(apply u_lenL;rfl;exact lenL_map;simp only[sbe];rfl)|(apply u_sub;rfl;rfl;omega;simp only[sbe];rfl)|(apply u_ev;rfl;simp only[sbe];rfl)|(apply u_call;rfl;rfl;(·first|exact h23|exact h23b|exact h22|exact h22b|exact hk);rfl;simp only[sbe];rfl)|(apply u_and;rfl)|(apply u_jump;rfl;rfl)|refine at_jump ?_|(refine over_jump (by decide) ?_)|refine kj rfl ?_|exact u_ret rfl rfl|(apply u_ret;rfl;first|exact rfl|(refine retB ?_)|(refine retI ?_)|(refine retD ?_))|(intro hz;(try simp only[sbs] at hz)))
   all_goals simp_all
 ·have ho:(decide (car<0)||decide (car≥(l.length:Int)))=true:=by simp;omega
  refine ku7.W rfl ?_
  unfold u7
  simp only[ups_cons,ups_nil,List.cons_append,List.nil_append]
  repeat' (first|(apply nrm;simp only[sbe];rfl)|(apply u_chk;rfl)|(apply u_lenL;rfl;exact lenL_map;simp only[sbe];rfl)|(apply u_ev;rfl;simp only[sbe];rfl)|(apply u_call;rfl;rfl;(·first|exact c15|exact h16|exact h20|exact h24|exact hk);rfl;simp only[sbe];rfl)|(apply u_or;rfl)|(apply u_ite;rfl;all_goals (intro hz;(try simp only[sbs] at hz);first|(exact absurd hz (by decide))|(exfalso;omega)|skip))|exact u_ret rfl rfl|(intro hz;(try simp only[sbs] at hz)))
  all_goals simp_all
  all_goals (try omega)

end Go.Am.Sc
