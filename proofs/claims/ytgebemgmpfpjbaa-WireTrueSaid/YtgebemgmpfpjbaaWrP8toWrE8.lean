/-
  Several texts, one behind the other.
-/
import Derived.Test.YtgebemgmpfpjbaaWrU1toWrE1
import Derived.Test.YtgebemgmpfpjbaaWrE3toWrE6
import Derived.Test.YtgebemgmpfpjbaaAmFrzT
set_option linter.unusedSimpArgs false
set_option linter.unusedVariables false
/-
 The best report,and the numbers that are missing.
-/
namespace Go.Am.Wr

def pick (less:Nat→Nat→Bool)(l:List Nat):Option Nat:=l.foldl (fun o i=>match o with | none=>some i | some b=>if less i b=true then some i else some b) none

def fill (out:List Int)(next num:Int):List Int:=out++((List.range (num-next).toNat).map fun(i:Nat)=>next+(i:Int)).take (1000-out.length)

def gapsGo (s:Int):List Rep→Int→List Int→List Int
 | [],_,out=>out
 | r :: l,next,out=>if r.source=s then gapsGo s l (r.number+1) (fill out next r.number) else gapsGo s l next out

def gapsR (W:List Rep)(s:Int):List Int:=gapsGo s W 0 []

end Go.Am.Wr

/-
 Known,Counts,Gaps.
-/
namespace Go.Am.Wr
open Go.Proofs
set_option maxRecDepth 100000
set_option maxHeartbeats 4000000

attribute [local irreducible] inR

structure Grow (bs bs':List D):Prop where
 le:bs.length≤bs'.length
 old:∀i,i<bs.length→bs'[i]? = bs[i]?
 ny:noyls bs=true→noyls bs'=true

theorem Grow.refl (bs:List D):Grow bs bs:=⟨Nat.le_refl _,fun _ _=>rfl,id⟩
theorem Grow.trans {a b c:List D}(h:Grow a b)(k:Grow b c):Grow a c:=⟨Nat.le_trans h.le k.le,fun i hi=>by rw[k.old i (Nat.lt_of_lt_of_le hi h.le),h.old i hi],fun hn=>k.ny (h.ny hn)⟩

structure Lg (bs:List D)(j:Nat)(f:Fld)(ss:List Src)(rs:List Rep)(n:Nat):Prop where
 log:∃m,LogAt bs j m f ss (rs.foldl put [])
 len:(rs.foldl put []).length≤100000
 fok:FOk n f.least ss
 pl:f.places=(n:Int)
 cars:1≤f.cars∧f.cars≤200
 srcs:ss.length≤50
 right:∀r,r∈rs→rightB f ss r=true
 ny:noyls bs=true

variable {bs:List D} {j n:Nat} {f:Fld} {ss:List Src} {rs:List Rep}

theorem Lg.keep {bs':List D}(h:Lg bs j f ss rs n)(hg:Grow bs bs'):Lg bs' j f ss rs n where
 log:=by
  obtain⟨m,hm⟩:=h.log
  exact⟨m,hm.keep hg.old⟩
 len:=h.len
 fok:=h.fok
 pl:=h.pl
 cars:=h.cars
 srcs:=h.srcs
 right:=h.right
 ny:=hg.ny h.ny

theorem Lg.logL (h:Lg bs j f ss rs n):(logR rs).length≤100000:=by rw[log_len rfl];exact h.len

theorem right_bd {r:Rep}(h:rightB f ss r=true):(0≤r.source∧r.source<ss.length)∧(0≤r.number∧r.number≤1000000000)∧(0≤r.arrived∧r.arrived≤1000000000000)∧(0≤r.time∧r.time≤1000000000000) ∧
  ((r.kind=4∧0≤r.car∧r.car<r.number∧r.place=0)∨((r.kind=1∨r.kind=2∨r.kind=3)∧(1≤r.car∧r.car≤f.cars)∧0≤r.place∧r.place<f.places)):=by
 unfold rightB inR at h
 simp only[Bool.and_eq_true,decide_eq_true_eq] at h
 obtain⟨h1,h2,h3,h4⟩:=h
 refine⟨by omega,by omega,by omega,?_⟩
 split at h4
 ·rename_i hk
  simp only[Bool.and_eq_true,decide_eq_true_eq,beq_iff_eq] at h4
  exact⟨by omega,.inl ⟨hk,by omega,by omega,by omega⟩⟩
 ·simp only[Bool.and_eq_true,decide_eq_true_eq] at h4
  obtain⟨h5,h6,h7⟩:=h4
  split at h7
  ·rename_i hk
   simp only[Bool.and_eq_true,decide_eq_true_eq] at h7
   exact⟨by omega,.inr ⟨by omega,by omega,by omega,by omega⟩⟩
  ·split at h7
   ·rename_i hk
    simp only[beq_iff_eq] at h7
    exact⟨by omega,.inr ⟨by omega,by omega,by omega,by omega⟩⟩
   ·cases h7

theorem Lg.low (h:Lg bs j f ss rs n):Low (logR rs):=fun r hr hk=>by
 have:=right_bd (h.right r ((mem_log r).1 hr).1)
 omega

theorem Lg.rok (h:Lg bs j f ss rs n){t car:Int}:∀r,r∈ofCar (logR rs) t car→ROk n ss r:=fun r hr=>by
 obtain⟨h1,h2,h3,h4⟩:=mem_car.1 hr
 have:=right_bd (h.right r ((mem_log r).1 h1).1)
 have hp:=h.pl
 exact⟨this.1,by omega,by omega,by omega⟩

theorem viewL (h:Lg bs j f ss rs n)(t:Int):∃bs' v s,FSpecW Try.prog 66 (.st bs) [.loc j 0,I t] (.loc v 0) (.st bs')∧Grow bs bs'∧ViewAt bs' v j (logR rs) s (idxP (logR rs) t)∧bs.length≤v∧∀b,s.sid=some b→bs.length≤b:=by
 obtain⟨m,hm⟩:=h.log
 obtain⟨bs',v,s,h1,h2,h3,h4,h5,h6,h7⟩:=viewAt hm (by have:=h.len;omega) rfl h.ny t
 exact⟨bs',v,s,h1,⟨h3,h4,fun _=>h6⟩,h5,h2,h7⟩

theorem knownL (h:Lg bs j f ss rs n){v:Nat}{s:D}{t:Int}(hV:ViewAt bs v j (logR rs) s (idxP (logR rs) t))(car:Int):∃bs',FSpecW Try.prog 67 (.st bs) [.loc v 0,I car] (.lst ((knR ss f.least n (ofCar (logR rs) t car)).map Kn.d)) (.st bs')∧Grow bs bs':=by
 obtain⟨m,hm⟩:=h.log
 have h67:=c67 (car:=car) hm h.fok h.pl hV (by have:=h.logL;omega) h.rok h.ny
 have hkl:(knR ss f.least n (ofCar (logR rs) t car)).length=n:=by simp[knR]
 have hN:bs.length<bs.length+3+2*(idxC (logR rs) t car).length:=by omega
 refine⟨_,FSpecW.frz (sz:=6) h67 (keep_new (Nat.le_refl _) hN (by rw[List.find?_cons_of_pos (by simp)])) ?_ (es:=(knR ss f.least n (ofCar (logR rs) t car)).map Kn.d) (by simp[hkl]) (fun i x hx=>?_),?_,fun i hi=>?_,fun hn=>?_⟩
 ·rw[flat_length (enc:=Kn.cs) (sz:=6) (fun _=>rfl),hkl]
 ·rw[List.getElem?_map] at hx
  obtain⟨r,hr,rfl⟩:=Option.map_eq_some_iff.1 hx
  refine⟨rfl,fun q c hc=>?_⟩
  obtain⟨t,ht⟩:=flat_drop (enc:=Kn.cs) (sz:=6) (fun _=>rfl) hr
  have hc':r.cs[q]? = some c:=hc
  rw[←List.getElem?_drop,ht,List.getElem?_append_left (List.getElem?_eq_some_iff.1 hc').1]
  exact hc'
 ·rw[List.length_set,keep_len];omega
 ·rw[List.getElem?_set_ne (by omega),keep_old hi (by omega)]
 ·have h2:∀(l:List D) (k:Nat),noyls l=true→noyls (l.set k (.tup []))=true:=by
   intro l
   induction l with
   | nil=>intro k _;rfl
   | cons a r ih=>
    intro k hk
    simp only[noyls,Bool.and_eq_true] at hk
    cases k with
    | zero=>simp[noyls,hk.2,D.noyl]
    | succ k=>simp[noyls,hk.1,ih k hk.2]
  refine h2 _ _ (keep_noyl hn fun p hp=>?_)
  rw[List.mem_singleton] at hp
  subst hp
  have:noyls ((knR ss f.least n (ofCar (logR rs) t car)).flatMap Kn.cs)=true:=noyls_flat fun x _=>by simp[Kn.cs,noyls,D.noyl]
  simpa[D.noyl] using this

def chkB (f:Fld)(car place t:Int):Bool:=inR car 1 f.cars&&(inR place 0 (f.places-1)&&inR t 0 1000000000000)

theorem c65 (h:Lg bs j f ss rs n)(car place t:Int):FSpecR Try.prog 65 (.st bs) [.loc j 0,I car,I place,I t] (I (if chkB f car place t=true then 0 else 2)):=by
 obtain⟨m,hm⟩:=h.log
 have hp:=h.pl
 have hh:=h.fok.hi
 refine ku65.R rfl rfl ?_
 unfold u65
 simp only[ups_cons,ups_nil,List.cons_append,List.nil_append]
 repeat' (first|(apply nrm;simp only[sbe];rfl)|(apply u_iteF;rfl;exact rfl)|(apply u_chk;rfl)|(apply u_ld;rfl;rfl;exact ld_blk hm.blk rfl;simp only[sbe];rfl)|(apply u_sub;rfl;rfl;omega;simp only[sbe];rfl)|(apply u_ev;rfl;simp only[sbe];rfl)|(apply u_call;rfl;rfl;(·first|exact c55 hm|exact c75 _ _ _);rfl;simp only[sbe];rfl)|(apply u_or;rfl)|(apply u_ite;rfl;all_goals (intro hz;(try simp only[sbs] at hz);first|(exact absurd hz (by decide))|(exfalso;omega)|skip))|exact u_ret rfl rfl|(apply u_ret;rfl;first|exact rfl|(refine retB ?_)|(refine retI ?_)|(refine retD ?_))|(intro hz;(try simp only[sbs] at hz)))
 ·unfold chkB
  rcases hz with(hz | hz) | hz <;> simp[hz]
 ·unfold chkB
  simp[hz]

theorem c29 (h:Lg bs j f ss rs n){car t:Int}(hb:chkB f car 0 t=true):∃bs',FSpecW Try.prog 29 (.st bs) [.loc j 0,I car,I t] (.tup [.lst ((knR ss f.least n (ofCar (logR rs) t car)).map Kn.d),I 0]) (.st bs')∧Grow bs bs':=by
 have h65:=c65 h car 0 t
 rw[if_pos hb] at h65
 obtain⟨b1,v,s,h66,g1,hV,_⟩:=viewL h t
 obtain⟨b2,h67,g2⟩:=knownL (h.keep g1) hV car
 refine⟨b2,?_,g1.trans g2⟩
 refine ku29.W rfl ?_
 unfold u29
 simp only[ups_cons,ups_nil,List.cons_append,List.nil_append]
 repeat' (first|(apply u_iteF;rfl;exact rfl)|(apply u_ev;rfl;simp only[sbe];rfl)|(apply u_call;rfl;rfl;exact h65;rfl;simp only[sbe];rfl)|(apply u_wcall;rfl;rfl;(·first|exact h66|exact h67);rfl;simp only[sbe];rfl)|exact u_ret rfl rfl)

end Go.Am.Wr

/-
 Gaps.
-/
namespace Go.Am.Wr
open Go.Proofs
set_option maxRecDepth 100000
set_option maxHeartbeats 4000000

attribute [local irreducible] inR

variable {bs:List D} {j n:Nat} {f:Fld} {ss:List Src} {rs:List Rep}

theorem reportsL (h:Lg bs j f ss rs n):∃bs',FSpecW Try.prog 24 (.st bs) [.loc j 0] (.lst ((logR rs).map Rep.d)) (.st bs')∧Grow bs bs':=by
 obtain⟨m,hm⟩:=h.log
 refine⟨_,reports hm (by have:=h.len;omega) rfl,by simp,fun i hi=>List.getElem?_append_left hi,fun hn=>?_⟩
 rw[noyls_app,hn,Bool.true_and]
 exact noyls_all fun d hd=>by rw[List.eq_of_mem_replicate hd];rfl

def more (out:List Int)(next:Int)(k:Nat):List Int:=out++(List.range k).map fun(i:Nat)=>next+(i:Int)

theorem more_succ (out:List Int)(next:Int)(k:Nat):more out next k++[next+(k:Int)]=more out next (k+1):=by
 simp[more,List.range_succ]
theorem more_len (out:List Int)(next:Int)(k:Nat):(more out next k).length=out.length+k:=by simp[more]

def moreN (out:List Int)(next num:Int):Nat:=min (1000-out.length) (num-next).toNat

theorem more_fill (out:List Int)(next num:Int):more out next (moreN out next num)=fill out next num:=by
 unfold more fill moreN
 rw[←List.map_take,List.take_range]

theorem fill_len {out:List Int}{next num:Int}(h:out.length≤1000):(fill out next num).length≤1000:=by
 rw[←more_fill,more_len]
 unfold moreN
 omega

structure GapI (W:List Rep)(src:Int)(rest:List Rep)(s:List Int×Int):Prop where
 go:gapsGo src rest s.2 s.1=gapsR W src
 len:s.1.length≤1000
 nx:0≤s.2∧s.2≤1000000001
 ord:Ord rest
 le:∀r,r∈rest→r.source=src→s.2≤r.number+1
 num:∀r,r∈rest→0≤r.number∧r.number≤1000000000

theorem GapI.skip {W:List Rep}{src:Int}{r:Rep}{rest:List Rep}{s:List Int×Int}(h:GapI W src (r :: rest) s)(hr:r.source≠src):GapI W src rest s where
 go:=by have:=h.go;simp only[gapsGo,if_neg hr] at this;exact this
 len:=h.len
 nx:=h.nx
 ord:=(List.pairwise_cons.1 h.ord).2
 le q hq:=h.le q (by simp[hq])
 num q hq:=h.num q (by simp[hq])

theorem GapI.take {W:List Rep}{src:Int}{r:Rep}{rest:List Rep}{s:List Int×Int}(h:GapI W src (r :: rest) s)(hr:r.source=src):GapI W src rest (fill s.1 s.2 r.number,r.number+1) where
 go:=by have:=h.go;simp only[gapsGo,if_pos hr] at this;exact this
 len:=fill_len h.len
 nx:=by have:=h.num r (by simp);simp only;omega
 ord:=(List.pairwise_cons.1 h.ord).2
 le q hq hs:=by
  have:=before_num ((List.pairwise_cons.1 h.ord).1 q hq) (by rw[hr,hs])
  simp only
  omega
 num q hq:=h.num q (by simp[hq])

theorem app_int {out:List Int}{x:Int}(h:out.length≤1000):D.app 1 8 (Is out) (.lst [I x])=some (Is (out++[x])):=
 app1_lst (enc:=I) (by omega) (by simp[maxLen];omega) (fun _=>rfl)

theorem c42 (h:Lg bs j f ss rs n){src:Int}(hb:inR src 0 ((ss.length:Int)-1)=true):∃bs',FSpecW Try.prog 42 (.st bs) [.loc j 0,I src] (.tup [Is (gapsR (logR rs) src),I 0]) (.st bs')∧Grow bs bs':=by
 obtain⟨m,hm⟩:=h.log
 obtain⟨b1,h24,g1⟩:=reportsL h
 have h75:FSpecR Try.prog 75 (.st bs) [I src,I 0,I ((ss.length:Int)-1)] (B true):=by rw[←hb];exact c75 _ _ _
 have hsl:=h.srcs
 have hLl:=h.logL
 have hnum:∀r,r∈logR rs→0≤r.number∧r.number≤1000000000:=fun r hr=>(right_bd (h.right r ((mem_log r).1 hr).1)).2.1
 have hord:=ord_log rs
 generalize logR rs=W at h24 hLl hnum hord
 refine⟨b1,?_,g1⟩
 refine ku42.W rfl ?_
 unfold u42
 simp only[ups_cons,ups_nil,List.cons_append,List.nil_append]
 repeat' (first|(apply u_iteF;rfl;exact rfl)|(apply u_chk;rfl)|(apply u_ld;rfl;rfl;exact ld_blk hm.blk rfl;simp only[sbe];rfl)|(apply u_lenL;rfl;exact lenL_map;simp only[sbe];rfl)|(apply u_sub;rfl;rfl;omega;simp only[sbe];rfl)|(apply u_ev;rfl;simp only[sbe];rfl)|(apply u_call;rfl;rfl;(·first|exact c55 hm|exact h75);rfl;simp only[sbe];rfl)|(apply u_wcall;rfl;rfl;exact h24;rfl;simp only[sbe];rfl)|refine u_join ?_)
 refine u_list W (fun(s:List Int×Int) i=>[Is s.1,I s.2,In i]) (GapI W src) ([],0) rfl (fun _ _=>rfl) ⟨rfl,by simp,by simp,hord,fun r hr _=>by have:=hnum r hr;simp only;omega,hnum⟩ (fun i x s hx hlt hG R hR=>?_) (fun s hG R=>?_)
 ·have hli:decide ((i:Int)<(W.length:Int))=true:=by simp;omega
  have hea:D.eaddr 7 (.lst (W.map Rep.d)) (In i)=some (.ptr x.cs):=eaddr_lst hx rfl
  by_cases hs:x.source=src
  ·have hne:(x.source != src)=false:=by simp[hs]
   obtain⟨out,nx⟩:=s
   have hGn:=hG.nx
   have hGl:=hG.len
   have hGx:=hG.num x (by simp)
   have hGle:=hG.le x (by simp) hs
   simp only at hGn hGl hGle
   repeat' (first|(apply nrm;simp only[sbe];rfl)|(apply u_iteT;rfl;exact hli)|(apply u_iteF;rfl;exact hne)|(apply u_chk;rfl)|(apply u_eaddr;rfl;rfl;exact hea;simp only[sbe];rfl)|(apply u_ev;rfl;simp only[sbe];rfl)|refine u_join ?_)
   refine u_range (fun k=>[Is (more out nx k),I (nx+(k:Int))]) (fun _=>True) (moreN out nx x.number) (by simp[evalAll,E.eval,more]) (fun _=>rfl) trivial (fun k hk _ R' hR'=>?_) (fun _ R'=>?_)
   ·have hml:=more_len out nx k
    have hk':=hk
    unfold moreN at hk'
    have hc:(decide (nx+(k:Int)<x.number)&&decide (((more out nx k).length:Int)<1000))=true:=by
     rw[hml]
     simp
     omega
    have happ:=app_int (out:=more out nx k) (x:=nx+(k:Int)) (by omega)
    rw[more_succ] at happ
    repeat' (first|(apply nrm;simp only[sbe];rfl)|(apply u_iteT;rfl;exact hc)|(apply u_app;rfl;rfl;exact happ;simp only[sbe];rfl)|(apply u_lenL;rfl;exact lenL_map;simp only[sbe];rfl)|(apply u_add;rfl;rfl;omega;simp only[sbe];rfl)|(apply u_ev;rfl;simp only[sbe];rfl)|(apply u_and;rfl)|refine u_join ?_|(apply u_jump;rfl;rfl)|refine at_jump ?_|refine kj rfl ?_|exact u_ret rfl rfl|(intro hz;(try simp only[sbs] at hz)))
    have e:nx+(k:Int)+1=nx+((k+1:Nat):Int):=by omega
    rw[e]
    exact hR' trivial
   ·have hml:=more_len out nx (moreN out nx x.number)
    have hk':moreN out nx x.number=min (1000-out.length) (x.number-nx).toNat:=rfl
    have hc:(decide (nx+(moreN out nx x.number:Int)<x.number)&&decide (((more out nx (moreN out nx x.number)).length:Int)<1000))=false:=by
     rw[hml,Bool.and_eq_false_iff]
     simp
     omega
    have hmm:D.mm true (I (nx+(moreN out nx x.number:Int))) (I (x.number+1))=some (I (x.number+1)):=by
     rw[mm_max]
     congr 4
     omega
    repeat' (first|(apply nrm;simp only[sbe];rfl)|(apply u_iteF;rfl;exact hc)|(apply u_mm;rfl;rfl;exact hmm;simp only[sbe];rfl)|(apply u_lenL;rfl;exact lenL_map;simp only[sbe];rfl)|(apply u_inc;rfl;omega;simp only[sbe];rfl)|(apply u_add;rfl;rfl;omega;simp only[sbe];rfl)|(apply u_ev;rfl;simp only[sbe];rfl)|(apply u_and;rfl)|(apply u_jump;rfl;rfl)|refine at_jump ?_|(refine over_jump (by decide) ?_)|refine kj rfl ?_|exact u_ret rfl rfl|(intro hz;(try simp only[sbs] at hz)))
    rw[more_fill]
    exact hR _ (hG.take hs)
  ·have hne:(x.source != src)=true:=by simp[hs]
   repeat' (first|(apply nrm;simp only[sbe];rfl)|(apply u_iteT;rfl;(·first|exact hli|exact hne))|(apply u_chk;rfl)|(apply u_eaddr;rfl;rfl;exact hea;simp only[sbe];rfl)|(apply u_inc;rfl;omega;simp only[sbe];rfl)|(apply u_ev;rfl;simp only[sbe];rfl)|refine u_join ?_|(apply u_jump;rfl;rfl)|refine at_jump ?_|refine kj rfl ?_)
   exact hR _ (hG.skip hs)
 ·have hli:decide ((W.length:Int)<(W.length:Int))=false:=by simp
  have hgo:=hG.go
  simp only[gapsGo] at hgo
  repeat' (first|(apply nrm;simp only[sbe];rfl)|(apply u_iteF;rfl;exact hli)|(apply u_ev;rfl;simp only[sbe];rfl)|(apply u_jump;rfl;rfl)|refine at_jump ?_|(refine over_jump (by decide) ?_)|refine kj rfl ?_|(apply u_ret;rfl;first|exact rfl|(refine retB ?_)|(refine retI ?_)|(refine retD ?_)))
  rw[hgo]

end Go.Am.Wr
