/-
  Several texts, one behind the other.
-/
import Derived.Test.YtgebemgmpfpjbaaWrE2toWrShelf
import Derived.Test.YtgebemgmpfpjbaaAmSortUtoAmClone
import Derived.Test.YtgebemgmpfpjbaaWrU1toWrE1
set_option linter.unusedSimpArgs false
set_option linter.unusedVariables false
/-
 New and Add.
-/
namespace Go.Am.Wr
open Go.Proofs
set_option maxRecDepth 100000
set_option maxHeartbeats 4000000

variable {bs:List D} {j m:Nat} {f:Fld} {ss:List Src} {kv:List (Rep×Int)}

attribute [local irreducible] inR

theorem c59 {i:Nat}{kvs:List D}(hb:bs[i]? = some (.mblk kvs)):FSpecW Try.prog 59 (.st bs) [.mp i] (.mp bs.length) (.st (bs++[.mblk kvs])):=
 cloneW (fun b es clock w hw=>AnyW.maps_Clone Try.laysMC b es clock w hw) hb

theorem c57 (h:LogAt bs j m f ss kv)(h2:ss.length≤1000000000)(hp:0≤f.places∧f.places≤1000000)(r:Rep):FSpecR Try.prog 57 (.st bs) [r.d,.ptr [.loc j 0]] (B (!rightB f ss r)):=by
 refine ku57.R rfl rfl ?_
 unfold u57
 simp only[ups_cons,ups_nil,List.cons_append,List.nil_append]
 repeat' (first|(apply u_chk;rfl)|(apply u_ev;rfl;simp only[sbe];rfl)|(apply u_call;rfl;rfl;exact c58 h h2 hp r;rfl;simp only[sbe];rfl)|exact u_ret rfl rfl)

theorem getok_none {m:Nat}(hm:bs[m]? = some (.mblk (kv.map kvD))){a:Rep}(hg:mget a kv 0=none):D.m4 (.getok KR) (.st bs) (.mp m) a.d (I 0)=some (.tup [I 0,B false]):=by rw[getok_kv hm,hg]
theorem getok_some {m:Nat}(hm:bs[m]? = some (.mblk (kv.map kvD))){a:Rep}{p:Nat×Int}(hg:mget a kv 0=some p):D.m4 (.getok KR) (.st bs) (.mp m) a.d (I 0)=some (.tup [I p.2,B true]):=by rw[getok_kv hm,hg]

theorem c21bad (h:LogAt bs j m f ss kv)(h2:ss.length≤1000000000)(hp:0≤f.places∧f.places≤1000000){rs:List Rep}(hr:rs.length≤1000000)(hbad:rs.any (fun r=>!rightB f ss r)=true):FSpecW Try.prog 21 (.st bs) [.loc j 0,.lst (rs.map Rep.d)] (I 2) (.st bs):=by
 have hc:=c56 (bs:=bs) (P:=fun r=>!rightB f ss r) (f:=57) (us:=[]) (cs:=[.ptr [.loc j 0]]) (l:=rs) (by omega) rfl (fun r _=>c57 h h2 hp r)
 rw[hbad] at hc
 refine ku21.W rfl ?_
 unfold u21
 simp only[ups_cons,ups_nil,List.cons_append,List.nil_append]
 repeat' (first|(apply u_iteT;rfl;exact rfl)|(apply u_iteF;rfl;exact rfl)|(apply u_ev;rfl;simp only[sbe];rfl)|(apply u_call;rfl;rfl;(·first|exact c55 h|exact hc);rfl;simp only[sbe];rfl)|exact u_ret rfl rfl)

def addSt (bs:List D)(kv:List (Rep×Int))(rs:List Rep)(i:Nat):List D:=bs++[.mblk (((rs.take i).foldl put kv).map kvD)]

theorem addSt_at (i:Nat){rs:List Rep}:(addSt bs kv rs i)[bs.length]? = some (.mblk (((rs.take i).foldl put kv).map kvD)):=by simp[addSt]

theorem addSt_put {i:Nat}{rs:List Rep}(hi:i<rs.length)(hk:MapOk ((rs.take i).foldl put kv)):(addSt bs kv rs i).set bs.length (.mblk ((putN ((rs.take i).foldl put kv) rs[i]).map kvD))=addSt bs kv rs (i+1):=by
 simp only[addSt,List.take_succ_eq_append_getElem hi,List.foldl_append,List.foldl_cons,List.foldl_nil,putN_eq hk]
 simp

theorem addSt_keep {i:Nat}{rs:List Rep}(hi:i<rs.length)(hk:MapOk ((rs.take i).foldl put kv)){p:Nat×Int}(hg:mget (plainR rs[i]) ((rs.take i).foldl put kv) 0=some p)(hp:¬rs[i].arrived<p.2):addSt bs kv rs i=addSt bs kv rs (i+1):=by
 simp only[addSt,List.take_succ_eq_append_getElem hi,List.foldl_append,List.foldl_cons,List.foldl_nil,←putN_eq hk]
 simp[putN,hg,hp]

theorem c21 (h:LogAt bs j m f ss kv)(hk:MapOk kv)(h2:ss.length≤1000000000)(hp:0≤f.places∧f.places≤1000000){rs:List Rep}(hr:rs.length≤1000000)(hok:rs.any (fun r=>!rightB f ss r)=false) :
  FSpecW Try.prog 21 (.st bs) [.loc j 0,.lst (rs.map Rep.d)] (I (if 5000<((rs.foldl put kv).length:Int) then 4 else 0)) (.st (if 5000<((rs.foldl put kv).length:Int) then bs++[D.mblk ((rs.foldl put kv).map kvD)] else(bs++[D.mblk ((rs.foldl put kv).map kvD)]).set j (.blk 80 5 [I f.cars,I f.places,Is f.least,.lst (ss.map Src.d),.mp bs.length]))):=by
 have hc:=c56 (bs:=bs) (P:=fun r=>!rightB f ss r) (f:=57) (us:=[]) (cs:=[.ptr [.loc j 0]]) (l:=rs) (by omega) rfl (fun r _=>c57 h h2 hp r)
 rw[hok] at hc
 have hjl:j<bs.length:=by
  have:=h.blk
  rw[List.getElem?_eq_some_iff] at this
  exact this.1
 have hkI:∀i,MapOk ((rs.take i).foldl put kv):=by
  intro i
  generalize rs.take i=l
  clear hok hc hr h
  induction l generalizing kv with
  | nil=>exact hk
  | cons r l ih=>exact ih (kv:=put kv r) (put_ok hk r)
 refine ku21.W rfl ?_
 unfold u21
 simp only[ups_cons,ups_nil,List.cons_append,List.nil_append]
 repeat' (first|(apply u_iteF;rfl;exact rfl)|(apply u_chk;rfl)|(apply u_ld;rfl;rfl;exact ld_blk h.blk rfl;simp only[sbe];rfl)|(apply u_lenL;rfl;exact lenL_map;simp only[sbe];rfl)|(apply u_ev;rfl;simp only[sbe];rfl)|(apply u_call;rfl;rfl;(·first|exact c55 h|exact hc);rfl;simp only[sbe];rfl)|(apply u_wcall;rfl;rfl;exact c59 h.map;rfl;simp only[sbe];rfl)|refine u_join ?_)
 refine u_range (fun i=>[I i,.st (addSt bs kv rs i)]) (fun _=>True) rs.length (by simp[evalAll,E.eval,addSt]) (fun _=>rfl) trivial (fun i hi _ R hR=>?_) (fun _ R=>?_)
 ·have hli:decide ((i:Int)<(rs.length:Int))=true:=by simp;omega
  have hget:rs[i]? = some rs[i]:=List.getElem?_eq_getElem hi
  have hA:=addSt_at (bs:=bs) (kv:=kv) (rs:=rs) i
  cases hg:mget (plainR rs[i]) ((rs.take i).foldl put kv) 0 with
  | none=>
   have hpt:=put_kv hA rs[i] (fun p e=>by rw[hg] at e;cases e)
   rw[addSt_put hi (hkI i)] at hpt
   repeat' (first|(apply nrm;simp only[sbe];rfl)|(apply u_iteT;rfl;(·first|exact hli|exact rfl))|(apply u_chk;rfl)|(apply u_eaddr;rfl;rfl;exact eaddr_get hi rfl;simp only[sbe];rfl)|(apply u_m4;rfl;rfl;rfl;rfl;(·first|exact getok_none hA hg|exact hpt);simp only[sbe];rfl)|(apply u_inc;rfl;omega;simp only[sbe];rfl)|(apply u_ev;rfl;simp only[sbe];rfl)|(apply u_call;rfl;rfl;exact c60 _;rfl;simp only[sbe];rfl)|(apply u_or;rfl)|refine u_join ?_|(apply u_jump;rfl;rfl)|refine at_jump ?_|refine kj rfl ?_|(intro hz;(try simp only[sbs] at hz)))
   ·exact hR trivial
   ·exact true
  | some p=>
   by_cases hlt:rs[i].arrived<p.2
   ·have hpt:=put_kv hA rs[i] (fun q e=>by rw[hg] at e;cases e;exact hlt)
    rw[addSt_put hi (hkI i)] at hpt
    repeat' (first|(apply nrm;simp only[sbe];rfl)|(apply u_iteT;rfl;(·first|exact hli|(simp[hlt])))|(apply u_chk;rfl)|(apply u_eaddr;rfl;rfl;exact eaddr_get hi rfl;simp only[sbe];rfl)|(apply u_m4;rfl;rfl;rfl;rfl;(·first|exact getok_some hA hg|exact hpt);simp only[sbe];rfl)|(apply u_inc;rfl;omega;simp only[sbe];rfl)|(apply u_ev;rfl;simp only[sbe];rfl)|(apply u_call;rfl;rfl;exact c60 _;rfl;simp only[sbe];rfl)|(apply u_or;rfl)|refine u_join ?_|(apply u_jump;rfl;rfl)|refine at_jump ?_|refine kj rfl ?_|exact u_ret rfl rfl|(intro hz;(try simp only[sbs] at hz)))
    exact hR trivial
   ·repeat' (first|(apply nrm;simp only[sbe];rfl)|(apply u_iteT;rfl;exact hli)|(apply u_iteF;rfl;(·(simp[hlt])))|(apply u_chk;rfl)|(apply u_eaddr;rfl;rfl;exact eaddr_get hi rfl;simp only[sbe];rfl)|(apply u_m4;rfl;rfl;rfl;rfl;exact getok_some hA hg;simp only[sbe];rfl)|(apply u_inc;rfl;omega;simp only[sbe];rfl)|(apply u_ev;rfl;simp only[sbe];rfl)|(apply u_call;rfl;rfl;exact c60 _;rfl;simp only[sbe];rfl)|(apply u_or;rfl)|refine u_join ?_|(apply u_jump;rfl;rfl)|refine at_jump ?_|refine kj rfl ?_|exact u_ret rfl rfl|(intro hz;(try simp only[sbs] at hz)))
    have e:=addSt_keep (bs:=bs) hi (hkI i) hg hlt
    refine Eq.mp (congrArg R ?_) (hR trivial)
    simp only[e]
 ·have hli:decide ((rs.length:Int)<(rs.length:Int))=false:=by simp
  have hA:=addSt_at (bs:=bs) (kv:=kv) (rs:=rs) rs.length
  rw[List.take_length] at hA
  have hB:(addSt bs kv rs rs.length)[j]? = some (.blk 80 5 [I f.cars,I f.places,Is f.least,.lst (ss.map Src.d),.mp m]):=by rw[addSt,List.getElem?_append_left hjl];exact h.blk
  by_cases hbig:5000<((rs.foldl put kv).length:Int)
  ·repeat' (first|(apply nrm;simp only[sbe];rfl)|(apply u_iteT;rfl;(·(simp[hbig])))|(apply u_iteF;rfl;exact hli)|(apply u_m4;rfl;rfl;rfl;rfl;exact mlen_kv hA;simp only[sbe];rfl)|(apply u_ev;rfl;simp only[sbe];rfl)|(apply u_jump;rfl;rfl)|refine at_jump ?_|(refine over_jump (by decide) ?_)|refine kj rfl ?_)
   refine u_ret rfl ?_
   simp[hbig,addSt]
  ·repeat' (first|(apply nrm;simp only[sbe];rfl)|(apply u_iteF;rfl;(·first|exact hli|(simp[hbig])))|(apply u_chk;rfl)|(apply u_sto;rfl;rfl;rfl;(·exact sto_blk hB (by simp) rfl);simp only[sbe];rfl)|(apply u_m4;rfl;rfl;rfl;rfl;exact mlen_kv hA;simp only[sbe];rfl)|(apply u_ev;rfl;simp only[sbe];rfl)|(apply u_jump;rfl;rfl)|refine at_jump ?_|(refine over_jump (by decide) ?_)|refine kj rfl ?_)
   refine u_ret rfl ?_
   simp[hbig,addSt]

end Go.Am.Wr

/-
 New.
-/
namespace Go.Am.Wr
open Go.Proofs
set_option maxRecDepth 100000
set_option maxHeartbeats 4000000

variable {bs:List D} {j m:Nat} {f:Fld} {ss:List Src} {kv:List (Rep×Int)}

attribute [local irreducible] inR

theorem ev_noids {env:List D}{x:E}{d:D}(hx:x.eval env=some d)(hd:d.noid=true):(E.m4 .noids x .nil .nil .nil).eval env=some d:=by
 simp[E.eval,hx,D.m4,hd]

theorem evA1 {env:List D}{x:E}{d:D}(hx:x.eval env=some d):evalAll env [x]=some [d]:=by simp[evalAll,hx]
theorem evA2 {env:List D}{x y:E}{d e:D}(hx:x.eval env=some d)(hy:y.eval env=some e):evalAll env [x,y]=some [d,e]:=by simp[evalAll,hx,hy]

theorem noid_map {α:Type}{enc:α→D}(h:∀x,(enc x).noid=true):∀l:List α,noids (l.map enc)=true
 | []=>rfl
 | x :: r=>by simp[noids,h x,noid_map h r]

theorem noid_Is (l:List Int):(Is l).noid=true:=by
 simp only[D.noid]
 exact noid_map (fun _=>rfl) l
theorem noid_srcs (l:List Src):(D.lst (l.map Src.d)).noid=true:=by
 simp only[D.noid]
 exact noid_map (fun _=>rfl) l
theorem noid_fld (f:Fld):f.d.noid=true:=by
 simp only[Fld.d,Fld.cs,D.noid,noids,noid_map (enc:=I) (fun _=>rfl),Bool.and_self]

theorem c18bad (h1:f.least.length≤1000000000)(h2:ss.length≤1000000000)(hp:i64 f.places)(hb:fielded f ss=false):FSpecW Try.prog 18 (.st bs) [f.d,.lst (ss.map Src.d)] (.tup [.v (.pointer none),I 2]) (.st bs):=by
 have hc:=c51 (bs:=[]) f ss h1 h2 hp
 rw[hb] at hc
 refine ku18.W rfl ?_
 unfold u18
 simp only[ups_cons,ups_nil,List.cons_append,List.nil_append]
 repeat' (first|(apply u_iteT;rfl;exact rfl)|(apply u_chk;rfl)|(apply u_ev;rfl;simp only[sbe];rfl)|(apply u_call;rfl;(·exact evA2 (ev_noids rfl (noid_fld f)) (ev_noids rfl (noid_srcs ss)));exact hc;rfl;simp only[sbe];rfl)|exact u_ret rfl rfl)

def newSt (bs:List D)(f:Fld)(ss:List Src):List D:=bs++[.mblk [],.blk 80 5 [I f.cars,I f.places,Is f.least,.lst (ss.map Src.d),.mp bs.length]]

theorem newSt_log:LogAt (newSt bs f ss) (bs.length+1) bs.length f ss []:=by
 constructor <;> simp[newSt]

theorem c18 (h1:f.least.length≤1000000)(h2:ss.length≤1000000)(hp:i64 f.places)(hb:fielded f ss=true):FSpecW Try.prog 18 (.st bs) [f.d,.lst (ss.map Src.d)] (.tup [.loc (bs.length+1) 0,I 0]) (.st (newSt bs f ss)):=by
 have hc:=c51 (bs:=[]) f ss (by omega) (by omega) hp
 rw[hb] at hc
 refine ku18.W rfl ?_
 unfold u18
 simp only[ups_cons,ups_nil,List.cons_append,List.nil_append]
 repeat' (first|(apply u_iteF;rfl;exact rfl)|(apply u_chk;rfl)|(apply u_ev;rfl;simp only[sbe];rfl)|(apply u_call;rfl;(·first|exact evA2 (ev_noids rfl (noid_fld f)) (ev_noids rfl (noid_srcs ss))|exact evA1 (ev_noids rfl (noid_Is f.least))|exact evA1 (ev_noids rfl (noid_srcs ss)));(·first|exact hc|exact c52 f.least h1|exact c53 ss h2);rfl;simp only[sbe];rfl))
 refine u_ret rfl ?_
 simp[newSt,D.cells]

end Go.Am.Wr

/-
 Three small ones.
-/
namespace Go.Am.Wr
open Go.Proofs

noncomputable def u114:U:=(ups [.ev (.bin .neq .int y0 y0)]
 (.ret (.tcons y2 (.tcons y1 .tnil))))
theorem ku114:UOk Try.prog 114 .plain (wcf true [] [] Try.f114) [true] u114:=UOk.plain Try.func114 (by kernel_rfl) (by kernel_rfl)

noncomputable def u115:U:=(ups [.ev (.bin .neq .int y0 y0)]
 (.ret (.tcons y2 (.tcons y1 .tnil))))
theorem ku115:UOk Try.prog 115 .plain (wcf true [] [] Try.f115) [true] u115:=UOk.plain Try.func115 (by kernel_rfl) (by kernel_rfl)

end Go.Am.Wr
