/-
  Several texts, one behind the other.
-/
import Derived.Test.YtgebemgmpfpjbaaWrE2toWrShelf
import Derived.Test.YtgebemgmpfpjbaaWrC8toWrD2
import Derived.Test.YtgebemgmpfpjbaaAmKeep
set_option linter.unusedSimpArgs false
set_option linter.unusedVariables false
/-
 The view of a log at a moment.
-/
namespace Go.Am.Wr
open Go.Proofs
set_option maxRecDepth 100000
set_option maxHeartbeats 4000000

variable {bs:List D} {j m:Nat} {f:Fld} {ss:List Src} {kv:List (Rep×Int)}

attribute [local irreducible] inR

def vm (W:List Rep)(t:Int):List Rep→Nm
 | []=>[]
 | r :: l=>if r.kind=4∧sureB W t r=true∧(vs W t l).contains (r.source,r.number)=false then nput (r.source,r.car) (B true) (vm W t l) else vm W t l

theorem nget_vm (W:List Rep)(t:Int)(k:Int×Int):∀l,nget k (vm W t l)=if(vs W t l).contains k=true then some (B true) else none
 | []=>rfl
 | r :: l=>by
  have ih:=nget_vm W t k l
  simp only[vm,vs]
  split
  ·rw[nget_put,ih,List.contains_cons]
   by_cases h:k=(r.source,r.car)
   ·simp[h]
   ·rw[if_neg h]
    have:(k==(r.source,r.car))=false:=by simpa using h
    rw[this,Bool.false_or]
  ·exact ih

theorem get_vm (W:List Rep)(t:Int)(k:Int×Int)(l:List Rep):(nget k (vm W t l)).getD (B false)=B ((vs W t l).contains k):=by
 rw[nget_vm]
 cases(vs W t l).contains k <;> rfl

def NmOk (t:Int)(l:List Rep)(nm:Nm):Prop:=∀k:Int×Int,nget k nm=if named l t k.1 k.2=0 then none else some (I (named l t k.1 k.2:Nat))

theorem NmOk.nil (t:Int):NmOk t [] []:=fun k=>by simp[nget,named]

theorem NmOk.get {t:Int}{l:List Rep}{nm:Nm}(h:NmOk t l nm)(k:Int×Int):(nget k nm).getD (I 0)=I (named l t k.1 k.2:Nat):=by
 rw[h k]
 split
 ·rename_i e
  simp[e]
 ·rfl

theorem named_snoc (l:List Rep)(r:Rep)(t s n:Int):named (l++[r]) t s n=named l t s n+(if(there t r&&(r.source==s&&r.number==n))=true then 1 else 0):=by
 simp only[named,List.filter_append,List.length_append,List.filter_cons,List.filter_nil]
 split <;> rfl

theorem NmOk.step {t:Int}{l:List Rep}{nm:Nm}(h:NmOk t l nm){r:Rep}(hr:there t r=true):NmOk t (l++[r]) (nput (r.source,r.number) (I ((named l t r.source r.number:Nat)+1)) nm):=fun k=>by
 rw[nget_put,named_snoc,hr,Bool.true_and]
 by_cases hk:k=(r.source,r.number)
 ·subst hk
  simp
 ·rw[if_neg hk,h k]
  have:(r.source==k.1&&r.number==k.2)=false:=by
   cases e:(r.source==k.1&&r.number==k.2) with
   | false=>rfl
   | true=>simp at e;exact absurd (Prod.ext e.1.symm e.2.symm) hk
  rw[this]
  simp

theorem NmOk.skip {t:Int}{l:List Rep}{nm:Nm}(h:NmOk t l nm){r:Rep}(hr:there t r=false):NmOk t (l++[r]) nm:=fun k=>by
 rw[h k,named_snoc,hr]
 simp

theorem noyl_put {k:Int×Int}{u:D}(hu:u.noyl=true):∀{m:Nm},noyls (m.map nmD)=true→noyls ((nput k u m).map nmD)=true
 | [],_=>by simp[nput,nmD,keyD,noyls,D.noyl,hu]
 | e :: r,h=>by
  simp only[List.map_cons,noyls,Bool.and_eq_true] at h
  simp only[nput]
  split
  ·simp only[List.map_cons,noyls,h.2,Bool.and_true]
   simp[nmD,keyD,noyls,D.noyl,hu]
  ·simp only[List.map_cons,noyls,h.1,Bool.true_and]
   exact noyl_put hu h.2

def atA (b1:List D)(j:Nat)(W:List Rep)(nm:Nm):List D:=b1++[.blk 121 3 [.loc j 0,.lst (W.map Rep.d),.snil],.mblk (nm.map nmD),.blk 136 1 [.mp (b1.length+1)]]

theorem atA_view {b1:List D}{W:List Rep}{nm:Nm}:(atA b1 j W nm)[b1.length]? = some (.blk 121 3 [.loc j 0,.lst (W.map Rep.d),.snil]):=by simp[atA]
theorem atA_map {b1:List D}{W:List Rep}{nm:Nm}:(atA b1 j W nm)[b1.length+1]? = some (.mblk (nm.map nmD)):=by simp[atA]
theorem atA_var {b1:List D}{W:List Rep}{nm:Nm}:(atA b1 j W nm)[b1.length+2]? = some (.blk 136 1 [.mp (b1.length+1)]):=by simp[atA]
theorem atA_set {b1:List D}{W:List Rep}{nm nm':Nm}:(atA b1 j W nm).set (b1.length+1) (.mblk (nm'.map nmD))=atA b1 j W nm':=by simp[atA]
theorem atA_old {b1:List D}{W:List Rep}{nm:Nm}{i:Nat}(h:i<b1.length):(atA b1 j W nm)[i]? = b1[i]?:=by simp[atA,List.getElem?_append_left h]
theorem atA_len {b1:List D}{W:List Rep}{nm:Nm}:(atA b1 j W nm).length=b1.length+3:=by simp[atA]

def jk (W:List Rep)(k:Nat):List D:=(W.drop (W.length-k)).reverse.flatMap fun r=>[.blk 45 7 r.cs,.blk 138 2 [I r.source,I r.number]]

def atF (b1:List D)(j:Nat)(W:List Rep)(nm:Nm)(t:Int)(k:Nat):List D:=atA b1 j W nm++.mblk ((vm W t (W.drop (W.length-k))).map nmD) :: .blk 139 1 [.mp (b1.length+3)] :: jk W k

theorem drop_at {W:List Rep}{k:Nat}(h:k<W.length):W.drop (W.length-(k+1))=W[W.length-1-k] :: W.drop (W.length-k):=by
 rw[List.drop_eq_getElem_cons (by omega)]
 congr 1
 ·congr 1;omega
 ·congr 1;omega

theorem jk_succ {W:List Rep}{k:Nat}(h:k<W.length):jk W (k+1)=jk W k++[.blk 45 7 (W[W.length-1-k]).cs,.blk 138 2 [I (W[W.length-1-k]).source,I (W[W.length-1-k]).number]]:=by
 simp only[jk,drop_at h,List.reverse_cons,List.flatMap_append,List.flatMap_cons,List.flatMap_nil,List.append_nil]

theorem jk_len {W:List Rep}{k:Nat}(h:k≤W.length):(jk W k).length=2*k:=by
 induction k with
 | zero=>simp[jk]
 | succ k ih=>rw[jk_succ h,List.length_append,ih (by omega)];simp;omega

section
variable {b1:List D} {W:List Rep} {nm:Nm} {t:Int} {k:Nat}
theorem atF_len (h:k≤W.length):(atF b1 j W nm t k).length=b1.length+5+2*k:=by simp[atF,atA_len,jk_len h];omega
theorem atF_low {i:Nat}(h:i<b1.length+3):(atF b1 j W nm t k)[i]? = (atA b1 j W nm)[i]?:=by rw[atF,List.getElem?_append_left (by rw[atA_len];exact h)]
theorem atF_view:(atF b1 j W nm t k)[b1.length]? = some (.blk 121 3 [.loc j 0,.lst (W.map Rep.d),.snil]):=by rw[atF_low (by omega),atA_view]
theorem atF_map:(atF b1 j W nm t k)[b1.length+1]? = some (.mblk (nm.map nmD)):=by rw[atF_low (by omega),atA_map]
theorem atF_var:(atF b1 j W nm t k)[b1.length+2]? = some (.blk 136 1 [.mp (b1.length+1)]):=by rw[atF_low (by omega),atA_var]
theorem atF_vmap:(atF b1 j W nm t k)[b1.length+3]? = some (.mblk ((vm W t (W.drop (W.length-k))).map nmD)):=by rw[atF,List.getElem?_append_right (by rw[atA_len];omega),atA_len];simp
theorem atF_vvar:(atF b1 j W nm t k)[b1.length+4]? = some (.blk 139 1 [.mp (b1.length+3)]):=by rw[atF,List.getElem?_append_right (by rw[atA_len];omega),atA_len];simp
theorem atF_old {i:Nat}(h:i<b1.length):(atF b1 j W nm t k)[i]? = b1[i]?:=by rw[atF_low (by omega),atA_old h]
theorem atF_noyl (hb:noyls b1=true)(hm:noyls (nm.map nmD)=true):noyls (atF b1 j W nm t k)=true:=by
 have hr:∀r:Rep,r.d.noyl=true:=fun r=>by simp[Rep.d,Rep.cs,D.noyl,noyls]
 have hv:∀l,noyls ((vm W t l).map nmD)=true:=fun l=>noyls_map fun e he=>by
  have:e.2=B true:=by
   induction l with
   | nil=>simp[vm] at he
   | cons r l ih=>
    simp only[vm] at he
    split at he
    ·rename_i h0
     clear h0
     generalize vm W t l=m at he ih
     induction m with
     | nil=>simp[nput] at he;rw[he]
     | cons x m ih2=>
      simp only[nput] at he
      split at he
      ·rcases List.mem_cons.1 he with rfl | he
       ·rfl
       ·exact ih (by simp[he])
      ·rcases List.mem_cons.1 he with rfl | he
       ·exact ih (by simp)
       ·exact ih2 he (fun hh=>ih (by simp[hh]))
    ·exact ih he
  simp[nmD,keyD,D.noyl,noyls,this]
 have hj:noyls (jk W k)=true:=noyls_flat fun r _=>by simp[noyls,D.noyl,Rep.cs]
 simp only[atF,atA,noyls_app,hb,noyls,hj,D.noyl,hv,hm,noyls_map (f:=Rep.d) fun r _=>hr r,Bool.and_self]
end

theorem e_m4 {env:List D}{o:MOp}{x y z w:E}{dx dy dz dw d:D}(hx:x.eval env=some dx)(hy:y.eval env=some dy)(hz:z.eval env=some dz)(hw:w.eval env=some dw)(h:D.m4 o dx dy dz dw=some d):(E.m4 o x y z w).eval env=some d:=by simp only[E.eval,hx,hy,hz,hw,Option.bind_some,h]
theorem e_tget {env:List D}{i:Nat}{x:E}{dx d:D}(hx:x.eval env=some dx)(h:D.tget i dx=some d):(E.tget i x).eval env=some d:=by simp only[E.eval,hx,Option.bind_some,h]

theorem named_le (l:List Rep)(t s n:Int):named l t s n≤l.length:=List.length_filter_le _ _

theorem rep_noyl (r:Rep):r.d.noyl=true:=by simp[Rep.d,Rep.cs,D.noyl,noyls]
theorem reps_noyl (W:List Rep):noyls (W.map Rep.d)=true:=noyls_map fun r _=>rep_noyl r

theorem int_eq1 (c:Nat):((c:Int)==1)=(c==1):=by
 cases h:c==1 with
 | true=>simp at h;subst h;rfl
 | false=>simp at h ⊢;omega

structure L3 (F:List D)(v j:Nat)(W:List Rep)(st:List D)(out:D)(idx:List Nat):Prop where
 view:st[v]? = some (.blk 121 3 [.loc j 0,.lst (W.map Rep.d),out])
 sl:SlOf st 3 1 ncs out idx
 old:∀i,i<F.length→i≠v→st[i]? = F[i]?
 len:st.length=F.length+idx.length
 out:out=if idx=[] then .snil else .sl (F.length+idx.length-1) 0 idx.length

theorem L3.sid {F:List D}{v j:Nat}{W:List Rep}{st:List D}{out:D}{idx:List Nat}(h:L3 F v j W st out idx):∀b,out.sid=some b→F.length≤b:=fun b hb=>by
 rw[h.out] at hb
 split at hb
 ·cases hb
 ·rename_i hne
  cases hb
  have:=List.length_pos_iff.2 hne
  omega

theorem L3.step {F:List D}{v j:Nat}{W:List Rep}{st:List D}{out:D}{idx:List Nat}(h:L3 F v j W st out idx)(hv:v<F.length)(hl:idx.length≤1000000)(i:Nat) :
  ∃st1 st2,D.apph 3 1 8 (.st st) out (.lst [In i])=some (.st st1)∧D.apps (.st st) out (.lst [In i])=some (.sl st.length 0 (idx.length+1))∧D.sto 1 (.st st1) (.loc v 2) (.sl st.length 0 (idx.length+1))=some (.st st2)∧L3 F v j W st2 (.sl st.length 0 (idx.length+1)) (idx++[i]):=by
 have hlen:=h.len
 obtain⟨st1,a1,a2,a3,a4,a5⟩:=h.sl.append (bytes:=8) (x:=i) (y:=In i) (fun _=>rfl) rfl rfl (by omega) (by simp[maxLen];omega)
 have hk:∀k,k<F.length→st1[k]? = st[k]?:=fun k hk=>a5 k (by omega) fun e=>by have:=h.sid _ e;omega
 have hv1:st1[v]? = some (.blk 121 3 [.loc j 0,.lst (W.map Rep.d),out]):=by rw[hk v hv,h.view]
 refine⟨st1,_,a1,a2,sto_blk hv1 (by simp) rfl,?_,?_,fun k hk1 hk2=>?_,?_,?_⟩
 ·rw[List.getElem?_set_self (by omega)]
  rfl
 ·refine .inr ⟨st.length,by simp,?_⟩
  rw[List.getElem?_set_ne (by omega)]
  exact a3
 ·rw[List.getElem?_set_ne (Ne.symm hk2),hk k hk1,h.old k hk1 hk2]
 ·simp;omega
 ·rw[if_neg (by simp)]
  simp[hlen]

def idxP (W:List Rep)(t:Int):List Nat:=(List.range W.length).filter fun i=>pB W t (rAt W i)

theorem idx_le (W:List Rep)(t:Int):(idxP W t).length≤W.length:=by
 have:=List.length_filter_le (fun i=>pB W t (rAt W i)) (List.range W.length)
 simpa[idxP] using this

def atK (F:Nat)(v j:Nat)(W:List Rep)(idx:List Nat):List (Nat×D):=
 (v,.blk 121 3 [.loc j 0,.lst (W.map Rep.d),if idx=[] then .snil else .sl (F+idx.length-1) 0 idx.length]) :: (if idx=[] then[] else[(F+idx.length-1,.blk 3 1 (idx.flatMap ncs))])

theorem c66 (h:LogAt bs j m f ss kv)(hn:kv.length≤1000000){rs:List Rep}(hkv:kv=rs.foldl put [])(hny:noyls bs=true)(t:Int) :
  FSpecW Try.prog 66 (.st bs) [.loc j 0,I t] (.loc (bs.length+kv.length+1) 0) (.st (keepSt bs (bs.length+3*kv.length+6+(idxP (logR rs) t).length) (atK (bs.length+3*kv.length+6) (bs.length+kv.length+1) j (logR rs) (idxP (logR rs) t)))):=by
 have hrep:=reports h hn hkv
 have hlen:=log_len hkv
 obtain⟨W,hW⟩:∃W,W=logR rs:=⟨_,rfl⟩
 obtain⟨b1,hb1⟩:∃b1,b1=bs++List.replicate (kv.length+1) (D.tup []):=⟨_,rfl⟩
 rw[←hW,←hb1] at hrep
 rw[←hW] at hlen
 have hs1:D.sto 1 (.st (((b1++[.blk 121 3 [.loc j 0,.lst (W.map Rep.d),.snil]])++[.mblk []])++[.blk 136 1 [.v (.map none)]])) (.loc ((b1++[D.blk 121 3 [.loc j 0,.lst (W.map Rep.d),.snil]])++[D.mblk []]).length 0) (.mp (b1++[D.blk 121 3 [.loc j 0,.lst (W.map Rep.d),.snil]]).length)=some (.st (atA b1 j W [])):=by
  rw[sto_blk (e:=136) (sz:=1) (cs:=[.v (.map none)]) (by simp) (by simp) rfl]
  simp[atA]
 have hb1l:b1.length=bs.length+kv.length+1:=by rw[hb1];simp;omega
 rw[←hW]
 refine ku66.keep rfl _ _ ?_
 unfold u66
 simp only[ups_cons,ups_nil,List.cons_append,List.nil_append]
 repeat' (first|(apply u_chk;rfl)|(apply u_ld;rfl;rfl;exact ld_blk atA_view rfl;simp only[sbe];rfl)|(apply u_sto;rfl;rfl;rfl;exact hs1;simp only[sbe];rfl)|(apply u_lenL;rfl;exact lenL_map;simp only[sbe];rfl)|(apply u_ev;rfl;simp only[sbe];rfl)|(apply u_wcall;rfl;rfl;exact hrep;rfl;simp only[sbe];rfl)|refine u_join ?_)
 have hvar:∀nm:Nm,D.ld false 1 (.st (atA b1 j W nm)) (.loc ((b1++[D.blk 121 3 [.loc j 0,.lst (W.map Rep.d),.snil]])++[D.mblk []]).length 0)=some (.mp (b1.length+1)):=fun nm=>by
  rw[show((b1++[D.blk 121 3 [.loc j 0,.lst (W.map Rep.d),.snil]])++[D.mblk []]).length=b1.length+2 by simp]
  exact ld_blk atA_var rfl
 refine u_list W (fun nm i=>[In i,.st (atA b1 j W nm)]) (fun rest nm=>∃pre,W=pre++rest∧NmOk t pre nm∧noyls (nm.map nmD)=true) [] rfl (fun _ _=>rfl) ⟨[],rfl,NmOk.nil t,rfl⟩ (fun i x nm hx hlt hG R hR=>?_) (fun nm hG R=>?_)
 ·obtain⟨pre,hpre,hnm,hnmn⟩:=hG
  have hnb:=named_le pre t x.source x.number
  have hpl:pre.length≤W.length:=by rw[hpre];simp
  have hli:decide ((i:Int)<(W.length:Int))=true:=by simp;omega
  have hea:D.eaddr 7 (.lst (W.map Rep.d)) (In i)=some (.ptr x.cs):=eaddr_lst hx rfl
  cases hth:there t x
  ·have hth':decide (x.arrived≤t)=false:=hth
   repeat' (first|(apply nrm;simp only[sbe];rfl)|(apply u_iteT;rfl;exact hli)|(apply u_iteF;rfl;exact hth')|(apply u_chk;rfl)|(apply u_eaddr;rfl;rfl;exact hea;simp only[sbe];rfl)|(apply u_inc;rfl;omega;simp only[sbe];rfl)|(apply u_ev;rfl;simp only[sbe];rfl)|refine u_join ?_|(apply u_jump;rfl;rfl)|refine at_jump ?_|refine kj rfl ?_)
   exact hR nm ⟨pre++[x],by simpa using hpre,hnm.skip hth,hnmn⟩
  ·have hth':decide (x.arrived≤t)=true:=hth
   obtain⟨c,hc⟩:∃c:Nat,c=named pre t x.source x.number:=⟨_,rfl⟩
   have hget:=get_nm (bs:=atA b1 j W nm) atA_map (x.source,x.number) (hnm.get _) rfl
   have hentv:=entv_nm (bs:=atA b1 j W nm) atA_map (x.source,x.number) (I 0)
   have hentm:=entm_nm (bs:=atA b1 j W nm) atA_map (x.source,x.number) (I 0)
   rw[hnm.get] at hentm hentv
   rw[atA_set] at hentm
   have hget2:=get_nm (bs:=atA b1 j W (nput (x.source,x.number) (I c) nm)) atA_map (x.source,x.number) (z:=I 0) (x:=I c) (by rw[nget_put,if_pos rfl];rfl) rfl
   have hents:=ents_nm (bs:=atA b1 j W (nput (x.source,x.number) (I c) nm)) atA_map (I ((c:Int)+1))
   rw[atA_set] at hents
   simp only[←hc] at hget hentv hentm hnb
   repeat' (first|(apply nrm;simp only[sbe];rfl)|(apply u_m4;rfl;rfl;(·exact e_tget (e_m4 rfl rfl rfl rfl hentv) rfl);rfl;exact hents;simp only[sbe];rfl)|(apply u_iteT;rfl;(·first|exact hli|exact hth'))|(apply u_chk;rfl)|(apply u_same;exact e_m4 rfl rfl rfl rfl hget;exact e_m4 rfl rfl rfl rfl hget2;(·(simp[D.same,Value.same];done));simp only[sbe];rfl)|(apply u_ld;rfl;rfl;exact hvar _;simp only[sbe];rfl)|(apply u_eaddr;rfl;rfl;exact hea;simp only[sbe];rfl)|(apply u_m4;rfl;rfl;rfl;rfl;(·first|exact hget|exact hentm);simp only[sbe];rfl)|(apply u_inc;rfl;omega;simp only[sbe];rfl)|(apply u_ev;rfl;simp only[sbe];rfl)|refine u_join ?_|(apply u_jump;rfl;rfl)|refine at_jump ?_|refine kj rfl ?_)
   refine hR _ ⟨pre++[x],by simpa using hpre,?_,noyl_put rfl hnmn⟩
   have:=hnm.step hth
   rw[←hc] at this
   exact this
 ·obtain⟨pre,hpre,hnm,hnmn⟩:=hG
  rw[List.append_nil] at hpre
  subst hpre
  have hli:decide ((W.length:Int)<(W.length:Int))=false:=by simp
  have hs2:D.sto 1 (.st ((atA b1 j W nm++[.mblk []])++[.blk 139 1 [.v (.map none)]])) (.loc (atA b1 j W nm++[D.mblk []]).length 0) (.mp (atA b1 j W nm).length)=some (.st (atF b1 j W nm t 0)):=by
   rw[sto_blk (e:=139) (sz:=1) (cs:=[.v (.map none)]) (by simp) (by simp) rfl]
   simp[atF,atA_len,vm,jk]
  repeat' (first|(apply nrm;simp only[sbe];rfl)|(apply u_iteF;rfl;exact hli)|(apply u_chk;rfl)|(apply u_ld;rfl;rfl;exact ld_blk atF_view rfl;simp only[sbe];rfl)|(apply u_sto;rfl;rfl;rfl;exact hs2;simp only[sbe];rfl)|(apply u_ev;rfl;simp only[sbe];rfl)|(apply u_wcall;rfl;rfl;exact c91 _;rfl;simp only[sbe];rfl)|refine u_join ?_|(apply u_jump;rfl;rfl)|refine at_jump ?_|(refine over_jump (by decide) ?_)|refine kj rfl ?_)
  have hb1n:noyls b1=true:=by
   rw[hb1,noyls_app,hny,Bool.true_and]
   exact noyls_all fun d hd=>by rw[List.eq_of_mem_replicate hd];rfl
  refine u_rfor (.tup []) (.st (atF b1 j W nm t W.length)) rfl (by kernel_rfl) rfl rfl ?_ ?_ (fun m0 rec hyl=>?_) (by simp only[sbe];rfl) ?_
  ·simp[noyls,D.noyl,reps_noyl,D.cells]
  ·simpa[D.noyl] using atF_noyl hb1n hnmn
  ·refine c116 (fun k=>atF b1 j W nm t k) (by omega) (fun k hk=>?_)
   refine hyl _ _ _ (by simpa[D.noyl] using atF_noyl hb1n hnmn) (by simp[noyls,D.noyl,rep_noyl]) rfl ?_
   obtain⟨r,hr⟩:∃r,r=W[W.length-1-k]:=⟨_,rfl⟩
   rw[←hr]
   have hfl:=atF_len (b1:=b1) (j:=j) (W:=W) (nm:=nm) (t:=t) (k:=k) (by omega)
   obtain⟨X1,hX1⟩:∃X1,X1=atF b1 j W nm t k++[.blk 45 7 r.cs]:=⟨_,rfl⟩
   obtain⟨X2,hX2⟩:∃X2,X2=X1++[.blk 138 2 [I r.source,I r.number]]:=⟨_,rfl⟩
   have hlow1:∀i,i<b1.length+5→X1[i]? = (atF b1 j W nm t k)[i]?:=fun i hi=>by rw[hX1,List.getElem?_append_left (by omega)]
   have hlow:∀i,i<b1.length+5→X2[i]? = (atF b1 j W nm t k)[i]?:=fun i hi=>by rw[hX2,List.getElem?_append_left (by rw[hX1];simp;omega),hlow1 i hi]
   have hr1:X1[(atF b1 j W nm t k).length]? = some (.blk 45 7 r.cs):=by rw[hX1];simp
   have hr2:X2[(atF b1 j W nm t k).length]? = some (.blk 45 7 r.cs):=by rw[hX2,List.getElem?_append_left (by rw[hX1];simp),hr1]
   have hky:X2[X1.length]? = some (.blk 138 2 [I r.source,I r.number]):=by rw[hX2];simp
   have hld2:D.ld true 2 (.st X2) (.loc X1.length 0)=some (keyD (r.source,r.number)):=ldN_blk hky (by simp)
   have hgetN:D.m4 (.get KN false) (.st X2) (.mp (b1.length+1)) (keyD (r.source,r.number)) (I 0)=some (I (named W t r.source r.number:Nat)):=get_nm (by rw[hlow _ (by omega),atF_map]) _ (hnm.get _) rfl
   have hmV:X2[b1.length+3]? = some (.mblk ((vm W t (W.drop (W.length-k))).map nmD)):=by rw[hlow _ (by omega),atF_vmap]
   have hgetV:D.m4 (.get KN false) (.st X2) (.mp (b1.length+3)) (keyD (r.source,r.number)) (B false)=some (B ((vs W t (W.drop (W.length-k))).contains (r.source,r.number))):=get_nm hmV _ (get_vm W t _ _) rfl
   have hput:=put_nm hmV (r.source,r.car) (B true)
   have hvN:D.ld false 1 (.st X2) (.loc ((b1++[D.blk 121 3 [.loc j 0,.lst (W.map Rep.d),.snil]])++[D.mblk []]).length 0)=some (.mp (b1.length+1)):=by
    rw[show((b1++[D.blk 121 3 [.loc j 0,.lst (W.map Rep.d),.snil]])++[D.mblk []]).length=b1.length+2 by simp]
    exact ld_blk (by rw[hlow _ (by omega),atF_var]) rfl
   have hvV:D.ld false 1 (.st X2) (.loc (atA b1 j W nm++[D.mblk []]).length 0)=some (.mp (b1.length+3)):=by
    rw[show(atA b1 j W nm++[D.mblk []]).length=b1.length+4 by simp[atA_len]]
    exact ld_blk (by rw[hlow _ (by omega),atF_vvar]) rfl
   have hset:∀x:D,X2.set (b1.length+3) x=atA b1 j W nm++x :: .blk 139 1 [.mp (b1.length+3)] :: (jk W k++[.blk 45 7 r.cs,.blk 138 2 [I r.source,I r.number]]):=fun x=>by
    rw[hX2,hX1]
    simp only[atF]
    rw[List.append_assoc,List.append_assoc,List.set_append_right _ _ (by rw[atA_len];omega),atA_len]
    simp
   have hsame:X2=X2.set (b1.length+3) (.mblk ((vm W t (W.drop (W.length-k))).map nmD)):=by
    rw[hX2,hX1]
    simp only[atF]
    rw[List.append_assoc,List.append_assoc,List.set_append_right _ _ (by rw[atA_len];omega),atA_len]
    simp
   rw[hset] at hput
   obtain⟨hi1,hi2⟩:named W t r.source r.number≤W.length∧True:=⟨named_le _ _ _ _,trivial⟩
   have hnext:atF b1 j W nm t (k+1)=atA b1 j W nm++.mblk ((vm W t (r :: W.drop (W.length-k))).map nmD) :: .blk 139 1 [.mp (b1.length+3)] :: (jk W k++[.blk 45 7 r.cs,.blk 138 2 [I r.source,I r.number]]):=by
    simp only[atF,drop_at hk,jk_succ hk,←hr]
   cases hc:(r.kind==4&&decide (r.arrived≤t)&&((named W t r.source r.number:Nat):Int)==1&&!(vs W t (W.drop (W.length-k))).contains (r.source,r.number))
   ·have hvm:vm W t (r :: W.drop (W.length-k))=vm W t (W.drop (W.length-k)):=by
     simp only[vm]
     rw[if_neg]
     rintro⟨q1,q2,q3⟩
     unfold sureB there at q2
     rw[Bool.and_eq_true] at q2
     rw[q1,q2.1,int_eq1,q2.2,q3] at hc
     simp at hc
    have hfin:X2=atF b1 j W nm t (k+1):=by rw[hnext,hvm,hsame,hset]
    subst hX2 hX1
    repeat' (first|(apply nrm;simp only[sbe];rfl)|(apply u_iteF;rfl;exact hc)|(apply u_ld;rfl;rfl;(·first|exact ld_blk hr1 rfl|exact ld_blk hr2 rfl|exact hld2|exact hvN|exact hvV);simp only[sbe];rfl)|(apply u_sto;rfl;rfl;rfl;exact sto_all rfl rfl rfl;simp only[sbe];rfl)|(apply u_m4;rfl;rfl;rfl;rfl;(·first|exact hgetN|exact hgetV);simp only[sbe];rfl)|(apply u_ev;rfl;simp only[sbe];rfl)|(apply u_and;rfl)|refine u_join ?_|(apply u_jump;rfl;rfl)|refine at_jump ?_|refine kj rfl ?_|exact u_ret rfl rfl|(intro hz;(try simp only[sbs] at hz)))
    exact congrArg (fun x=>Sig.jump 1 [D.st x]) hfin
   ·have hvm:vm W t (r :: W.drop (W.length-k))=nput (r.source,r.car) (B true) (vm W t (W.drop (W.length-k))):=by
     simp only[vm]
     rw[if_pos]
     rw[int_eq1] at hc
     simp only[Bool.and_eq_true] at hc
     refine⟨by simpa using hc.1.1.1,?_,by simpa using hc.2⟩
     unfold sureB there
     rw[hc.1.1.2,hc.1.2]
     rfl
    rw[←hvm,←hnext] at hput
    subst hX2 hX1
    repeat' (first|(apply nrm;simp only[sbe];rfl)|(apply u_iteT;rfl;exact hc)|(apply u_ld;rfl;rfl;(·first|exact ld_blk hr1 rfl|exact ld_blk hr2 rfl|exact hld2|exact hvN|exact hvV);simp only[sbe];rfl)|(apply u_sto;rfl;rfl;rfl;exact sto_all rfl rfl rfl;simp only[sbe];rfl)|(apply u_m4;rfl;rfl;rfl;rfl;(·first|exact hgetN|exact hgetV|exact hput);simp only[sbe];rfl)|(apply u_ev;rfl;simp only[sbe];rfl)|(apply u_and;rfl)|refine u_join ?_|(apply u_jump;rfl;rfl)|refine at_jump ?_|refine kj rfl ?_|exact u_ret rfl rfl|(intro hz;(try simp only[sbs] at hz)))
    rfl
  ·have hFl:=atF_len (b1:=b1) (j:=j) (W:=W) (nm:=nm) (t:=t) (k:=W.length) (Nat.le_refl _)
   obtain⟨F,hF⟩:∃F,F=atF b1 j W nm t W.length:=⟨_,rfl⟩
   have hFv:F[b1.length]? = some (.blk 121 3 [.loc j 0,.lst (W.map Rep.d),.snil]):=by rw[hF];exact atF_view
   rw[←hF] at hFl ⊢
   repeat' (first|(apply nrm;simp only[sbe];rfl)|(apply u_chk;rfl)|(apply u_ld;rfl;rfl;exact ld_blk hFv rfl;simp only[sbe];rfl)|(apply u_lenL;rfl;exact lenL_map;simp only[sbe];rfl)|(apply u_ev;rfl;simp only[sbe];rfl)|refine u_join ?_|(apply u_jump;rfl;rfl)|refine at_jump ?_|refine kj rfl ?_)
   refine u_list W (fun(s:List D×D×List Nat) i=>[In i,.st s.1]) (fun rest s=>∃pre,W=pre++rest∧L3 F b1.length j W s.1 s.2.1 s.2.2∧s.2.2=(List.range pre.length).filter fun i=>pB W t (rAt W i)) (F,.snil,[]) rfl (fun _ _=>rfl) ⟨[],rfl,⟨hFv,.inl ⟨rfl,rfl⟩,fun _ _ _=>rfl,rfl,rfl⟩,rfl⟩ (fun i x s hx hlt hG R hR=>?_) (fun s hG R=>?_)
   ·obtain⟨st,out,idx⟩:=s
    obtain⟨pre,hpre,hI,hidx⟩:=hG
    simp only at hI hidx
    have hpl:pre.length=i:=by
     have:=congrArg List.length hpre
     simp at this
     omega
    have hxr:rAt W i=x:=by rw[rAt_get hlt];exact(List.getElem?_eq_some_iff.1 hx).2
    have hil:idx.length≤1000000:=by
     have:=List.length_filter_le (fun i=>pB W t (rAt W i)) (List.range pre.length)
     rw[←hidx] at this
     simp at this
     omega
    have hli:decide ((i:Int)<(W.length:Int))=true:=by simp;omega
    have hea:D.eaddr 7 (.lst (W.map Rep.d)) (In i)=some (.ptr x.cs):=eaddr_lst hx rfl
    have hlow:∀k,k<b1.length+5→k≠b1.length→st[k]? = F[k]?:=fun k hk hne=>hI.old k (by omega) hne
    have hgetN:D.m4 (.get KN false) (.st st) (.mp (b1.length+1)) (keyD (x.source,x.number)) (I 0)=some (I (named W t x.source x.number:Nat)):=get_nm (by rw[hlow _ (by omega) (by omega),hF,atF_map]) _ (hnm.get _) rfl
    have hgetV:D.m4 (.get KN false) (.st st) (.mp (b1.length+3)) (keyD (x.source,x.number)) (B false)=some (B ((vs W t W).contains (x.source,x.number))):=get_nm (by rw[hlow _ (by omega) (by omega),hF,atF_vmap,Nat.sub_self,List.drop_zero]) _ (get_vm W t _ _) rfl
    have hvN:D.ld false 1 (.st st) (.loc ((b1++[D.blk 121 3 [.loc j 0,.lst (W.map Rep.d),.snil]])++[D.mblk []]).length 0)=some (.mp (b1.length+1)):=by
     rw[show((b1++[D.blk 121 3 [.loc j 0,.lst (W.map Rep.d),.snil]])++[D.mblk []]).length=b1.length+2 by simp]
     exact ld_blk (by rw[hlow _ (by omega) (by omega),hF,atF_var]) rfl
    have hvV:D.ld false 1 (.st st) (.loc (atA b1 j W nm++[D.mblk []]).length 0)=some (.mp (b1.length+3)):=by
     rw[show(atA b1 j W nm++[D.mblk []]).length=b1.length+4 by simp[atA_len]]
     exact ld_blk (by rw[hlow _ (by omega) (by omega),hF,atF_vvar]) rfl
    obtain⟨st1,st2,a1,a2,a3,a4⟩:=hI.step (by omega) hil i
    have hpb:pB W t x=(decide (x.arrived≤t)&&((named W t x.source x.number:Nat):Int)==1&&!(vs W t W).contains (x.source,x.number)):=by
     rw[int_eq1]
     rfl
    cases hc:(decide (x.arrived≤t)&&((named W t x.source x.number:Nat):Int)==1&&!(vs W t W).contains (x.source,x.number))
    ·repeat' (first|(apply nrm;simp only[sbe];rfl)|(apply u_iteT;rfl;exact hli)|(apply u_iteF;rfl;exact hc)|(apply u_chk;rfl)|(apply u_ld;rfl;rfl;(·first|exact hvN|exact hvV);simp only[sbe];rfl)|(apply u_eaddr;rfl;rfl;exact hea;simp only[sbe];rfl)|(apply u_m4;rfl;rfl;rfl;rfl;(·first|exact hgetN|exact hgetV);simp only[sbe];rfl)|(apply u_inc;rfl;omega;simp only[sbe];rfl)|(apply u_ev;rfl;simp only[sbe];rfl)|(apply u_and;rfl)|refine u_join ?_|(apply u_jump;rfl;rfl)|refine at_jump ?_|refine kj rfl ?_|exact u_ret rfl rfl|(intro hz;(try simp only[sbs] at hz)))
     refine hR (st,out,idx) ⟨pre++[x],by simpa using hpre,hI,?_⟩
     simp only[List.length_append,List.length_cons,List.length_nil,Nat.zero_add]
     have hpbi:pB W t (rAt W i)=false:=by rw[hxr,hpb,hc]
     rw[List.range_succ,List.filter_append,←hidx,hpl]
     simp[List.filter_cons,hpbi]
    ·repeat' (first|(apply nrm;simp only[sbe];rfl)|(apply u_iteT;rfl;(·first|exact hli|exact hc))|(apply u_chk;rfl)|(apply u_stoa;rfl;rfl;rfl;rfl;rfl;exact a2;exact a3;simp only[sbe];rfl)|(apply u_ld;rfl;rfl;(·first|exact ld_blk hI.view rfl|exact hvN|exact hvV);simp only[sbe];rfl)|(apply u_eaddr;rfl;rfl;exact hea;simp only[sbe];rfl)|(apply u_apph;rfl;rfl;rfl;exact a1;simp only[sbe];rfl)|(apply u_m4;rfl;rfl;rfl;rfl;(·first|exact hgetN|exact hgetV);simp only[sbe];rfl)|(apply u_inc;rfl;omega;simp only[sbe];rfl)|(apply u_ev;rfl;simp only[sbe];rfl)|(apply u_and;rfl)|refine u_join ?_|(apply u_jump;rfl;rfl)|refine at_jump ?_|refine kj rfl ?_|exact u_ret rfl rfl|(intro hz;(try simp only[sbs] at hz)))
     refine hR (st2,_,idx++[i]) ⟨pre++[x],by simpa using hpre,a4,?_⟩
     simp only[List.length_append,List.length_cons,List.length_nil,Nat.zero_add]
     have hpbi:pB W t (rAt W i)=true:=by rw[hxr,hpb,hc]
     rw[List.range_succ,List.filter_append,←hidx,hpl]
     simp[List.filter_cons,hpbi]
   ·obtain⟨st,out,idx⟩:=s
    obtain⟨pre,hpre,hI,hidx⟩:=hG
    rw[List.append_nil] at hpre
    simp only at hI hidx
    rw[←hpre] at hidx
    have hidx':idx=idxP W t:=hidx
    have hli:decide ((W.length:Int)<(W.length:Int))=false:=by simp
    repeat' (first|(apply nrm;simp only[sbe];rfl)|(apply u_iteF;rfl;exact hli)|(apply u_ev;rfl;simp only[sbe];rfl)|(apply u_jump;rfl;rfl)|refine at_jump ?_|(refine over_jump (by decide) ?_)|refine kj rfl ?_)
    have hFl2:F.length=bs.length+3*kv.length+6:=by omega
    have hout:=hI.out
    rw[hidx',hFl2] at hout
    refine u_ret rfl ⟨st,?_,?_,fun k hk=>?_,fun p hp=>?_⟩
    ·show Sig.ret (D.tup [D.loc b1.length 0,D.st st])=_
     rw[hb1l]
    ·rw[hI.len,hidx',hFl2]
    ·rw[hI.old k (by omega) (by omega),hF,atF_old (by omega),hb1,List.getElem?_append_left hk]
    ·rcases List.mem_cons.1 hp with rfl | hp
     ·simp only
      rw[←hb1l,hI.view,hout]
     ·split at hp
      ·cases hp
      ·rename_i hne
       rw[List.mem_singleton] at hp
       subst hp
       simp only
       rw[if_neg hne] at hout
       rw[hI.sl.blk (by rw[hout];rfl),hidx']

theorem viewAt (h:LogAt bs j m f ss kv)(hn:kv.length≤1000000){rs:List Rep}(hkv:kv=rs.foldl put [])(hny:noyls bs=true)(t:Int) :
  ∃bs' v s,FSpecW Try.prog 66 (.st bs) [.loc j 0,I t] (.loc v 0) (.st bs')∧bs.length≤v∧bs.length≤bs'.length∧(∀i,i<bs.length→bs'[i]? = bs[i]?)∧ViewAt bs' v j (logR rs) s (idxP (logR rs) t)∧noyls bs'=true∧∀b,s.sid=some b→bs.length≤b:=by
 have h66:=c66 h hn hkv hny t
 generalize logR rs=W at h66 ⊢
 have hlt:∀i,i∈idxP W t→i<W.length:=fun i hi=>by
  unfold idxP at hi
  simp at hi
  exact hi.1
 generalize idxP W t=idx at h66 hlt ⊢
 refine⟨_,_,if idx=[] then .snil else .sl (bs.length+3*kv.length+6+idx.length-1) 0 idx.length,h66,by omega,by rw[keep_len];omega,fun i hi=>keep_old hi (by omega),⟨keep_new (by omega) (by omega) (by unfold atK;rw[List.find?_cons_of_pos (by simp)]),?_,hlt⟩,keep_noyl hny fun p hp=>?_,fun b hb=>?_⟩
 ·by_cases hne:idx=[]
  ·rw[if_pos hne]
   exact .inl ⟨hne,rfl⟩
  ·rw[if_neg hne]
   have hp:=List.length_pos_iff.2 hne
   exact .inr ⟨_,rfl,keep_new (by omega) (by omega) (by simp[atK,hne];omega)⟩
 ·rcases List.mem_cons.1 hp with rfl | hp
  ·simp only
   split <;> simp[D.noyl,noyls,reps_noyl]
  ·split at hp
   ·cases hp
   ·rw[List.mem_singleton] at hp
    subst hp
    have:noyls (idx.flatMap ncs)=true:=noyls_flat fun i _=>by simp[ncs,noyls,D.noyl]
    simpa[D.noyl] using this
 ·split at hb
  ·cases hb
  ·rename_i hne
   cases hb
   have hp:=List.length_pos_iff.2 hne
   omega

end Go.Am.Wr

/-
 What is known of a car,while it is found: the three changes.
-/
namespace Go.Am.Wr
open Go.Proofs
set_option maxRecDepth 100000
set_option maxHeartbeats 4000000

abbrev ANY:Nat:=1000000000

def bcs (b:Bool):List D:=[B b]

def upd {α:Type}(g:Nat→α)(p:Nat)(x:α):Nat→α:=fun q=>if q=p then x else g q

theorem upd_upd {α:Type}(g:Nat→α)(p:Nat)(x y:α):upd (upd g p x) p y=upd g p y:=by
 funext q
 unfold upd
 split <;> rfl
theorem upd_at {α:Type}(g:Nat→α)(p:Nat)(x:α):upd g p x p=x:=by simp[upd]

theorem range_set {α:Type}(g:Nat→α)(n p:Nat)(x:α):((List.range n).map g).set p x=(List.range n).map (upd g p x):=by
 apply List.ext_getElem
 ·simp
 ·intro i h1 h2
  simp only[List.getElem_set,List.getElem_map,List.getElem_range,upd]
  by_cases h:p=i
  ·subst h;simp
  ·rw[if_neg h,if_neg (Ne.symm h)]

def kst (bs:List D)(n:Nat)(g:Nat→Kn)(ps out:Int)(tr:Nat→Bool)(jk:List D):List D:=
 bs++.blk ANY 6 (((List.range n).map g).flatMap Kn.cs) :: .blk ANY 1 (((List.range n).map tr).flatMap bcs) :: .blk ANY 4 [.sl bs.length 0 n,I ps,I out,.sl (bs.length+1) 0 n] :: jk

section
variable {bs:List D} {n p:Nat} {g:Nat→Kn} {ps out:Int} {tr:Nat→Bool} {jk:List D}

theorem kst_b0:(kst bs n g ps out tr jk)[bs.length]? = some (.blk ANY 6 (((List.range n).map g).flatMap Kn.cs)):=by simp[kst]
theorem kst_b1:(kst bs n g ps out tr jk)[bs.length+1]? = some (.blk ANY 1 (((List.range n).map tr).flatMap bcs)):=by simp[kst]
theorem kst_b2:(kst bs n g ps out tr jk)[bs.length+2]? = some (.blk ANY 4 [.sl bs.length 0 n,I ps,I out,.sl (bs.length+1) 0 n]):=by simp[kst]
theorem kst_old {i:Nat}(h:i<bs.length):(kst bs n g ps out tr jk)[i]? = bs[i]?:=by simp[kst,List.getElem?_append_left h]
theorem kst_len:(kst bs n g ps out tr jk).length=bs.length+3+jk.length:=by simp[kst];omega
theorem kst_app (r:List D):kst bs n g ps out tr jk++r=kst bs n g ps out tr (jk++r):=by simp[kst]

theorem kst_congr {g':Nat→Kn}{tr':Nat→Bool}(h:∀q,q<n→g q=g' q)(ht:∀q,q<n→tr q=tr' q):kst bs n g ps out tr jk=kst bs n g' ps out tr' jk:=by
 have e1:(List.range n).map g=(List.range n).map g':=List.map_congr_left fun q hq=>h q (by simpa using hq)
 have e2:(List.range n).map tr=(List.range n).map tr':=List.map_congr_left fun q hq=>ht q (by simpa using hq)
 simp only[kst,e1,e2]

theorem kst_sto {k:Nat}{x':Kn}{d:D}(hp:p<n)(hk:k<6)(hd:d.one=true)(he:x'.cs=(g p).cs.set k d):D.sto 1 (.st (kst bs n g ps out tr jk)) (.loc bs.length (p*6+k)) d=some (.st (kst bs n (upd g p x') ps out tr jk)):=by
 rw[sto_el kst_b0 (fun _=>rfl) (x:=g p) (by simp[hp]) hk hd he,range_set]
 simp[kst]

theorem kst_stoT {b:Bool}(hp:p<n):D.sto 1 (.st (kst bs n g ps out tr jk)) (.loc (bs.length+1) (p*1)) (B b)=some (.st (kst bs n g ps out (upd tr p b) jk)):=by
 refine(sto_el (o:=0) (kst_b1 (bs:=bs) (n:=n) (g:=g) (ps:=ps) (out:=out) (tr:=tr) (jk:=jk)) (fun _=>rfl) (i:=p) (x:=tr p) (x':=b) (d:=B b) (by simp[hp]) (by omega) rfl rfl).trans ?_
 rw[range_set]
 simp[kst]

theorem kst_ps (x:Int):D.sto 1 (.st (kst bs n g ps out tr jk)) (.loc (bs.length+2) 1) (I x)=some (.st (kst bs n g x out tr jk)):=by
 rw[sto_blk kst_b2 (by simp) rfl]
 simp[kst]

theorem kst_out (x:Int):D.sto 1 (.st (kst bs n g ps out tr jk)) (.loc (bs.length+2) 2) (I x)=some (.st (kst bs n g ps x tr jk)):=by
 rw[sto_blk kst_b2 (by simp) rfl]
 simp[kst]

theorem kst_ld {k:Nat}{d:D}(hp:p<n)(hk:(g p).cs[k]? = some d):D.ld false 1 (.st (kst bs n g ps out tr jk)) (.loc bs.length (p*6+k))=some d:=
 ld_elc kst_b0 (fun _=>rfl) (by simp[hp]) hk

theorem kst_ldT (hp:p<n):D.ld false 1 (.st (kst bs n g ps out tr jk)) (.loc (bs.length+1) (p*1))=some (B (tr p)):=
 ld_el0 kst_b1 (fun _=>rfl) (by simp[hp]) rfl

theorem mm_max (a b:Int):D.mm true (I a) (I b)=some (I (max a b)):=by
 have h:(if b > a then b else a)=max a b:=by split <;> omega
 simp only[D.mm,if_true,h]
theorem mm_min (a b:Int):D.mm false (I a) (I b)=some (I (min a b)):=by
 have h:(if b<a then b else a)=min a b:=by split <;> omega
 simp only[D.mm,if_true,Bool.false_eq_true,if_false,h]

theorem c92 {r:Rep}(hpl:r.place=(p:Int))(hp:p<n){w kd:Int}(h1:0≤r.time∧r.time≤1000000000000)(h2:0≤w∧w≤10000000) :
  FSpecW Try.prog 92 (.st (kst bs n g ps out tr jk)) [.loc (bs.length+2) 0,r.d,I w,I kd] (.tup []) (.st (kst bs n (upd g p { g p with low:=max (g p).low (r.time-w),high:=min (g p).high (r.time+w) }) (max ps r.place) out (if kd=3 then tr else upd tr p true) jk)):=by
 have hea:D.eaddr 6 (.sl bs.length 0 n) (I r.place)=some (.loc bs.length (p*6)):=by rw[hpl];exact eaddr_sl hp
 have heb:D.eaddr 1 (.sl (bs.length+1) 0 n) (I r.place)=some (.loc (bs.length+1) (p*1)):=by rw[hpl];exact eaddr_sl hp
 have hs1:=kst_sto (bs:=bs) (n:=n) (g:=g) (ps:=ps) (out:=out) (tr:=tr) (jk:=jk) (k:=0) (x':={ g p with low:=max (g p).low (r.time-w) }) hp (by omega) (d:=I (max (g p).low (r.time-w))) rfl rfl
 have hs2:=kst_sto (bs:=bs) (n:=n) (g:=upd g p { g p with low:=max (g p).low (r.time-w) }) (ps:=ps) (out:=out) (tr:=tr) (jk:=jk) (k:=1) (x':={ g p with low:=max (g p).low (r.time-w),high:=min (g p).high (r.time+w) }) hp (by omega) (d:=I (min (g p).high (r.time+w))) rfl (by rw[upd_at];rfl)
 rw[upd_upd] at hs2
 have hl0:=kst_ld (bs:=bs) (n:=n) (g:=g) (ps:=ps) (out:=out) (tr:=tr) (jk:=jk) (k:=0) hp rfl
 have hl1:=kst_ld (bs:=bs) (n:=n) (g:=g) (ps:=ps) (out:=out) (tr:=tr) (jk:=jk) (k:=1) hp rfl
 by_cases hk:kd=3
 ·have hkd:(kd != 3)=false:=by simp[hk]
  rw[if_pos hk]
  refine ku92.W rfl ?_
  unfold u92
  simp only[ups_cons,ups_nil,List.cons_append,List.nil_append]
  repeat' (first|(apply nrm;simp only[sbe];rfl)|(apply u_iteF;rfl;exact hkd)|(apply u_chk;rfl)|(apply u_ld;rfl;rfl;(·first|exact ld_blk kst_b2 rfl|exact hl0|exact hl1);simp only[sbe];rfl)|(apply u_eaddr;rfl;rfl;exact hea;simp only[sbe];rfl)|(apply u_sto;rfl;rfl;rfl;(·first|exact hs1|exact hs2|exact kst_ps _);simp only[sbe];rfl)|(apply u_mm;rfl;rfl;(·first|exact mm_max _ _|exact mm_min _ _);simp only[sbe];rfl)|(apply u_add;rfl;rfl;omega;simp only[sbe];rfl)|(apply u_sub;rfl;rfl;omega;simp only[sbe];rfl)|(apply u_ev;rfl;simp only[sbe];rfl)|refine u_join ?_|(apply u_jump;rfl;rfl)|refine at_jump ?_|refine kj rfl ?_|exact u_ret rfl rfl)
 ·have hkd:(kd != 3)=true:=by simp[hk]
  rw[if_neg hk]
  refine ku92.W rfl ?_
  unfold u92
  simp only[ups_cons,ups_nil,List.cons_append,List.nil_append]
  repeat' (first|(apply nrm;simp only[sbe];rfl)|(apply u_iteT;rfl;exact hkd)|(apply u_chk;rfl)|(apply u_ld;rfl;rfl;(·first|exact ld_blk kst_b2 rfl|exact hl0|exact hl1);simp only[sbe];rfl)|(apply u_eaddr;rfl;rfl;(·first|exact hea|exact heb);simp only[sbe];rfl)|(apply u_sto;rfl;rfl;rfl;(·first|exact hs1|exact hs2|exact kst_ps _|exact kst_stoT hp);simp only[sbe];rfl)|(apply u_mm;rfl;rfl;(·first|exact mm_max _ _|exact mm_min _ _);simp only[sbe];rfl)|(apply u_add;rfl;rfl;omega;simp only[sbe];rfl)|(apply u_sub;rfl;rfl;omega;simp only[sbe];rfl)|(apply u_ev;rfl;simp only[sbe];rfl)|refine u_join ?_|(apply u_jump;rfl;rfl)|refine at_jump ?_|refine kj rfl ?_|exact u_ret rfl rfl)

theorem c93 {r:Rep}(hpl:r.place=(p:Int))(hp:p<n){w kd:Int}(h1:0≤r.time∧r.time≤1000000000000)(h2:0≤w∧w≤10000000) :
  FSpecW Try.prog 93 (.st (kst bs n g ps out tr jk)) [.loc (bs.length+2) 0,r.d,I w,I kd] (.tup []) (.st (kst bs n (upd g p { g p with low:=max (g p).low (r.time-w+1) }) ps out tr jk)):=by
 have hea:D.eaddr 6 (.sl bs.length 0 n) (I r.place)=some (.loc bs.length (p*6)):=by rw[hpl];exact eaddr_sl hp
 have hs1:=kst_sto (bs:=bs) (n:=n) (g:=g) (ps:=ps) (out:=out) (tr:=tr) (jk:=jk) (k:=0) (x':={ g p with low:=max (g p).low (r.time-w+1) }) hp (by omega) (d:=I (max (g p).low (r.time-w+1))) rfl rfl
 have hl0:=kst_ld (bs:=bs) (n:=n) (g:=g) (ps:=ps) (out:=out) (tr:=tr) (jk:=jk) (k:=0) hp rfl
 refine ku93.W rfl ?_
 unfold u93
 simp only[ups_cons,ups_nil,List.cons_append,List.nil_append]
 repeat' (first|(apply u_chk;rfl)|(apply u_ld;rfl;rfl;(·first|exact ld_blk kst_b2 rfl|exact hl0);simp only[sbe];rfl)|(apply u_eaddr;rfl;rfl;exact hea;simp only[sbe];rfl)|(apply u_sto;rfl;rfl;rfl;exact hs1;simp only[sbe];rfl)|(apply u_mm;rfl;rfl;exact mm_max _ _;simp only[sbe];rfl)|(apply u_add;rfl;rfl;omega;simp only[sbe];rfl)|(apply u_sub;rfl;rfl;omega;simp only[sbe];rfl)|exact u_ret rfl rfl)

theorem c94 (r:Rep)(w kd:Int) :
  FSpecW Try.prog 94 (.st (kst bs n g ps out tr jk)) [.loc (bs.length+2) 0,r.d,I w,I kd] (.tup []) (.st (kst bs n g (max ps r.place) (min out r.place) tr jk)):=by
 refine ku94.W rfl ?_
 unfold u94
 simp only[ups_cons,ups_nil,List.cons_append,List.nil_append]
 repeat' (first|(apply u_chk;rfl)|(apply u_ld;rfl;rfl;exact ld_blk kst_b2 rfl;simp only[sbe];rfl)|(apply u_sto;rfl;rfl;rfl;(·first|exact kst_ps _|exact kst_out _);simp only[sbe];rfl)|(apply u_mm;rfl;rfl;(·first|exact mm_max _ _|exact mm_min _ _);simp only[sbe];rfl)|exact u_ret rfl rfl)

end

end Go.Am.Wr

/-
 What is known of a car,report by report;the reports of a car by their indexes.
-/
namespace Go.Am.Wr
open Go.Proofs
set_option maxRecDepth 100000

variable {n:Nat} {least:List Int} {ss:List Src} {rs:List Rep} {r:Rep}

theorem low0_snoc (p:Nat):low0 ss (rs++[r]) p=if r.place=(p:Int) then max (low0 ss rs p) (lowB ss r) else low0 ss rs p:=by simp[low0,List.foldl_append]
theorem high0_snoc (p:Nat):high0 ss (rs++[r]) p=if r.place=(p:Int) then min (high0 ss rs p) (highB ss r) else high0 ss rs p:=by simp[high0,List.foldl_append]
theorem outAt_snoc (m:Int):outAt m (rs++[r])=if r.kind=3 then min (outAt m rs) r.place else outAt m rs:=by simp[outAt,List.foldl_append]
theorem trust_snoc (p:Nat):trustB ss (rs++[r]) p=(trustB ss rs p||(r.kind==1&&((srcOf ss r).kind != 3&&r.place==(p:Int)))):=by simp[trustB]

theorem low0_lo (p:Nat):-10000000000000≤low0 ss rs p:=(low0_le.1 (Int.le_refl _)).1
theorem high0_hi (p:Nat):high0 ss rs p≤10000000000000:=(le_high0.1 (Int.le_refl _)).1

def psR (rs:List Rep):Int:=rs.foldl (fun b r=>if r.kind=1∨r.kind=3 then max b r.place else b) (-1)
theorem psR_snoc:psR (rs++[r])=if r.kind=1∨r.kind=3 then max (psR rs) r.place else psR rs:=by simp[psR,List.foldl_append]

theorem psR_le:∀(rs:List Rep) (b x:Int),x≤rs.foldl (fun b r=>if r.kind=1∨r.kind=3 then max b r.place else b) b↔x≤b∨∃r,r∈rs∧(r.kind=1∨r.kind=3)∧x≤r.place
 | [],b,x=>by simp
 | r :: rs,b,x=>by
  rw[List.foldl_cons,psR_le rs]
  split
  ·rename_i h
   constructor
   ·rintro(h1 | ⟨q,h1,h2⟩)
    ·rcases Int.le_total b r.place with h3 | h3
     ·rw[Int.max_eq_right h3] at h1
      exact .inr ⟨r,by simp,h,h1⟩
     ·rw[Int.max_eq_left h3] at h1
      exact .inl h1
    ·exact .inr ⟨q,by simp[h1],h2⟩
   ·rintro(h1 | ⟨q,h1,h2,h3⟩)
    ·exact .inl (by omega)
    ·rcases List.mem_cons.1 h1 with rfl | h1
     ·exact .inl (by omega)
     ·exact .inr ⟨q,h1,h2,h3⟩
  ·rename_i h
   constructor
   ·rintro(h1 | ⟨q,h1,h2⟩)
    ·exact .inl h1
    ·exact .inr ⟨q,by simp[h1],h2⟩
   ·rintro(h1 | ⟨q,h1,h2,h3⟩)
    ·exact .inl h1
    ·rcases List.mem_cons.1 h1 with rfl | h1
     ·exact absurd h2 h
     ·exact .inr ⟨q,h1,h2,h3⟩

theorem passed_ps (rs:List Rep)(p:Nat):passedB rs p=decide ((p:Int)≤psR rs):=by
 rw[Bool.eq_iff_iff,decide_eq_true_eq]
 unfold psR
 rw[psR_le]
 simp only[passedB,List.any_eq_true,Bool.and_eq_true,Bool.or_eq_true,beq_iff_eq,decide_eq_true_eq]
 constructor
 ·rintro⟨r,h1,h2,h3⟩
  exact .inr ⟨r,h1,h2,h3⟩
 ·rintro(h | ⟨r,h1,h2,h3⟩)
  ·omega
  ·exact⟨r,h1,h2,h3⟩

def gR (ss:List Src)(rs:List Rep)(p:Nat):Kn:=⟨low0 ss rs p,high0 ss rs p,false,false,false,false⟩

theorem gR_pass {p:Nat}(hp:r.place=(p:Int))(hk:r.kind=1):upd (gR ss rs) p { gR ss rs p with low:=max (gR ss rs p).low (r.time-(srcOf ss r).error),high:=min (gR ss rs p).high (r.time+(srcOf ss r).error) }=gR ss (rs++[r]):=by
 funext q
 unfold upd
 have hl:lowB ss r=r.time-(srcOf ss r).error:=by simp[lowB,hk]
 have hh:highB ss r=r.time+(srcOf ss r).error:=by simp[highB,hk]
 split
 ·rename_i h
  subst h
  simp[gR,low0_snoc,high0_snoc,hp,hl,hh]
 ·rename_i h
  have hne:¬(p:Int)=(q:Int):=fun e=>h (by omega)
  simp[gR,low0_snoc,high0_snoc,hp,hne]

theorem gR_not {p:Nat}(hp:r.place=(p:Int))(hk:r.kind=2):upd (gR ss rs) p { gR ss rs p with low:=max (gR ss rs p).low (r.time-(srcOf ss r).error+1) }=gR ss (rs++[r]):=by
 funext q
 unfold upd
 have hl:lowB ss r=r.time-(srcOf ss r).error+1:=by simp[lowB,hk]
 have hh:highB ss r=10000000000000:=by simp[highB,hk]
 split
 ·rename_i h
  subst h
  have:=high0_hi (ss:=ss) (rs:=rs) q
  simp[gR,low0_snoc,high0_snoc,hp,hl,hh]
  omega
 ·rename_i h
  have hne:¬(p:Int)=(q:Int):=fun e=>h (by omega)
  simp[gR,low0_snoc,high0_snoc,hp,hne]

theorem gR_out (hk:r.kind=3):gR ss rs=gR ss (rs++[r]):=by
 funext q
 have hl:lowB ss r=-10000000000000:=by simp[lowB,hk]
 have hh:highB ss r=10000000000000:=by simp[highB,hk]
 have h1:=high0_hi (ss:=ss) (rs:=rs) q
 have h2:=low0_lo (ss:=ss) (rs:=rs) q
 simp only[gR,low0_snoc,high0_snoc,hl,hh]
 split
 ·simp;omega
 ·rfl

theorem trust_pass {p:Nat}(hp:r.place=(p:Int))(hk:r.kind=1):(if(srcOf ss r).kind=3 then trustB ss rs else upd (trustB ss rs) p true)=trustB ss (rs++[r]):=by
 funext q
 rw[trust_snoc]
 split
 ·rename_i h
  simp[h]
 ·rename_i h
  unfold upd
  have h3:((srcOf ss r).kind != 3)=true:=by simpa using h
  rw[hk,h3,hp]
  split
  ·rename_i e
   simp[e]
  ·rename_i e
   have hne:¬(p:Int)=(q:Int):=fun e2=>e (by omega)
   simp[hne]

theorem trust_not (hk:r.kind≠1):trustB ss rs=trustB ss (rs++[r]):=by
 funext q
 rw[trust_snoc]
 simp[hk]

/-! ## bounds -/

theorem lowF_bd (F:FOk n least ss)(hr:∀r,r∈rs→ROk n ss r){p:Nat}(hp:p<n):-10000000000000≤lowF least (low0 ss rs) p∧lowF least (low0 ss rs) p≤1003000000001:=by
 have hh:=F.hi
 constructor
 ·have:=(lowF_le (least:=least) (f:=low0 ss rs) (p:=p) (x:=lowF least (low0 ss rs) p)).1 (Int.le_refl _) p (Nat.le_refl _)
  have h2:=low0_lo (ss:=ss) (rs:=rs) p
  simp[btw] at this
  omega
 ·rw[lowF_le]
  intro q hq
  have h1:=btw_small F q (d:=p-q) (by omega)
  have h2:low0 ss rs q≤1000000000001:=low0_le.2 ⟨by omega,fun r hr' _=>(lowB_bd F (hr r hr')).1⟩
  omega

theorem highF_bd (F:FOk n least ss)(hr:∀r,r∈rs→ROk n ss r){d:Nat}(hd:d≤n-1):-3000000000≤highF least (high0 ss rs) (n-1) d∧highF least (high0 ss rs) (n-1) d≤10000000000000:=by
 have hh:=F.hi
 constructor
 ·rw[le_highF hd]
  intro e he
  have h1:=btw_small F (n-1-d) (d:=d-e) (by omega)
  have h2:0≤high0 ss rs (n-1-e):=le_high0.2 ⟨by omega,fun r hr' _=>(highB_bd F (hr r hr')).1⟩
  omega
 ·have:=(le_highF (least:=least) (f:=high0 ss rs) (x:=highF least (high0 ss rs) (n-1) d) hd).1 (Int.le_refl _) d (Nat.le_refl _)
  have h2:=high0_hi (ss:=ss) (rs:=rs) (n-1-d)
  simp[btw] at this
  omega

/-! ## the reports of a car by their indexes -/

def idxC (W:List Rep)(t car:Int):List Nat:=(idxP W t).filter fun i=>okC car (rAt W i)

theorem map_rAt (W:List Rep):(List.range W.length).map (rAt W)=W:=by
 apply List.ext_getElem
 ·simp
 ·intro i h1 h2
  simp[rAt_get h2]

theorem filter_rAt (W:List Rep)(q:Rep→Bool):((List.range W.length).filter fun i=>q (rAt W i)).map (rAt W)=W.filter q:=by
 have h:=List.filter_map (f:=rAt W) (p:=q) (l:=List.range W.length)
 rw[map_rAt] at h
 rw[h]
 rfl

theorem idxP_map (W:List Rep)(t:Int):(idxP W t).map (rAt W)=W.filter (pB W t):=filter_rAt W _

theorem idxC_map (W:List Rep)(t car:Int):(idxC W t car).map (rAt W)=ofCar W t car:=by
 unfold idxC ofCar
 rw[←idxP_map,List.filter_map]
 rfl

theorem idxC_le (W:List Rep)(t car:Int):(idxC W t car).length≤W.length:=Nat.le_trans (List.length_filter_le _ _) (idx_le W t)

theorem c95L {v j:Nat} {W:List Rep} {s:D} {t car:Int} (g:Nat→List D) (hV:∀k,k≤(idxC W t car).length→ViewAt (g k) v j W s (idxP W t)) (hL:W.length≤1000000) {m0:Nat} {rec:Loop} {sl:List Nat} {cds:List D}
  (hy:∀k (h:k<(idxC W t car).length),YSpec Try.prog (.yl m0 rec sl cds) (.st (g k)) [In (idxC W t car)[k],(rAt W (idxC W t car)[k]).d] (.st (g (k+1)))) :
  FSpecW Try.prog 95 (.st (g 0)) [.yl m0 rec sl cds,.ptr [.loc v 0],.ptr [I car]] (.tup []) (.st (g (idxC W t car).length)):=by
 have key:∀k,k≤(idxP W t).length→(((idxP W t).take k).filter fun i=>okC car (rAt W i)).length≤(idxC W t car).length:=fun k _=>(List.Sublist.filter _ (List.take_sublist k _)).length_le
 have h:=c95 (m0:=m0) (rec:=rec) (sl:=sl) (cds:=cds) (car:=car) (fun k=>g (((idxP W t).take k).filter fun i=>okC car (rAt W i)).length) (fun k hk=>hV _ (key k hk)) (by have:=idx_le W t;omega) (fun k hk hok=>?_) (fun k hk hok=>?_)
 ·simp only[List.take_length] at h
  exact h
 ·have e1:((idxP W t).take (k+1)).filter (fun i=>okC car (rAt W i))=((idxP W t).take k).filter (fun i=>okC car (rAt W i))++[(idxP W t)[k]]:=by
   rw[List.take_succ_eq_append_getElem hk,List.filter_append]
   simp[List.filter_cons,hok]
  have e2:idxC W t car=((idxP W t).take k).filter (fun i=>okC car (rAt W i))++(idxP W t)[k] :: ((idxP W t).drop (k+1)).filter (fun i=>okC car (rAt W i)):=by
   unfold idxC
   conv=>lhs;rw[←List.take_append_drop k (idxP W t),List.drop_eq_getElem_cons hk,List.filter_append,List.filter_cons]
   simp[hok]
  have hlt:(((idxP W t).take k).filter (fun i=>okC car (rAt W i))).length<(idxC W t car).length:=by rw[e2];simp
  have h3:=hy _ hlt
  have e3:(idxC W t car)[(((idxP W t).take k).filter (fun i=>okC car (rAt W i))).length]=(idxP W t)[k]:=by
   have:(idxC W t car)[(((idxP W t).take k).filter (fun i=>okC car (rAt W i))).length]? = some (idxP W t)[k]:=by
    conv=>lhs;arg 1;rw[e2]
    simp
   rw[List.getElem?_eq_getElem hlt] at this
   exact Option.some.inj this
  rw[e3] at h3
  simp only[e1,List.length_append,List.length_cons,List.length_nil,Nat.zero_add]
  exact h3
 ·rw[List.take_succ_eq_append_getElem hk,List.filter_append]
  simp[List.filter_cons,hok]

end Go.Am.Wr

/-
 What is known of a car: the walk.
-/
namespace Go.Am.Wr
open Go.Proofs
set_option maxRecDepth 100000
set_option maxHeartbeats 4000000

def K0:Kn:=⟨0,0,false,false,false,false⟩
def K1:Kn:=⟨-10000000000000,10000000000000,false,false,false,false⟩

abbrev xP6:E:=.newv 1000000000 6 (.sym 2) (.sym 7)
abbrev xT1:E:=.newv 1000000000 1 xP6 (.sym 14)
abbrev xK4:E:=.newb 1000000000 4 xT1 (.cons (.fstsl (.sym 2) (.sym 7)) (.cons (ki (-1)) (.cons (.sym 10) (.cons (.fstsl xP6 (.sym 14)) .nil))))

section
variable {bs:List D} {n:Nat} {env:List D}

theorem cells_rep {α:Type}(enc:α→List D)(a:α)(n:Nat){d:D}(hd:d.cells=enc a):cellsL (List.replicate n d)=((List.range n).map fun _=>a).flatMap enc:=by
 rw[List.map_const',List.length_range]
 simp only[cellsL,List.flatMap_replicate,hd]

theorem e_newv {e k:Nat}{x y:E}{dx dy d:D}(hx:x.eval env=some dx)(hy:y.eval env=some dy)(h:D.newv e k dx dy=some d):(E.newv e k x y).eval env=some d:=by simp only[E.eval,hx,hy,Option.bind_some,h]
theorem e_newb {e k:Nat}{x y:E}{dx dy d:D}(hx:x.eval env=some dx)(hy:y.eval env=some dy)(h:D.newb e k dx dy=some d):(E.newb e k x y).eval env=some d:=by simp only[E.eval,hx,hy,Option.bind_some,h]
theorem e_cons {x y:E}{dx dy d:D}(hx:x.eval env=some dx)(hy:y.eval env=some dy)(h:D.cons dx dy=some d):(E.cons x y).eval env=some d:=by simp only[E.eval,hx,hy,Option.bind_some,h]
theorem e_fstsl {x y:E}{dx dy d:D}(hx:x.eval env=some dx)(hy:y.eval env=some dy)(h:D.fstsl dx dy=some d):(E.fstsl x y).eval env=some d:=by simp only[E.eval,hx,hy,Option.bind_some,h]
theorem e_fstid {x:E}{dx d:D}(hx:x.eval env=some dx)(h:D.fstid dx=some d):(E.fstid x).eval env=some d:=by simp only[E.eval,hx,Option.bind_some,h]
theorem e_mkptr {x:E}{dx d:D}(hx:x.eval env=some dx)(h:D.mkptr dx=some d):(E.mkptr x).eval env=some d:=by simp only[E.eval,hx,Option.bind_some,h]

abbrev zP (n:Nat):D:=.blk ANY 6 (((List.range n).map fun _=>K0).flatMap Kn.cs)
abbrev zT (n:Nat):D:=.blk ANY 1 (((List.range n).map fun _=>false).flatMap bcs)

theorem newvP:D.newv 1000000000 6 (.st bs) (.lst (List.replicate n K0.d))=some (.st (bs++[zP n])):=by
 simp only[D.newv]
 rw[if_pos,cells_rep Kn.cs K0 n rfl]
 constructor
 ·simp[allCells,Kn.d,Kn.cs,D.cells]
 ·rw[cells_rep Kn.cs K0 n rfl,List.all_eq_true]
  intro d hd
  obtain⟨x,hx,hd⟩:=List.mem_flatMap.1 hd
  obtain⟨_,_,rfl⟩:=List.mem_map.1 hx
  simp[Kn.cs,K0] at hd
  rcases hd with rfl | rfl | rfl | rfl | rfl | rfl <;> rfl

theorem newvT:D.newv 1000000000 1 (.st bs) (.lst (List.replicate n (B false)))=some (.st (bs++[zT n])):=by
 simp only[D.newv]
 rw[if_pos,cells_rep bcs false n rfl]
 constructor
 ·simp[allCells,D.cells]
 ·rw[cells_rep bcs false n rfl,List.all_eq_true]
  intro d hd
  obtain⟨x,hx,hd⟩:=List.mem_flatMap.1 hd
  obtain⟨_,_,rfl⟩:=List.mem_map.1 hx
  simp[bcs] at hd
  rw[hd];rfl

theorem e_xP6 (h2:env[2]? = some (.st bs))(h7:env[7]? = some (.lst (List.replicate n K0.d))):xP6.eval env=some (.st (bs++[zP n])):=e_newv h2 h7 newvP

theorem e_xT1 (h2:env[2]? = some (.st bs))(h7:env[7]? = some (.lst (List.replicate n K0.d)))(h14:env[14]? = some (.lst (List.replicate n (B false)))):xT1.eval env=some (.st (bs++[zP n]++[zT n])):=e_newv (e_xP6 h2 h7) h14 newvT

theorem e_fs0 (h2:env[2]? = some (.st bs))(h7:env[7]? = some (.lst (List.replicate n K0.d))):(E.fstsl (.sym 2) (.sym 7)).eval env=some (.sl bs.length 0 n):=e_fstsl h2 h7 (by simp[D.fstsl])
theorem e_fs (h2:env[2]? = some (.st bs))(h7:env[7]? = some (.lst (List.replicate n K0.d)))(h14:env[14]? = some (.lst (List.replicate n (B false)))):(E.fstsl xP6 (.sym 14)).eval env=some (.sl (bs.length+1) 0 n):=e_fstsl (e_xP6 h2 h7) h14 (by simp[D.fstsl])
theorem e_fi (h2:env[2]? = some (.st bs))(h7:env[7]? = some (.lst (List.replicate n K0.d)))(h14:env[14]? = some (.lst (List.replicate n (B false)))):(E.fstid xT1).eval env=some (.loc (bs.length+2) 0):=e_fstid (e_xT1 h2 h7 h14) (by simp[D.fstid])
theorem e_kp (h2:env[2]? = some (.st bs))(h7:env[7]? = some (.lst (List.replicate n K0.d)))(h14:env[14]? = some (.lst (List.replicate n (B false)))):(E.mkptr (.cons (.fstid xT1) .nil)).eval env=some (.ptr [.loc (bs.length+2) 0]):=e_mkptr (e_cons (e_fi h2 h7 h14) rfl rfl) rfl

theorem e_xK4 (h2:env[2]? = some (.st bs))(h7:env[7]? = some (.lst (List.replicate n K0.d)))(h14:env[14]? = some (.lst (List.replicate n (B false))))(h10:env[10]? = some (In n)):xK4.eval env=some (.st (kst bs n (fun _=>K0) (-1) n (fun _=>false) [])):=
 e_newb (e_xT1 h2 h7 h14) (e_cons (e_fs0 h2 h7) (e_cons rfl (e_cons h10 (e_cons (e_fs h2 h7 h14) rfl rfl) rfl) rfl) rfl) (by simp[D.newb,D.cells,kst,D.one])

end

def iniG (i:Nat)(q:Nat):Kn:=if q<i then K1 else K0

theorem iniG_step (i:Nat):upd (iniG i) i K1=iniG (i+1):=by
 funext q
 unfold upd iniG
 by_cases h:q=i
 ·rw[if_pos h,if_pos (by omega)]
 ·rw[if_neg h]
  by_cases h2:q<i
  ·rw[if_pos h2,if_pos (by omega)]
  ·rw[if_neg h2,if_neg (by omega)]

def kj2 (ss:List Src)(rs:List Rep):List D:=rs.flatMap fun r=>[.blk 45 7 r.cs,.blk 76 2 (srcOf ss r).cs]

def kF (bs:List D)(n:Nat)(ss:List Src)(rs:List Rep):List D:=kst bs n (gR ss rs) (psR rs) (outAt n rs) (trustB ss rs) (kj2 ss rs)

theorem e_ld' {env:List D}{a:Bool}{k:Nat}{x y:E}{dx dy d:D}(hx:x.eval env=some dx)(hy:y.eval env=some dy)(h:D.ld a k dx dy=some d):(E.ld a k x y).eval env=some d:=by simp only[E.eval,hx,hy,Option.bind_some,h]

theorem kst_noyl {bs:List D}{n:Nat}{g:Nat→Kn}{ps out:Int}{tr:Nat→Bool}{jk:List D}(hb:noyls bs=true)(hj:noyls jk=true):noyls (kst bs n g ps out tr jk)=true:=by
 have h1:noyls (((List.range n).map g).flatMap Kn.cs)=true:=noyls_flat fun x _=>by simp[Kn.cs,noyls,D.noyl]
 have h2:noyls (((List.range n).map tr).flatMap bcs)=true:=noyls_flat fun x _=>by simp[bcs,noyls,D.noyl]
 simp[kst,noyls_app,hb,noyls,D.noyl,h1,h2,hj]

theorem kj2_noyl (ss:List Src)(rs:List Rep):noyls (kj2 ss rs)=true:=noyls_flat fun r _=>by simp[noyls,D.noyl,Rep.cs,Src.cs]

theorem ViewAt.keep {bs bs':List D}{v j:Nat}{W:List Rep}{s:D}{idx:List Nat}(h:ViewAt bs v j W s idx)(hk:∀i,i<bs.length→bs'[i]? = bs[i]?):ViewAt bs' v j W s idx where
 blk:=by rw[hk _ (List.getElem?_eq_some_iff.1 h.blk).1];exact h.blk
 sl:=h.sl.keep fun i hi=>hk i (h.sl.lt hi)
 lt:=h.lt

theorem LogAt.keep {bs bs':List D}{j m:Nat}{f:Fld}{ss:List Src}{kv:List (Rep×Int)}(h:LogAt bs j m f ss kv)(hk:∀i,i<bs.length→bs'[i]? = bs[i]?):LogAt bs' j m f ss kv where
 blk:=by rw[hk _ (List.getElem?_eq_some_iff.1 h.blk).1];exact h.blk
 map:=by rw[hk _ (List.getElem?_eq_some_iff.1 h.map).1];exact h.map

theorem change {bs:List D}{n:Nat}{least:List Int}{ss:List Src}{rs:List Rep}{r:Rep}(F:FOk n least ss)(hr:ROk n ss r) :
  ∃g cs,D.m4 (.elemA 4 1) (.ptr [.v .nilFunc,.fn 92 [] [],.fn 93 [] [],.fn 94 [] []]) (I r.kind) (.agg []) (.agg [])=some (.ptr (.fn g [] [] :: cs))∧callable Try.prog g=true ∧
   FSpecW Try.prog g (.st (kF bs n ss rs++[.blk 45 7 r.cs]++[.blk 76 2 (srcOf ss r).cs])) [.loc (bs.length+2) 0,r.d,I (srcOf ss r).error,I (srcOf ss r).kind] (.tup []) (.st (kF bs n ss (rs++[r]))):=by
 have hX:kF bs n ss rs++[.blk 45 7 r.cs]++[.blk 76 2 (srcOf ss r).cs]=kst bs n (gR ss rs) (psR rs) (outAt n rs) (trustB ss rs) (kj2 ss (rs++[r])):=by
  simp[kF,kst,kj2]
 rw[hX]
 have hp:r.place=((r.place.toNat:Nat):Int):=by have:=hr.place;omega
 have hpn:r.place.toNat<n:=by have:=hr.place;omega
 have he:=hr.err F
 rcases hr.kind with hk | hk | hk
 ·refine⟨92,_,by rw[hk];rfl,by kernel_rfl,?_⟩
  have h:=c92 (bs:=bs) (n:=n) (g:=gR ss rs) (ps:=psR rs) (out:=outAt n rs) (tr:=trustB ss rs) (jk:=kj2 ss (rs++[r])) hp hpn (kd:=(srcOf ss r).kind) hr.time he
  rw[gR_pass hp hk,trust_pass hp hk] at h
  unfold kF
  rw[psR_snoc,outAt_snoc,if_pos (.inl hk),if_neg (by omega)]
  exact h
 ·refine⟨93,_,by rw[hk];rfl,by kernel_rfl,?_⟩
  have h:=c93 (bs:=bs) (n:=n) (g:=gR ss rs) (ps:=psR rs) (out:=outAt n rs) (tr:=trustB ss rs) (jk:=kj2 ss (rs++[r])) hp hpn (kd:=(srcOf ss r).kind) hr.time he
  rw[gR_not hp hk] at h
  unfold kF
  rw[psR_snoc,outAt_snoc,if_neg (by omega),if_neg (by omega),←trust_not (by omega:r.kind≠1)]
  exact h
 ·refine⟨94,_,by rw[hk];rfl,by kernel_rfl,?_⟩
  have h:=c94 (bs:=bs) (n:=n) (g:=gR ss rs) (ps:=psR rs) (out:=outAt n rs) (tr:=trustB ss rs) (jk:=kj2 ss (rs++[r])) r (srcOf ss r).error (srcOf ss r).kind
  unfold kF
  rw[psR_snoc,outAt_snoc,if_pos (.inr hk),if_pos hk,←gR_out hk,←trust_not (by omega:r.kind≠1)]
  exact h

theorem kF_noyl {bs:List D}{n:Nat}{ss:List Src}{rs:List Rep}(hb:noyls bs=true):noyls (kF bs n ss rs)=true:=kst_noyl hb (kj2_noyl ss _)

theorem sames_srcs:∀ss:List Src,D.sames (ss.map Src.d) (ss.map Src.d)=true
 | []=>rfl
 | s :: r=>by simp[D.sames,sames_srcs r,Src.d,Src.cs,D.same,Value.same]
theorem same_srcs (ss:List Src):D.same (.lst (ss.map Src.d)) (.lst (ss.map Src.d))=true:=by simp only[D.same,sames_srcs]

theorem kj2_len (ss:List Src):∀rs:List Rep,(kj2 ss rs).length=2*rs.length
 | []=>rfl
 | r :: rs=>by
  have:=kj2_len ss rs
  unfold kj2 at this ⊢
  simp only[List.flatMap_cons,List.length_append,this,List.length_cons,List.length_nil]
  omega

theorem noyls_rep {d:D}(hd:d.noyl=true)(n:Nat):(D.lst (List.replicate n d)).noyl=true:=by
 simp only[D.noyl]
 exact noyls_all fun x hx=>by rw[List.eq_of_mem_replicate hx];exact hd

theorem ea_src {ss:List Src}{r:Rep}(h:0≤r.source∧r.source<ss.length):D.eaddr 2 (.lst (ss.map Src.d)) (I r.source)=some (.ptr (srcOf ss r).cs):=by
 have e1:r.source=((r.source.toNat:Nat):Int):=by omega
 have hlt:r.source.toNat<ss.length:=by omega
 have hg:ss[r.source.toNat]? = some (srcOf ss r):=by unfold srcOf;simp[hlt]
 have:=eaddr_lst (enc:=Src.d) (sz:=2) hg rfl
 rw[←e1] at this
 exact this

section
variable {n:Nat} {least:List Int} {ss:List Src} {rs:List Rep}

def loG (ss:List Src)(least:List Int)(rs:List Rep)(i q:Nat):Kn:=⟨if q≤i then lowF least (low0 ss rs) q else low0 ss rs q,high0 ss rs q,false,false,false,false⟩

theorem loG_zero:gR ss rs=loG ss least rs 0:=by
 funext q
 unfold gR loG
 split
 ·rename_i h
  have:q=0:=by omega
  subst this
  rfl
 ·rfl

theorem loG_step (i:Nat):upd (loG ss least rs i) (i+1) ⟨lowF least (low0 ss rs) (i+1),high0 ss rs (i+1),false,false,false,false⟩=loG ss least rs (i+1):=by
 funext q
 unfold upd loG
 by_cases h:q=i+1
 ·subst h
  simp
 ·rw[if_neg h]
  by_cases h2:q≤i
  ·rw[if_pos h2,if_pos (by omega)]
  ·rw[if_neg h2,if_neg (by omega)]

def hiG (ss:List Src)(least:List Int)(n:Nat)(rs:List Rep)(d q:Nat):Kn:=⟨lowF least (low0 ss rs) q,if n-1-q≤d then highF least (high0 ss rs) (n-1) (n-1-q) else high0 ss rs q,false,false,false,false⟩

theorem hiG_zero {q:Nat}(h:q<n):loG ss least rs (n-1) q=hiG ss least n rs 0 q:=by
 unfold loG hiG
 rw[if_pos (by omega)]
 split
 ·rename_i h2
  have:q=n-1:=by omega
  subst this
  simp[highF]
 ·rfl

theorem hiG_step {d i:Nat}(hd2:d<n-1)(hi:i+1<n)(hd:i=n-1-(d+1)){q:Nat}(hq:q<n):upd (hiG ss least n rs d) i ⟨lowF least (low0 ss rs) i,highF least (high0 ss rs) (n-1) (d+1),false,false,false,false⟩ q=hiG ss least n rs (d+1) q:=by
 unfold upd hiG
 by_cases h:q=i
 ·subst h
  rw[if_pos rfl,if_pos (by omega),show n-1-q=d+1 by omega]
 ·rw[if_neg h]
  by_cases h2:n-1-q≤d
  ·rw[if_pos h2,if_pos (by omega)]
  ·rw[if_neg h2,if_neg (by omega)]

def fiG (ss:List Src)(least:List Int)(n:Nat)(rs:List Rep)(i q:Nat):Kn:=if q<i then knAt ss least n rs q else hiG ss least n rs (n-1) q

theorem fiG_at (i:Nat):fiG ss least n rs i i=⟨lowF least (low0 ss rs) i,highF least (high0 ss rs) (n-1) (n-1-i),false,false,false,false⟩:=by
 unfold fiG hiG
 rw[if_neg (by omega),if_pos (by omega)]

theorem fiG_step (i:Nat):upd (fiG ss least n rs i) i (knAt ss least n rs i)=fiG ss least n rs (i+1):=by
 funext q
 unfold upd fiG
 by_cases h:q=i
 ·subst h
  rw[if_pos rfl,if_pos (by omega)]
 ·rw[if_neg h]
  by_cases h2:q<i
  ·rw[if_pos h2,if_pos (by omega)]
  ·rw[if_neg h2,if_neg (by omega)]

theorem kn_eq (i:Nat):knAt ss least n rs i=⟨lowF least (low0 ss rs) i,highF least (high0 ss rs) (n-1) (n-1-i),decide ((i:Int)≤psR rs),((i:Int)==outAt n rs),
  (decide ((i:Int)≤psR rs)&&!trustB ss rs i)||(decide (lowF least (low0 ss rs) i > highF least (high0 ss rs) (n-1) (n-1-i))||(decide ((i:Int)≤psR rs)&&decide (outAt n rs<(i:Int)))),
  decide (lowF least (low0 ss rs) i > highF least (high0 ss rs) (n-1) (n-1-i))||(decide ((i:Int)≤psR rs)&&decide (outAt n rs<(i:Int)))⟩:=by
 unfold knAt
 simp only[passed_ps,Kn.mk.injEq,true_and]
 refine⟨?_,trivial⟩
 cases h:(i:Int)==outAt n rs with
 | true=>simp at h;simp[h]
 | false=>simp at h;simp[h]

end

theorem c67 {bs:List D}{j m v n:Nat}{f:Fld}{ss:List Src}{kv:List (Rep×Int)}{W:List Rep}{s:D}{t car:Int}(hA:LogAt bs j m f ss kv)(F:FOk n f.least ss)(hn:f.places=(n:Int))(hV:ViewAt bs v j W s (idxP W t))(hWl:W.length≤1000000)(hr:∀r,r∈ofCar W t car→ROk n ss r)(hny:noyls bs=true) :
  FSpecW Try.prog 67 (.st bs) [.loc v 0,I car] (.sl bs.length 0 n) (.st (keepSt bs (bs.length+3+2*(idxC W t car).length) [(bs.length,.blk ANY 6 ((knR ss f.least n (ofCar W t car)).flatMap Kn.cs))])):=by
 have hlog:=hA.blk
 rw[hn] at hlog
 have hvl:=(List.getElem?_eq_some_iff.1 hV.blk).1
 have hjl:=(List.getElem?_eq_some_iff.1 hlog).1
 have hnh:=F.hi
 have hnl:=F.lo
 have hr1:D.rep 24 (In n) K0.d=some (.lst (List.replicate n K0.d)):=by
  simp only[D.rep,Int.toNat_natCast]
  rw[if_pos]
  refine⟨by omega,by omega,?_⟩
  simp[maxLen]
  omega
 have hr2:D.rep 1 (In n) (B false)=some (.lst (List.replicate n (B false))):=by
  simp only[D.rep,Int.toNat_natCast]
  rw[if_pos]
  refine⟨by omega,by omega,?_⟩
  simp[maxLen]
  omega
 refine ku67.keep rfl _ _ ?_
 unfold u67
 simp only[ups_cons,ups_nil,List.cons_append,List.nil_append]
 repeat' (first|(apply u_chk;rfl)|(apply u_ld;rfl;rfl;(·first|exact ld_blk hV.blk rfl|exact ld_blk hlog rfl);simp only[sbe];rfl)|(apply u_rep;rfl;(·first|exact hr1|exact hr2);simp only[sbe];rfl)|(apply u_ev;(·first|exact e_ld' (e_xK4 rfl rfl rfl rfl) (e_kp rfl rfl rfl) rfl|exact e_ld' (e_xK4 rfl rfl rfl rfl) rfl (ld_blk kst_b2 rfl));simp only[sbe];rfl)|(apply u_ev;rfl;simp only[sbe];rfl)|refine u_join ?_)
 refine u_range (fun i=>[In i,.st (kst bs n (iniG i) (-1) n (fun _=>false) [])]) (fun _=>True) n (evC rfl (evC (e_xK4 rfl rfl rfl rfl) rfl)) (fun _=>rfl) trivial (fun i hi _ R hR=>?_) (fun _ R=>?_)
 ·have hli:decide ((i:Int)<(n:Int))=true:=by simp;omega
  have hi0:iniG i i=K0:=by simp[iniG]
  have hs1:=kst_sto (bs:=bs) (n:=n) (p:=i) (g:=iniG i) (ps:=-1) (out:=n) (tr:=fun _=>false) (jk:=[]) (k:=0) (x':={ K0 with low:=-10000000000000 }) hi (by omega) (d:=I (-10000000000000)) rfl (by rw[hi0];rfl)
  have hs2:=kst_sto (bs:=bs) (n:=n) (p:=i) (g:=upd (iniG i) i { K0 with low:=-10000000000000 }) (ps:=-1) (out:=n) (tr:=fun _=>false) (jk:=[]) (k:=1) (x':=K1) hi (by omega) (d:=I 10000000000000) rfl (by rw[upd_at];rfl)
  rw[upd_upd,iniG_step] at hs2
  repeat' (first|(apply nrm;simp only[sbe];rfl)|(apply u_iteT;rfl;exact hli)|(apply u_chk;rfl)|(apply u_ld;rfl;rfl;exact ld_blk kst_b2 rfl;simp only[sbe];rfl)|(apply u_eaddr;rfl;rfl;exact eaddr_sl hi;simp only[sbe];rfl)|(apply u_sto;rfl;rfl;rfl;(·first|exact hs1|exact hs2);simp only[sbe];rfl)|(apply u_inc;rfl;omega;simp only[sbe];rfl)|(apply u_ev;(·exact e_ld' rfl (e_kp rfl rfl rfl) rfl);simp only[sbe];rfl)|(apply u_ev;rfl;simp only[sbe];rfl)|refine u_join ?_|(apply u_jump;rfl;rfl)|refine at_jump ?_|refine kj rfl ?_)
  exact hR trivial
 ·have hli:decide ((n:Int)<(n:Int))=false:=by simp
  repeat' (first|(apply nrm;simp only[sbe];rfl)|(apply u_iteF;rfl;exact hli)|(apply u_ev;rfl;simp only[sbe];rfl)|(apply u_call;rfl;rfl;exact c69 _ _;rfl;simp only[sbe];rfl)|refine u_join ?_|(apply u_jump;rfl;rfl)|refine at_jump ?_|(refine over_jump (by decide) ?_)|refine kj rfl ?_)
  have hini:kst bs n (iniG n) (-1) n (fun _=>false) []=kF bs n ss []:=kst_congr (fun q hq=>by simp[iniG,hq,gR,K1,low0,high0]) (fun q _=>by simp[trustB])
  have hmap:=idxC_map W t car
  have hcl:(ofCar W t car).length=(idxC W t car).length:=by rw[←hmap];simp
  refine u_rfor2 (.tup []) (.st (kF bs n ss (ofCar W t car))) rfl (by kernel_rfl) rfl ?_ ?_ (fun cds m0 rec hyl=>?_) (by simp only[sbe];rfl) ?_
  ·repeat' (first|exact evN_nil|((apply evN_cons);(·first|exact e_kp rfl rfl rfl|exact e_fi rfl rfl rfl|exact e_fs rfl rfl rfl|exact e_fs0 rfl rfl|rfl);(·first|rfl|exact noyls_rep rfl _|(simp[noyls,D.noyl,D.cells]))))
  ·simpa[D.noyl] using kF_noyl (n:=n) (ss:=ss) (rs:=ofCar W t car) hny
  ·rw[hini]
   have hV':∀k,ViewAt (kF bs n ss ((ofCar W t car).take k)) v j W s (idxP W t):=fun k=>hV.keep fun i hi=>kst_old hi
   have h95:=c95L (m0:=m0) (rec:=rec) (cds:=cds) (car:=car) (sl:=[0,1,2,5,7,16,17,18,19,20,21,22,23,24,25,26,27,28,29,30,31,32,33,34,35,36,37,38,39,40,41,43,44,45,46,47,48,49,50,68,69,70]) (fun k=>kF bs n ss ((ofCar W t car).take k)) (fun k _=>hV' k) hWl (fun k hk=>?_)
   ·rw[List.take_zero,←hcl,List.take_length] at h95
    exact h95
   ·have hk2:k<(ofCar W t car).length:=by omega
    obtain⟨r,hrr⟩:∃r,r=(ofCar W t car)[k]:=⟨_,rfl⟩
    have hrW:rAt W (idxC W t car)[k]=r:=by
     rw[hrr]
     simp only[←hmap,List.getElem_map]
    have hrk:=hr r (by rw[hrr];exact List.getElem_mem hk2)
    rw[hrW]
    have htk:(ofCar W t car).take (k+1)=(ofCar W t car).take k++[r]:=by rw[List.take_succ_eq_append_getElem hk2,hrr]
    obtain⟨rs',hrs⟩:∃rs',rs'=(ofCar W t car).take k:=⟨_,rfl⟩
    have hVk:=hV' k
    rw[htk,←hrs]
    rw[←hrs] at hVk
    obtain⟨g,cs,hg1,hg2,hg3⟩:=change (bs:=bs) (rs:=rs') F hrk
    refine hyl _ _ _ (by simpa[D.noyl] using kF_noyl hny) (by simp[noyls,D.noyl,rep_noyl]) rfl ?_
    have hLk:LogAt (kF bs n ss rs') j m f ss kv:=hA.keep fun i hi=>kst_old hi
    have hkl:bs.length+3≤(kF bs n ss rs').length:=by unfold kF;rw[kst_len];omega
    obtain⟨X1,hX1⟩:∃X1,X1=kF bs n ss rs'++[.blk 45 7 r.cs]:=⟨_,rfl⟩
    obtain⟨X2,hX2⟩:∃X2,X2=X1++[.blk 76 2 (srcOf ss r).cs]:=⟨_,rfl⟩
    have hlow1:∀i,i<(kF bs n ss rs').length→X1[i]? = (kF bs n ss rs')[i]?:=fun i hi=>by rw[hX1,List.getElem?_append_left hi]
    have hlow2:∀i,i<(kF bs n ss rs').length→X2[i]? = (kF bs n ss rs')[i]?:=fun i hi=>by rw[hX2,List.getElem?_append_left (by rw[hX1];simp;omega),hlow1 i hi]
    have hV1:=hVk.keep hlow1
    have hV2:=hVk.keep hlow2
    have hL1:=hLk.keep hlow1
    have hL2:=hLk.keep hlow2
    have hr1':X1[(kF bs n ss rs').length]? = some (.blk 45 7 r.cs):=by rw[hX1];simp
    have hr2':X2[(kF bs n ss rs').length]? = some (.blk 45 7 r.cs):=by rw[hX2,List.getElem?_append_left (by rw[hX1];simp),hr1']
    have hsr:X2[X1.length]? = some (.blk 76 2 (srcOf ss r).cs):=by rw[hX2];simp
    have hes:=ea_src hrk.src
    have hrl:D.ld true 7 (.st X2) (.loc (kF bs n ss rs').length 0)=some (.agg ((r.cs.drop 0).take 7)):=ldN_blk hr2' (by simp[Rep.cs])
    have hss:D.same (.agg (List.take 2 (srcOf ss r).cs)) (.agg (List.take 2 (srcOf ss r).cs))=true:=by simp[Src.cs,D.same,D.sames,Value.same]
    have w1:D.ld false 1 (.st X1) (.loc v 0)=some (.loc j 0):=ld_blk hV1.blk rfl
    have w2:∀x,D.ld false 1 (.st (X1++[x])) (.loc v 0)=some (.loc j 0):=fun x=>ld_blk (by rw[List.getElem?_append_left (List.getElem?_eq_some_iff.1 hV1.blk).1];exact hV1.blk) rfl
    have w3:D.ld false 1 (.st X1) (.loc j 3)=some (.lst (ss.map Src.d)):=ld_blk hL1.blk rfl
    have w4:∀x,D.ld false 1 (.st (X1++[x])) (.loc j 3)=some (.lst (ss.map Src.d)):=fun x=>ld_blk (by rw[List.getElem?_append_left (List.getElem?_eq_some_iff.1 hL1.blk).1];exact hL1.blk) rfl
    have w5:D.ld false 1 (.st X1) (.loc (kF bs n ss rs').length 0)=some (I r.source):=ld_blk hr1' rfl
    have w6:∀x,D.ld false 1 (.st (X1++[x])) (.loc (kF bs n ss rs').length 0)=some (I r.source):=fun x=>ld_blk (by rw[List.getElem?_append_left (List.getElem?_eq_some_iff.1 hr1').1];exact hr1') rfl
    subst hX2 hX1
    repeat' (first|(apply nrm;simp only[sbe];rfl)|(apply u_gen0;rfl;rfl;rfl;(·exact⟨hg2,hg3⟩);rfl;simp only[sbe];rfl)|(apply u_chk;rfl)|(apply u_same;(·first|exact e_ld' rfl rfl rfl|exact e_ld' rfl rfl w1|exact e_ld' rfl rfl w3|exact e_ld' rfl rfl w5);(·first|exact e_ld' rfl rfl rfl|exact e_ld' rfl rfl (w2 _)|exact e_ld' rfl rfl (w4 _)|exact e_ld' rfl rfl (w6 _));(·first|(simp[D.same,Value.same];done)|exact hss|exact same_srcs ss);simp only[sbe];rfl)|(apply u_ld;rfl;rfl;(·first|exact ld_blk hV1.blk rfl|exact ld_blk hL1.blk rfl|exact ld_blk hr1' rfl|exact ld_blk hr2' rfl|exact ld_blk hsr rfl|exact hrl);simp only[sbe];rfl)|(apply u_eaddr;rfl;rfl;exact hes;simp only[sbe];rfl)|(apply u_sto;rfl;rfl;rfl;exact sto_all rfl rfl rfl;simp only[sbe];rfl)|(apply u_m4;rfl;rfl;rfl;rfl;exact hg1;simp only[sbe];rfl)|(apply u_ev;(·exact e_ld' rfl (e_kp rfl rfl rfl) rfl);simp only[sbe];rfl)|(apply u_ev;rfl;simp only[sbe];rfl)|refine u_join ?_|(apply u_jump;rfl;rfl)|refine at_jump ?_|refine kj rfl ?_)
    rfl
  ·obtain⟨rs,hrs⟩:∃rs,rs=ofCar W t car:=⟨_,rfl⟩
   rw[←hrs]
   rw[←hrs] at hr hcl
   rw[show kF bs n ss rs=kst bs n (gR ss rs) (psR rs) (outAt n rs) (trustB ss rs) (kj2 ss rs) from rfl,loG_zero (least:=f.least)]
   have hlk:∀g,(kst bs n g (psR rs) (outAt n rs) (trustB ss rs) (kj2 ss rs))[j]? = some (.blk 80 5 [I f.cars,I n,Is f.least,.lst (ss.map Src.d),.mp m]):=fun g=>by rw[kst_old hjl];exact hlog
   have hvk:∀g,(kst bs n g (psR rs) (outAt n rs) (trustB ss rs) (kj2 ss rs))[v]? = some (.blk 121 3 [.loc j 0,.lst (W.map Rep.d),s]):=fun g=>by rw[kst_old hvl];exact hV.blk
   have hea:∀{i:Nat},i<n-1→D.eaddr 1 (Is f.least) (In i)=some (.ptr [I (f.least.getD i 0)]):=fun {i} hi=>by
    have hl:i<f.least.length:=by rw[F.len];exact hi
    have hg:f.least[i]? = some (f.least.getD i 0):=by simp[hl]
    exact eaddr_lst (enc:=I) hg rfl
   repeat' (first|(apply nrm;simp only[sbe];rfl)|(apply u_chk;rfl)|(apply u_ld;rfl;rfl;exact ld_blk kst_b2 rfl;simp only[sbe];rfl)|(apply u_ev;(·exact e_ld' rfl (e_kp rfl rfl rfl) rfl);simp only[sbe];rfl)|refine u_join ?_|(apply u_jump;rfl;rfl)|refine at_jump ?_|refine kj rfl ?_)
   refine u_range (fun i=>[In (i+1),.st (kst bs n (loG ss f.least rs i) (psR rs) (outAt n rs) (trustB ss rs) (kj2 ss rs))]) (fun _=>True) (n-1) rfl (fun _=>rfl) trivial (fun i hi _ R hR=>?_) (fun _ R=>?_)
   ·have hli:decide (((i+1:Nat):Int)<(n:Int))=true:=by simp;omega
    have b1:=lowF_bd F hr (p:=i) (by omega)
    have b2:=least_bd F i
    have hla:D.ld false 1 (.st (kst bs n (loG ss f.least rs i) (psR rs) (outAt n rs) (trustB ss rs) (kj2 ss rs))) (.loc bs.length ((i+1)*6+0))=some (I (low0 ss rs (i+1))):=kst_ld (by omega) (by simp[loG,Kn.cs,show¬i+1≤i by omega])
    have hlb:D.ld false 1 (.st (kst bs n (loG ss f.least rs i) (psR rs) (outAt n rs) (trustB ss rs) (kj2 ss rs))) (.loc bs.length (i*6+0))=some (I (lowF f.least (low0 ss rs) i)):=kst_ld (by omega) (by simp[loG,Kn.cs])
    have hs:=kst_sto (bs:=bs) (n:=n) (p:=i+1) (g:=loG ss f.least rs i) (ps:=psR rs) (out:=outAt n rs) (tr:=trustB ss rs) (jk:=kj2 ss rs) (k:=0) (x':=⟨lowF f.least (low0 ss rs) (i+1),high0 ss rs (i+1),false,false,false,false⟩) (by omega) (by omega) (d:=I (lowF f.least (low0 ss rs) (i+1))) rfl (by simp[loG,Kn.cs,show¬i+1≤i by omega])
    rw[loG_step] at hs
    have hmm:D.mm true (I (low0 ss rs (i+1))) (I (lowF f.least (low0 ss rs) i+f.least.getD i 0))=some (I (lowF f.least (low0 ss rs) (i+1))):=mm_max _ _
    have he1:D.eaddr 6 (.sl bs.length 0 n) (In (i+1))=some (.loc bs.length ((i+1)*6)):=eaddr_sl (by omega)
    have he2:D.eaddr 6 (.sl bs.length 0 n) (In i)=some (.loc bs.length (i*6)):=eaddr_sl (by omega)
    have hei:=hea hi
    repeat' (first|(apply nrm;simp only[sbe];rfl)|(apply u_iteT;rfl;exact hli)|(apply u_chk;rfl)|(apply u_ld;rfl;rfl;(·first|exact ld_blk (hvk _) rfl|exact ld_blk (hlk _) rfl|exact hla|exact hlb);simp only[sbe];rfl)|(apply u_eaddr;rfl;rfl;(·first|exact he1|exact he2|exact hei);simp only[sbe];rfl)|(apply u_sto;rfl;rfl;rfl;exact hs;simp only[sbe];rfl)|(apply u_mm;rfl;rfl;exact hmm;simp only[sbe];rfl)|(apply u_inc;rfl;omega;simp only[sbe];rfl)|(apply u_pred;rfl;omega;simp only[sbe];rfl)|(apply u_add;rfl;rfl;omega;simp only[sbe];rfl)|(apply u_ev;rfl;simp only[sbe];rfl)|refine u_join ?_|(apply u_jump;rfl;rfl)|refine at_jump ?_|refine kj rfl ?_)
    exact hR trivial
   ·have hli:decide (((n-1+1:Nat):Int)<(n:Int))=false:=by simp;omega
    rw[kst_congr (fun q hq=>hiG_zero (ss:=ss) (least:=f.least) (rs:=rs) hq) (fun _ _=>rfl)]
    repeat' (first|(apply nrm;simp only[sbe];rfl)|(apply u_iteF;rfl;exact hli)|(apply u_chk;rfl)|(apply u_ld;rfl;rfl;(·first|exact ld_blk (hvk _) rfl|exact ld_blk (hlk _) rfl);simp only[sbe];rfl)|(apply u_sub;rfl;rfl;omega;simp only[sbe];rfl)|(apply u_ev;rfl;simp only[sbe];rfl)|refine u_join ?_|(apply u_jump;rfl;rfl)|refine at_jump ?_|(refine over_jump (by decide) ?_)|refine kj rfl ?_)
    refine u_range (fun d=>[I ((n:Int)-2-d),.st (kst bs n (hiG ss f.least n rs d) (psR rs) (outAt n rs) (trustB ss rs) (kj2 ss rs))]) (fun _=>True) (n-1) (by simp[evalAll,E.eval]) (fun _=>rfl) trivial (fun d hd _ R hR=>?_) (fun _ R=>?_)
    ·obtain⟨i,hi⟩:∃i,i=n-1-(d+1):=⟨_,rfl⟩
     have e1:(n:Int)-2-(d:Int)=(i:Int):=by omega
     have e2:(n:Int)-2-((d+1:Nat):Int)=(i:Int)-1:=by omega
     simp only[e2] at hR
     simp only[e1]
     have hin:i+1<n:=by omega
     have hli:decide ((i:Int)≥0)=true:=by simp
     have b1:=highF_bd F hr (d:=d) (by omega)
     have b2:=least_bd F i
     have hla:D.ld false 1 (.st (kst bs n (hiG ss f.least n rs d) (psR rs) (outAt n rs) (trustB ss rs) (kj2 ss rs))) (.loc bs.length (i*6+1))=some (I (high0 ss rs i)):=kst_ld (by omega) (by simp[hiG,Kn.cs];omega)
     have hlb:D.ld false 1 (.st (kst bs n (hiG ss f.least n rs d) (psR rs) (outAt n rs) (trustB ss rs) (kj2 ss rs))) (.loc bs.length ((i+1)*6+1))=some (I (highF f.least (high0 ss rs) (n-1) d)):=kst_ld (by omega) (by
      have:n-1-(i+1)=d:=by omega
      simp[hiG,Kn.cs,this])
     have hs:=kst_sto (bs:=bs) (n:=n) (p:=i) (g:=hiG ss f.least n rs d) (ps:=psR rs) (out:=outAt n rs) (tr:=trustB ss rs) (jk:=kj2 ss rs) (k:=1) (x':=⟨lowF f.least (low0 ss rs) i,highF f.least (high0 ss rs) (n-1) (d+1),false,false,false,false⟩) (by omega) (by omega) (d:=I (highF f.least (high0 ss rs) (n-1) (d+1))) rfl (by simp[hiG,Kn.cs])
     rw[kst_congr (fun q hq=>hiG_step (ss:=ss) (least:=f.least) (rs:=rs) hd hin hi hq) (fun _ _=>rfl)] at hs
     have hmm:D.mm false (I (high0 ss rs i)) (I (highF f.least (high0 ss rs) (n-1) d-f.least.getD i 0))=some (I (highF f.least (high0 ss rs) (n-1) (d+1))):=by
      rw[hi]
      exact mm_min _ _
     have he1:D.eaddr 6 (.sl bs.length 0 n) (In (i+1))=some (.loc bs.length ((i+1)*6)):=eaddr_sl (by omega)
     have he2:D.eaddr 6 (.sl bs.length 0 n) (In i)=some (.loc bs.length (i*6)):=eaddr_sl (by omega)
     have hei:=hea (i:=i) (by omega)
     repeat' (first|(apply nrm;simp only[sbe];rfl)|(apply u_iteT;rfl;exact hli)|(apply u_chk;rfl)|(apply u_ld;rfl;rfl;(·first|exact ld_blk (hvk _) rfl|exact ld_blk (hlk _) rfl|exact hla|exact hlb);simp only[sbe];rfl)|(apply u_eaddr;rfl;rfl;(·first|exact he1|exact he2|exact hei);simp only[sbe];rfl)|(apply u_sto;rfl;rfl;rfl;exact hs;simp only[sbe];rfl)|(apply u_mm;rfl;rfl;exact hmm;simp only[sbe];rfl)|(apply u_inc;rfl;omega;simp only[sbe];rfl)|(apply u_sub;rfl;rfl;omega;simp only[sbe];rfl)|(apply u_ev;rfl;simp only[sbe];rfl)|refine u_join ?_|(apply u_jump;rfl;rfl)|refine at_jump ?_|refine kj rfl ?_)
     exact hR trivial
    ·have hli:decide ((n:Int)-2-((n-1:Nat):Int)≥0)=false:=by simp;omega
     rw[kst_congr (g:=hiG ss f.least n rs (n-1)) (g':=fiG ss f.least n rs 0) (fun q hq=>by simp[fiG]) (fun _ _=>rfl)]
     repeat' (first|(apply nrm;simp only[sbe];rfl)|(apply u_iteF;rfl;exact hli)|(apply u_ev;rfl;simp only[sbe];rfl)|refine u_join ?_|(apply u_jump;rfl;rfl)|refine at_jump ?_|(refine over_jump (by decide) ?_)|refine kj rfl ?_)
     refine u_range (fun i=>[In i,.st (kst bs n (fiG ss f.least n rs i) (psR rs) (outAt n rs) (trustB ss rs) (kj2 ss rs))]) (fun _=>True) n rfl (fun _=>rfl) trivial (fun i hi _ R hR=>?_) (fun _ R=>?_)
     ·have hli:decide ((i:Int)<(n:Int))=true:=by simp;omega
      have hx0:=fiG_at (ss:=ss) (least:=f.least) (n:=n) (rs:=rs) i
      have hkn:=kn_eq (ss:=ss) (least:=f.least) (n:=n) (rs:=rs) i
      obtain⟨lo,hlo⟩:∃lo,lo=lowF f.least (low0 ss rs) i:=⟨_,rfl⟩
      obtain⟨hg,hhg⟩:∃hg,hg=highF f.least (high0 ss rs) (n-1) (n-1-i):=⟨_,rfl⟩
      obtain⟨PS,hPS⟩:∃PS,PS=psR rs:=⟨_,rfl⟩
      obtain⟨OUT,hOUT⟩:∃OUT,OUT=outAt n rs:=⟨_,rfl⟩
      obtain⟨TR,hTR⟩:∃TR,TR=trustB ss rs:=⟨_,rfl⟩
      have hst:=fiG_step (ss:=ss) (least:=f.least) (n:=n) (rs:=rs) i
      rw[←hlo,←hhg] at hx0 hkn
      simp only[←hPS,←hOUT,←hTR] at hR hkn ⊢
      have hs1:=kst_sto (bs:=bs) (n:=n) (p:=i) (g:=fiG ss f.least n rs i) (ps:=PS) (out:=OUT) (tr:=TR) (jk:=kj2 ss rs) (k:=2) (x':=⟨lo,hg,decide ((i:Int)≤PS),false,false,false⟩) hi (by omega) (d:=B (decide ((i:Int)≤PS))) rfl (by rw[hx0];rfl)
      have hs2:=kst_sto (bs:=bs) (n:=n) (p:=i) (g:=upd (fiG ss f.least n rs i) i ⟨lo,hg,decide ((i:Int)≤PS),false,false,false⟩) (ps:=PS) (out:=OUT) (tr:=TR) (jk:=kj2 ss rs) (k:=3) (x':=⟨lo,hg,decide ((i:Int)≤PS),(i:Int)==OUT,false,false⟩) hi (by omega) (d:=B ((i:Int)==OUT)) rfl (by rw[upd_at];rfl)
      rw[upd_upd] at hs2
      have hs3:=kst_sto (bs:=bs) (n:=n) (p:=i) (g:=upd (fiG ss f.least n rs i) i ⟨lo,hg,decide ((i:Int)≤PS),(i:Int)==OUT,false,false⟩) (ps:=PS) (out:=OUT) (tr:=TR) (jk:=kj2 ss rs) (k:=5) (x':=⟨lo,hg,decide ((i:Int)≤PS),(i:Int)==OUT,false,decide (lo > hg)||(decide ((i:Int)≤PS)&&decide (OUT<(i:Int)))⟩) hi (by omega) (d:=B (decide (lo > hg)||(decide ((i:Int)≤PS)&&decide (OUT<(i:Int))))) rfl (by rw[upd_at];rfl)
      rw[upd_upd] at hs3
      have hs4:=kst_sto (bs:=bs) (n:=n) (p:=i) (g:=upd (fiG ss f.least n rs i) i ⟨lo,hg,decide ((i:Int)≤PS),(i:Int)==OUT,false,decide (lo > hg)||(decide ((i:Int)≤PS)&&decide (OUT<(i:Int)))⟩) (ps:=PS) (out:=OUT) (tr:=TR) (jk:=kj2 ss rs) (k:=4) (x':=knAt ss f.least n rs i) hi (by omega) (d:=B ((decide ((i:Int)≤PS)&&!TR i)||(decide (lo > hg)||(decide ((i:Int)≤PS)&&decide (OUT<(i:Int)))))) rfl (by rw[upd_at,hkn];rfl)
      rw[upd_upd,hst] at hs4
      have hl0:D.ld false 1 (.st (kst bs n (upd (fiG ss f.least n rs i) i ⟨lo,hg,decide ((i:Int)≤PS),(i:Int)==OUT,false,false⟩) PS OUT TR (kj2 ss rs))) (.loc bs.length (i*6+0))=some (I lo):=kst_ld hi (by rw[upd_at];rfl)
      have hl1:D.ld false 1 (.st (kst bs n (upd (fiG ss f.least n rs i) i ⟨lo,hg,decide ((i:Int)≤PS),(i:Int)==OUT,false,false⟩) PS OUT TR (kj2 ss rs))) (.loc bs.length (i*6+1))=some (I hg):=kst_ld hi (by rw[upd_at];rfl)
      have hl2:D.ld false 1 (.st (kst bs n (upd (fiG ss f.least n rs i) i ⟨lo,hg,decide ((i:Int)≤PS),(i:Int)==OUT,false,false⟩) PS OUT TR (kj2 ss rs))) (.loc bs.length (i*6+2))=some (B (decide ((i:Int)≤PS))):=kst_ld hi (by rw[upd_at];rfl)
      have hl3:D.ld false 1 (.st (kst bs n (upd (fiG ss f.least n rs i) i ⟨lo,hg,decide ((i:Int)≤PS),(i:Int)==OUT,false,decide (lo > hg)||(decide ((i:Int)≤PS)&&decide (OUT<(i:Int)))⟩) PS OUT TR (kj2 ss rs))) (.loc bs.length (i*6+2))=some (B (decide ((i:Int)≤PS))):=kst_ld hi (by rw[upd_at];rfl)
      have hl4:D.ld false 1 (.st (kst bs n (upd (fiG ss f.least n rs i) i ⟨lo,hg,decide ((i:Int)≤PS),(i:Int)==OUT,false,decide (lo > hg)||(decide ((i:Int)≤PS)&&decide (OUT<(i:Int)))⟩) PS OUT TR (kj2 ss rs))) (.loc bs.length (i*6+5))=some (B (decide (lo > hg)||(decide ((i:Int)≤PS)&&decide (OUT<(i:Int))))):=kst_ld hi (by rw[upd_at];rfl)
      have he1:D.eaddr 6 (.sl bs.length 0 n) (In i)=some (.loc bs.length (i*6)):=eaddr_sl hi
      have he2:D.eaddr 1 (.sl (bs.length+1) 0 n) (In i)=some (.loc (bs.length+1) (i*1)):=eaddr_sl hi
      repeat' (first|(apply nrm;simp only[sbe];rfl)|(apply u_iteT;rfl;exact hli)|(apply u_chk;rfl)|(apply u_ld;rfl;rfl;(·first|exact ld_blk kst_b2 rfl|exact hl0|exact hl1|exact hl2|exact hl3|exact hl4|exact kst_ldT hi);simp only[sbe];rfl)|(apply u_eaddr;rfl;rfl;(·first|exact he1|exact he2);simp only[sbe];rfl)|(apply u_sto;rfl;rfl;rfl;(·first|exact hs1|exact hs2|exact hs3|exact hs4);simp only[sbe];rfl)|(apply u_inc;rfl;omega;simp only[sbe];rfl)|(apply u_ev;(·exact e_ld' rfl (e_kp rfl rfl rfl) rfl);simp only[sbe];rfl)|(apply u_ev;rfl;simp only[sbe];rfl)|(apply u_or;rfl)|(apply u_and;rfl)|refine u_join ?_|(apply u_jump;rfl;rfl)|refine at_jump ?_|refine kj rfl ?_|exact u_ret rfl rfl|(intro hz;(try simp only[sbs] at hz)))
      exact hR trivial
     ·have hli:decide ((n:Int)<(n:Int))=false:=by simp
      repeat' (first|(apply nrm;simp only[sbe];rfl)|(apply u_iteF;rfl;exact hli)|(apply u_ev;rfl;simp only[sbe];rfl)|(apply u_jump;rfl;rfl)|refine at_jump ?_|(refine over_jump (by decide) ?_)|refine kj rfl ?_)
      refine u_ret rfl ⟨_,rfl,?_,fun i hi=>kst_old hi,fun p hp=>?_⟩
      ·rw[kst_len,←hcl,kj2_len]
      ·rw[List.mem_singleton] at hp
       subst hp
       rw[kst_b0]
       have:(List.range n).map (fiG ss f.least n rs n)=knR ss f.least n rs:=List.map_congr_left fun q hq=>by
        have:q<n:=by simpa using hq
        simp[fiG,this]
       rw[this]

end Go.Am.Wr
