/-
 A store of which only some new blocks are told.
-/
import Derived.Test.YtgebemgmpfpjbaaAmWk
import Derived.Test.YtgebemgmpfpjbaaAmKilltoAmGen
set_option linter.unusedSimpArgs false
set_option linter.unusedVariables false
namespace Go.Am

theorem noyls_app:∀{a b:List D},noyls (a++b)=(noyls a&&noyls b)
 | [],b=>by simp[noyls]
 | x :: a,b=>by simp[noyls,noyls_app (a:=a),Bool.and_assoc]

theorem noyls_all:∀{ds:List D},(∀d,d∈ds→d.noyl=true)→noyls ds=true
 | [],_=>rfl
 | x :: r,h=>by simp[noyls,h x (by simp),noyls_all (ds:=r) fun d hd=>h d (by simp[hd])]

theorem noyls_map {α:Type}{f:α→D}{xs:List α}(h:∀x,x∈xs→(f x).noyl=true):noyls (xs.map f)=true:=noyls_all fun d hd=>by
 obtain⟨x,hx,rfl⟩:=List.mem_map.1 hd
 exact h x hx

theorem noyls_flat {α:Type}{f:α→List D}{xs:List α}(h:∀x,x∈xs→noyls (f x)=true):noyls (xs.flatMap f)=true:=by
 induction xs with
 | nil=>simp[noyls]
 | cons x r ih=>rw[List.flatMap_cons,noyls_app,h x (by simp),ih fun y hy=>h y (by simp[hy])];rfl

def keepSt (bs:List D)(N:Nat)(ks:List (Nat×D)):List D:=
 (List.range N).map fun i=>if i<bs.length then bs.getD i (.tup []) else((ks.find? fun p=>p.1==i).map (·.2)).getD (.tup [])

variable {bs:List D} {N:Nat} {ks:List (Nat×D)}

theorem keep_len:(keepSt bs N ks).length=N:=by simp[keepSt]

theorem keep_old {i:Nat}(h:i<bs.length)(hN:bs.length≤N):(keepSt bs N ks)[i]? = bs[i]?:=by
 simp[keepSt,h,show i<N by omega]

theorem keep_new {i:Nat}{x:D}(h:bs.length≤i)(hN:i<N)(hk:ks.find? (fun p=>p.1==i)=some (i,x)):(keepSt bs N ks)[i]? = some x:=by
 simp[keepSt,show¬i<bs.length by omega,hN,hk]

theorem keep_wk {bs1:List D}(h1:bs1.length=N)(h2:∀i,i<bs.length→bs1[i]? = bs[i]?)(h3:∀p,p∈ks→bs1[p.1]? = some p.2):Wk bs1 (keepSt bs N ks):=by
 refine⟨by rw[keep_len,h1],fun i x hi hx=>?_⟩
 simp only[keepSt,List.getElem?_map] at hi
 cases hr:(List.range N)[i]? with
 | none=>rw[hr] at hi;cases hi
 | some k=>
  obtain⟨hk,rfl⟩:i<N∧k=i:=by
   obtain⟨h4,h5⟩:=List.getElem?_eq_some_iff.1 hr
   simp at h4 h5
   exact⟨h4,h5.symm⟩
  rw[hr] at hi
  simp only[Option.map_some,Option.some.injEq] at hi
  split at hi
  ·rename_i hb
   rw[h2 _ hb,List.getElem?_eq_getElem hb]
   rw[List.getD_eq_getElem?_getD,List.getElem?_eq_getElem hb] at hi
   simpa using hi
  ·cases hf:ks.find? (fun p=>p.1==k) with
   | none=>rw[hf] at hi;simp at hi;subst hi;cases hx
   | some p=>
    rw[hf] at hi
    simp only[Option.map_some,Option.getD_some] at hi
    have hp:=List.find?_some hf
    simp at hp
    have:=h3 p (List.mem_of_find?_eq_some hf)
    rw[hp,hi] at this
    exact this

theorem keep_noyl (h:noyls bs=true)(hk:∀p,p∈ks→p.2.noyl=true):noyls (keepSt bs N ks)=true:=by
 refine noyls_all fun d hd=>?_
 simp only[keepSt,List.mem_map] at hd
 obtain⟨i,_,rfl⟩:=hd
 split
 ·rename_i hi
  rw[List.getD_eq_getElem?_getD,List.getElem?_eq_getElem hi]
  exact noyls_get h (List.getElem?_eq_getElem hi)
 ·cases hf:ks.find? (fun p=>p.1==i) with
  | none=>rfl
  | some p=>exact hk p (List.mem_of_find?_eq_some hf)

theorem UOk.keep {P:Program} {f:FuncId} {cf:StCfg} {ones:List Bool} {u:U} {ds bs:List D} {d:D} (h:UOk P f .plain cf ones u) (hfit:argsFit ones ds=true) (N:Nat) (ks:List (Nat×D))
  (hden:denU P u (ds++[.st bs]) (fun s=>∃bs1,s=.ret (.tup [d,.st bs1])∧bs1.length=N∧(∀i,i<bs.length→bs1[i]? = bs[i]?)∧∀p,p∈ks→bs1[p.1]? = some p.2)):FSpecW P f (.st bs) ds d (.st (keepSt bs N ks)):=
 h.Wk hfit (denU_mono (fun s ⟨bs1,e,h1,h2,h3⟩=>⟨bs1,e,keep_wk h1 h2 h3⟩) hden)

end Go.Am
