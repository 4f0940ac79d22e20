/-
 Stable sorting of lists of numbers that grow: plain facts.
-/

set_option linter.unusedSimpArgs false
set_option linter.unusedVariables false
namespace Go.Am.Srt

def lt (c:Int→Int→Int)(x y:Int):Prop:=c x y<0∨(c x y=0∧x<y)

instance (c:Int→Int→Int) (x y:Int):Decidable (lt c x y):=by unfold lt;infer_instance

structure Ord (c:Int→Int→Int)(dom:Int→Prop):Prop where
 anti:∀x y,dom x→dom y→(c x y<0↔0<c y x)
 trans:∀x y z,dom x→dom y→dom z→c x y≤0→c y z≤0→c x z≤0

section
variable {c:Int→Int→Int} {dom:Int→Prop}

theorem Ord.lt_trans (h:Ord c dom){x y z:Int}(hx:dom x)(hy:dom y)(hz:dom z)(h1:lt c x y)(h2:lt c y z):lt c x z:=by
 unfold lt at *
 have a1:=h.anti x y hx hy
 have a2:=h.anti y z hy hz
 have a3:=h.anti x z hx hz
 have b1:=h.anti y x hy hx
 have b2:=h.anti z y hz hy
 have b3:=h.anti z x hz hx
 have t1:=h.trans x y z hx hy hz (by omega) (by omega)
 have t2:=h.trans z x y hz hx hy
 have t3:=h.trans y z x hy hz hx
 omega

theorem Ord.lt_asymm (h:Ord c dom){x y:Int}(hx:dom x)(hy:dom y)(h1:lt c x y)(h2:lt c y x):False:=by
 unfold lt at *
 have a1:=h.anti x y hx hy
 have b1:=h.anti y x hy hx
 omega

theorem Ord.lt_total (h:Ord c dom){x y:Int}(hx:dom x)(hy:dom y)(hne:x≠y):lt c x y∨lt c y x:=by
 unfold lt at *
 have a1:=h.anti x y hx hy
 have b1:=h.anti y x hy hx
 omega

theorem Ord.lt_iff (h:Ord c dom){x y:Int}(hx:dom x)(hy:dom y)(hlt:y<x):lt c x y↔c x y<0:=by
 unfold lt
 omega

theorem Ord.lt_iff' (h:Ord c dom){x y:Int}(hx:dom x)(hy:dom y)(hlt:y<x):lt c y x↔¬c x y<0:=by
 unfold lt
 have a1:=h.anti x y hx hy
 have b1:=h.anti y x hy hx
 omega

theorem perm_unique (h:Ord c dom):∀{l1 l2:List Int},(∀x,x∈l1→dom x)→l1.Perm l2→l1.Pairwise (lt c)→l2.Pairwise (lt c)→l1=l2
 | [],l2,_,hp,_,_=>(List.nil_perm.1 hp).symm
 | a :: l1,[],_,hp,_,_=>by simp at hp
 | a :: l1,b :: l2,hd,hp,h1,h2=>by
  rw[List.pairwise_cons] at h1 h2
  have ha:a∈b :: l2:=hp.mem_iff.1 (by simp)
  have hb:b∈a :: l1:=hp.mem_iff.2 (by simp)
  have e:a=b:=by
   rcases List.mem_cons.1 ha with e | ha
   ·exact e
   ·rcases List.mem_cons.1 hb with e | hb
    ·exact e.symm
    ·exact(h.lt_asymm (hd a (by simp)) (hd b (by simp[hb])) (h1.1 b hb) (h2.1 a ha)).elim
  subst e
  rw[perm_unique h (fun x hx=>hd x (by simp[hx])) ((List.perm_cons a).1 hp) h1.2 h2.2]

def ins (c:Int→Int→Int)(x:Int):List Int→List Int
 | []=>[x]
 | y :: r=>if lt c x y then x :: y :: r else y :: ins c x r

def so (c:Int→Int→Int):List Int→List Int
 | []=>[]
 | x :: l=>ins c x (so c l)

theorem ins_perm (x:Int):∀l:List Int,(ins c x l).Perm (x :: l)
 | []=>.refl _
 | y :: r=>by
  unfold ins
  split
  ·exact .refl _
  ·exact((ins_perm x r).cons y).trans (.swap x y r)

theorem so_perm:∀l:List Int,(so c l).Perm l
 | []=>.refl _
 | x :: l=>(ins_perm x _).trans ((so_perm l).cons x)

theorem so_len (l:List Int):(so c l).length=l.length:=(so_perm l).length_eq
theorem so_mem {l:List Int}{x:Int}:x∈so c l↔x∈l:=(so_perm l).mem_iff

theorem ins_sorted (h:Ord c dom){x:Int}(hx:dom x):∀{l:List Int},(∀y,y∈l→dom y∧x≠y)→l.Pairwise (lt c)→(ins c x l).Pairwise (lt c)
 | [],_,_=>by simp[ins]
 | y :: r,hd,hp=>by
  have hy:=hd y (by simp)
  unfold ins
  split
  ·rename_i hlt
   rw[List.pairwise_cons]
   refine⟨fun z hz=>?_,hp⟩
   rcases List.mem_cons.1 hz with rfl | hz
   ·exact hlt
   ·exact h.lt_trans hx hy.1 (hd z (by simp[hz])).1 hlt ((List.pairwise_cons.1 hp).1 z hz)
  ·rename_i hlt
   rw[List.pairwise_cons] at hp ⊢
   refine⟨fun z hz=>?_,ins_sorted h hx (fun z hz=>hd z (by simp[hz])) hp.2⟩
   rcases List.mem_cons.1 ((ins_perm x r).mem_iff.1 hz) with rfl | hz
   ·exact(h.lt_total hx hy.1 hy.2).resolve_left hlt
   ·exact hp.1 z hz

theorem so_sorted (h:Ord c dom):∀{l:List Int},(∀x,x∈l→dom x)→l.Nodup→(so c l).Pairwise (lt c)
 | [],_,_=>by simp[so]
 | x :: l,hd,hn=>by
  rw[List.nodup_cons] at hn
  refine ins_sorted h (hd x (by simp)) (fun y hy=>?_) (so_sorted h (fun y hy=>hd y (by simp[hy])) hn.2)
  have:=so_mem.1 hy
  exact⟨hd y (by simp[this]),fun e=>hn.1 (e ▸ this)⟩

theorem eq_so (h:Ord c dom){l r:List Int}(hd:∀x,x∈l→dom x)(hn:l.Nodup)(hp:r.Perm l)(hs:r.Pairwise (lt c)):r=so c l:=
 perm_unique h (fun x hx=>hd x (hp.mem_iff.1 hx)) (hp.trans (so_perm l).symm) hs (so_sorted h hd hn)

theorem so_congr (h:Ord c dom){l r:List Int}(hd:∀x,x∈l→dom x)(hn:l.Nodup)(hp:r.Perm l):so c r=so c l:=
 eq_so h hd hn ((so_perm r).trans hp) (so_sorted h (fun x hx=>hd x (hp.mem_iff.1 hx)) (hp.nodup_iff.2 hn))

theorem grow_nodup {l:List Int}(h:l.Pairwise (·< ·)):l.Nodup:=h.imp fun {a b} (hab:a<b) e=>by omega

def blk (c:Int→Int→Int)(k:Nat)(l:List Int):List Int:=
 if h:0<k∧k<l.length then so c (l.take k)++blk c k (l.drop k) else so c l
termination_by l.length
decreasing_by simp;omega

theorem blk_le {k:Nat}{l:List Int}(h:l.length≤k):blk c k l=so c l:=by
 rw[blk,dif_neg (by omega)]

theorem blk_cons {k:Nat}{l:List Int}(h0:0<k)(h:k<l.length):blk c k l=so c (l.take k)++blk c k (l.drop k):=by
 rw[blk,dif_pos ⟨h0,h⟩]

theorem so_nil:so c []=[]:=rfl

theorem blk_cons' {k:Nat}{l:List Int}(h0:0<k)(h:k≤l.length):blk c k l=so c (l.take k)++blk c k (l.drop k):=by
 rcases Nat.lt_or_ge k l.length with h1 | h1
 ·exact blk_cons h0 h1
 ·have e:k=l.length:=by omega
  subst e
  rw[blk_le (Nat.le_refl _),List.take_length,List.drop_length,blk_le (by simp),so_nil,List.append_nil]

theorem blk_len {k:Nat}:∀l:List Int,(blk c k l).length=l.length:=by
 intro l
 induction h:l.length using Nat.strongRecOn generalizing l with
 | ind n ih=>
  by_cases hk:0<k∧k<l.length
  ·rw[blk_cons hk.1 hk.2,List.length_append,so_len,ih (l.drop k).length (by simp;omega) _ rfl]
   simp
   omega
  ·rw[blk,dif_neg hk,so_len,h]

end
end Go.Am.Srt
