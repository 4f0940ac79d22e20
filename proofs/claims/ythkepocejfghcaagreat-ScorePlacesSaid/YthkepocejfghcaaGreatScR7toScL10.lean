/-
  Several texts, one behind the other.
-/
import Derived.Test.YthkepocejfghcaaGreatScT3toScR6
import Derived.Test.YthkepocejfghcaaGreatScShelfFtoScM5
import Derived.Test.YthkepocejfghcaaGreatAmSort6
set_option linter.unusedSimpArgs false
set_option linter.unusedVariables false
namespace Go.Am.Sc
section
open Go.Proofs Go.RowKit
set_option maxRecDepth 100000
set_option maxHeartbeats 4000000

attribute [local irreducible] gR fV dQ

variable {bs:List D} {p:aL} {c:aS} {l:List aS}

/-! ## the comparison,in the store -/

def Kh (p:aL)(l:List aS):List D:=(List.range l.length).map (Dt p l)

section
variable {s:List D}

theorem Cx {b:Nat}{e:TypeId}{x y:D}{n:Nat}(h:s[b]? = some (.blk e 1 [x]))(hm:bD s n x=some y):bD s (n+1) (.loc b 0)=some (.ptr [y]):=by
 rw[bD]
 simp only[h,List.drop_zero,dK,hm,Option.bind_some,Option.map_some]

theorem Rt (h1:s[1]? = some (.blk TB 1 ((uu p l).map I)))(h4:s[4]? = some (.blk TB 1 [.sl 1 0 l.length])):bD s 7 (.loc 4 0)=some (.ptr [Is (uu p l)]):=by
 have h:=Qdk (n:=4) h1
 rw[show(uu p l).length=l.length by simp[uu]] at h
 exact Cx h4 h
theorem Rs (h2:s[2]? = some (.blk TB 1 ((uq p l).map I)))(h5:s[5]? = some (.blk TB 1 [.sl 2 0 l.length])):bD s 7 (.loc 5 0)=some (.ptr [Is (uq p l)]):=by
 have h:=Qdk (n:=4) h2
 rw[show(uq p l).length=l.length by simp[uq]] at h
 exact Cx h5 h
theorem Ru (h3:s[3]? = some (.blk TB 1 (Kh p l)))(h6:s[6]? = some (.blk TB 1 [.sl 3 0 l.length]))(hr:∀j,j<l.length→gl p l j=true→iT p l j≠[]→s[7+Re p l j]? = some (.blk 3 1 ((iT p l j).map I))):bD s 7 (.loc 6 0)=some (.ptr [Fu (ux p l)]):=by
 refine Cx h6 ?_
 rw[bD]
 simp only[h3]
 rw[if_pos (by simp[Kh])]
 simp only[Nat.mul_one,List.drop_zero]
 rw[List.take_of_length_le (by simp[Kh])]
 rw[DU (l':=(ux p l).map Is) (by simp[Kh,ux]) fun i x y hx hy=>?_]
 ·simp
 ·have hi:i<l.length:=by simpa[Kh] using(List.getElem?_eq_some_iff.1 hx).1
  have ex:x=Dt p l i:=by simpa[Kh,hi] using hx.symm
  have ey:y=Is (if gl p l i=true then iT p l i else[]):=by simpa[ux,hi] using hy.symm
  rw[ex,ey,Dt]
  split
  ·rename_i hc
   by_cases hs:iT p l i=[]
   ·rw[hs,List.length_nil,lq,if_pos rfl]
    rfl
   ·have h1:(iT p l i).length≠0:=fun e=>hs (List.eq_nil_of_length_eq_zero e)
    rw[lq,if_neg h1]
    exact Qdk (n:=3) (hr i hi hc hs)
  ·rfl

theorem ahq (hok:p.ok=true) (h1:s[1]? = some (.blk TB 1 ((uu p l).map I))) (h2:s[2]? = some (.blk TB 1 ((uq p l).map I))) (h3:s[3]? = some (.blk TB 1 (Kh p l))) (h4:s[4]? = some (.blk TB 1 [.sl 1 0 l.length])) (h5:s[5]? = some (.blk TB 1 [.sl 2 0 l.length])) (h6:s[6]? = some (.blk TB 1 [.sl 3 0 l.length])) (hr:∀j,j<l.length→gl p l j=true→iT p l j≠[]→s[7+Re p l j]? = some (.blk 3 1 ((iT p l j).map I)))
  {a b:Nat} (ha:a<l.length) (hb:b<l.length) (ca:gl p l a=true) (cb:gl p l b=true):aP Tryz.prog 114 (.st s) [In a,In b,.ptr [.bq (oz (.loc 4 0) (.loc 5 0) (.loc 6 0))]] (I (vu p l a b)):=by
 refine zX (n:=10) (am7 (bs:=[]) hok ha hb ca cb) ?_ (.v _)
 have m1:=Rt h1 h4
 have m2:=Rs h2 h5
 have m3:=Ru h3 h6 hr
 have m4:∀z:Nat,bD s 10 (In z)=some (In z):=fun z=>rfl
 have m5:bD s 8 (.fn 70 [] [.loc 4 0])=some (.fn 70 [] [.ptr [Is (uu p l)]]):=by
  rw[bD]
  simp only[dK,m1,Option.bind_some,Option.map_some]
 have m6:bD s 8 (.fn 72 [] [.loc 5 0])=some (.fn 72 [] [.ptr [Is (uq p l)]]):=by
  rw[bD]
  simp only[dK,m2,Option.bind_some,Option.map_some]
 have m7:bD s 8 (.fn 73 [] [.loc 6 0])=some (.fn 73 [] [.ptr [Fu (ux p l)]]):=by
  rw[bD]
  simp only[dK,m3,Option.bind_some,Option.map_some]
 have m8:bD s 8 (.fn 75 [] [])=some (.fn 75 [] []):=rfl
 have m9:bD s 9 (.bq (oz (.loc 4 0) (.loc 5 0) (.loc 6 0)))=some (.bq (oz (.ptr [Is (uu p l)]) (.ptr [Is (uq p l)]) (.ptr [Fu (ux p l)]))):=by
  rw[bD]
  simp only[oz,dK,m5,m6,m7,m8,Option.bind_some,Option.map_some]
 have ma:bD s 10 (.ptr [.bq (oz (.loc 4 0) (.loc 5 0) (.loc 6 0))])=some (.ptr [.bq (oz (.ptr [Is (uu p l)]) (.ptr [Is (uq p l)]) (.ptr [Fu (ux p l)]))]):=by
  rw[bD]
  simp only[dK,m9,Option.bind_some,Option.map_some]
 simp only[dK,m4,ma,Option.bind_some,Option.map_some]
end

/-! ## the cars aiY count are sorted -/

abbrev ZY (p:aL)(l:List aS):Type:={ k:Nat // k<l.length∧gl p l k=true }
def Wq (x y:ZY p l):Int:=vu p l x.1 y.1

theorem Az (x y:ZY p l):ltOf Wq x y=jZ p l x.1 y.1:=rfl

theorem ai0:Sort.SWO (ltOf (Wq (p:=p) (l:=l))) where
 irrefl x:=by
  rw[Az,jZ,(Qdv p l).2 rfl]
  rfl
 trans x y z h1 h2:=Fe h1 h2
 ntrans x y z h1 h2:=by
  rw[Az,jZ,decide_eq_false_iff_not] at *
  have t:=(jo p l).trans z.1 y.1 x.1
  have n1:=(jo p l).neg x.1 y.1
  have n2:=(jo p l).neg y.1 z.1
  have n3:=(jo p l).neg x.1 z.1
  omega

theorem Zc:∀{o:List Nat},(∀x,x∈o→x<l.length∧gl p l x=true)→∃m:List (ZY p l),m.map (fun x=>x.1)=o
 | [],_=>⟨[],rfl⟩
 | x :: r,h=>by
  obtain⟨m,hm⟩:=Zc (o:=r) fun y hy=>h y (List.mem_cons_of_mem _ hy)
  exact⟨⟨x,h x (List.mem_cons_self ..)⟩ :: m,by rw[List.map_cons,hm]⟩

theorem XF {m:List (ZY p l)}(hm:m.map (fun x=>x.1)=fW p l l.length):(m.mergeSort fun x y=>!(ltOf Wq) y x).map (fun x=>x.1)=cG p l:=by
 refine Ki ?_ ?_
 ·rw[←hm]
  exact(List.mergeSort_perm _ _).map _
 ·have hnd:(m.mergeSort fun x y=>!(ltOf Wq) y x).Pairwise fun x y=>x.1≠y.1:=by
   have h1:(fW p l l.length).Nodup:=List.Pairwise.filter _ List.nodup_range
   rw[←hm] at h1
   have h2:=((List.mergeSort_perm m fun x y=>!(ltOf Wq) y x).map fun x=>x.1).nodup_iff.2 h1
   rw[List.Nodup,List.pairwise_map] at h2
   exact h2
  rw[List.pairwise_map]
  refine((List.pairwise_mergeSort (le:=fun x y=>!(ltOf Wq) y x) (fun a b c h1 h2=>?_) (fun a b=>?_) m).and hnd).imp fun {a b} h=>?_
  ·simp only[Bool.not_eq_true',Az] at *
   cases hca:jZ p l c.1 a.1
   ·rfl
   ·exfalso
    simp only[jZ,decide_eq_true_eq,decide_eq_false_iff_not] at *
    have t:=(jo p l).trans a.1 b.1 c.1
    have n1:=(jo p l).neg a.1 b.1
    have n2:=(jo p l).neg b.1 c.1
    have n3:=(jo p l).neg a.1 c.1
    omega
  ·simp only[Bool.or_eq_true,Bool.not_eq_true',Az]
   cases hb:jZ p l b.1 a.1
   ·exact .inl rfl
   ·exact .inr (Ml hb)
  ·simp only[Bool.not_eq_true',Az] at h
   exact Ff (Ne.symm h.2) h.1

theorem amR {s:List D} {b:Nat} (hb:s[b]? = some (Je p l l.length)) (h0:fW p l l.length≠[]) (hL:l.length≤1000) (F:D)
  (hcmp:∀(zs:List Int) (x y:Nat),x<l.length→y<l.length→gl p l x=true→gl p l y=true→aP Tryz.prog 114 (.st (s.set b (.blk 3 1 (zs.map I)))) [In x,In y,F] (I (vu p l x y))) :
  bk Tryz.prog 68 (.st s) [.sl b 0 (fW p l l.length).length,.fn 114 [] [F]] (.bh []) (.st (s.set b (.blk 3 1 ((cG p l).map In)))):=by
 have GR:∀x,x∈fW p l l.length→x<l.length∧gl p l x=true:=fun x hx=>by simpa[fW] using hx
 obtain⟨m,hm⟩:=Zc GR
 have hml:m.length=(fW p l l.length).length:=by rw[←hm,List.length_map]
 have dG:=v8 (p:=p) (l:=l) (n:=l.length)
 obtain⟨x0,hx0⟩:∃x0,x0∈m:=List.exists_mem_of_ne_nil m fun e=>h0 (by rw[←hm,e];rfl)
 have:Inhabited (ZY p l):=⟨x0⟩
 have hrow:(m.map fun x:ZY p l=>(x.1:Int)).map jy.J=(fW p l l.length).map In:=by
  rw[←hm,List.map_map,List.map_map]
  rfl
 have h:=jy.Gh (P:=Tryz.prog) (f:=68) (g:=114) (val:=fun x:ZY p l=>(x.1:Int)) (cf:=Wq) (bT:=[F]) (bs:=s) (b:=b) (e:=3) (xs:=m)
  (fun cb blk off cap d w hcmp hH hblk hsz=>Tryz.slices_SortFunc_total _ (fun _=>rfl) Wq ai0 114 cb blk off cap d w (enters_of Tryz.func114 (by kernel_rfl) rfl) hcmp hH hblk hsz (fun x y h1 h2=>by
   rw[Az] at h1 h2
   refine Subtype.ext ?_
   rcases Decidable.em (x.1=y.1) with e | e
   ·exact e
   ·have:=Ff e h1
    rw[h2] at this
    cases this))
  (fun d=>by simp) (fun zs x y=>hcmp zs x.1 y.1 x.2.1 y.2.1 x.2.2 y.2.2) (by rw[hrow];exact hb) (by omega)
 rw[hml] at h
 have e:((m.toArray.toList.mergeSort fun x y=>!(ltOf Wq) y x).map fun x:ZY p l=>(x.1:Int)).map jy.J=(cG p l).map In:=by
  rw[←XF hm,List.map_map,List.map_map]
  rfl
 rw[show((m.toArray.toList.mergeSort fun x y=>!(ltOf Wq) y x).toArray).toList=m.toArray.toList.mergeSort fun x y=>!(ltOf Wq) y x from rfl,e] at h
 exact h

theorem amS {f:D}:bk Tryz.prog 68 (.st bs) [.cq,f] (.bh []) (.st bs):=by
 intro w S aJ rp vs heq hst dP hfl hS hvl hrd
 cases heq
 obtain⟨v,u,rfl⟩:∃v u,vs=#[v,u]:=by
  match vs,hvl with
  | ⟨[v,u]⟩,_=>exact⟨v,u,rfl⟩
 have hv:=hrd 0 v .cq rfl rfl
 cases hv with
 | cq=>
 refine(Tryz.slices_SortFunc_none (α:=Nat) none 0 u w).mono ?_
 rintro _ w' ⟨rfl,rfl⟩
 exact⟨.tuple #[],S,aJ,_,⟨rfl,.bh rfl fun i v d hv=>by simp at hv⟩,rfl,hst,fun _ _ _=>rfl,Sets.le_refl _,rfl,.refl _,rfl,Nat.le_refl _,fun _ _ _=>rfl,fun k' hk=>⟨.inl hk,hfl k' hk⟩,fun k' o hk=>.inl hk,fun k' o hk=>hS k' o hk⟩

/-! ## the power stage's cars are sorted -/

theorem Ur {s:List D}:bD s 9 (.ptr p.cs)=some (.ptr p.cs):=by
 have h1:bD s 8 (.bq (p.items.map Item.d))=some (.bq (p.items.map Item.d)):=xm
 have h3:∀x:List Int,bD s 8 (Is x)=some (Is x):=fun x=>oJ
 have h4:∀x:Int,bD s 8 (I x)=some (I x):=fun x=>rfl
 have h5:∀x:Bool,bD s 8 (B x)=some (B x):=fun x=>rfl
 rw[bD]
 generalize bD s 8=f at h1 h3 h4 h5 ⊢
 simp only[aL.cs,dK,h1,h3,h4,h5,Option.bind_some,Option.map_some]

abbrev ad1 (p:aL):D:=.fn 77 [] [.loc 0 0,.ptr p.cs]

theorem amQ (hok:p.ok=true)(hc:br p l=true)(lU:l.length≤20)(h0:¬p.power<0){s:List D}(hs0:s[0]? = some (.blk 90 1 [iW p l])) :
  bk Tryz.prog 76 (.st (gB s (ints (eF p l)))) [gS s.length (ints (eF p l)),ad1 p] (.bh []) (.st (if eF p l=[] then s else(gB s (ints (eF p l))).set (s.length+((eF p l).length-1)) (.blk 3 1 ((kL p l).map I)))):=by
 have hcs:=cr hc
 have hs:0<s.length:=(List.getElem?_eq_some_iff.1 hs0).1
 by_cases hn:eF p l=[]
 ·rw[if_pos hn,hn]
  have h:=ZU (s:=s) (g:=77) (cs:=[.loc 0 0,.ptr p.cs])
  show bk Tryz.prog 76 (.st s) [.cq,ad1 p] (.bh []) (.st s)
  refine Sc.X5.W rfl ?_
  unfold jy.MR
  simp only[aC,aG,List.cons_append,List.nil_append]
  repeat' (first|(apply ar;rfl;exact rfl;simp only[ai];rfl)|(apply eZ;rfl;rfl;exact h;rfl;simp only[ai];rfl)|exact aq rfl rfl)
 ·rw[if_neg hn]
  have hne:ints (eF p l)≠[]:=by simpa[ints] using hn
  have hb:=Ez (b0:=s) hne
  have hlen:(ints (eF p l)).length=(eF p l).length:=by simp[ints]
  rw[tc hne]
  rw[hlen] at hb ⊢
  have q_:=(List.getElem?_eq_some_iff.1 hb).1
  have hcmp:jy.Fq Tryz.prog (gB s (ints (eF p l))) (s.length+((eF p l).length-1)) 3 77 [] [.loc 0 0,.ptr p.cs] (powC p l) (fun x=>0≤x∧x<l.length):=by
   refine⟨by kernel_rfl,fun xs x y hx hy=>?_⟩
   obtain⟨a,rfl⟩:∃a:Nat,x=a:=⟨x.toNat,by omega⟩
   obtain⟨b,rfl⟩:∃b:Nat,y=b:=⟨y.toNat,by omega⟩
   refine zX (n:=9) (c77 (bs:=[]) hok hc h0 (a:=a) (b:=b) (by omega) (by omega)) ?_ (.v _)
   have e0:(jy.Row (gB s (ints (eF p l))) (s.length+((eF p l).length-1)) 3 xs)[0]? = some (.blk 90 1 [iW p l]):=by
    rw[jy.Row,List.getElem?_set_ne (by omega),Ey hs]
    exact hs0
   generalize jy.Row (gB s (ints (eF p l))) (s.length+((eF p l).length-1)) 3 xs=S at e0
   have m1:bD S 9 (.loc 0 0)=some (.ptr [iW p l]):=Cx e0 KA
   have m2:bD S 9 (.ptr p.cs)=some (.ptr p.cs):=Ur
   have m3:∀z:Int,bD S 9 (jy.J z)=some (I z):=fun z=>rfl
   generalize bD S 9=f at m1 m2 m3 ⊢
   simp only[List.nil_append,List.cons_append,dK,m1,m2,m3,Option.bind_some,Option.map_some]
  have h:=jy.aol (P:=Tryz.prog) X5 UD UC (bs:=gB s (ints (eF p l))) (b:=s.length+((eF p l).length-1)) (e:=3) (g:=77) (us:=[]) (cs:=[.loc 0 0,.ptr p.cs]) (c:=powC p l) (dom:=fun x=>0≤x∧x<l.length)
   q_ (DD _) hcmp (xs:=ints (eF p l)) (n:=(eF p l).length) hlen (by
    have h2:(eF p l).length≤l.length:=by
     unfold eF
     split
     ·simp
     ·exact kf
    omega) (fun z hz=>by
    obtain⟨k,hk,rfl⟩:=List.mem_map.1 hz
    have:=Kr hk
    simp only[Int.ofNat_eq_natCast]
    omega) (by
    rw[ints,List.pairwise_map]
    exact Bo.imp fun h=>by simp only[Int.ofNat_eq_natCast];omega)
  rw[jy.Row,jy.Row,Dd hb] at h
  exact h
end

section
open Go.Proofs
set_option maxRecDepth 100000
set_option maxHeartbeats 4000000

attribute [local irreducible] gR fV dQ

variable {bs:List D} {p:aL} {c:aS} {l:List aS} {ev:D} {k:Nat}

theorem Xj (hk:k<l.length):D.gQ 1 (.st (Fw p l ev k)) (.loc 1 (k*1)) (I (e_ p l k))=some (.st (rz l ev (iJ p l (k+1)) (j9 p l k) (kU p l k)++(ua p l k).1)):=by
 rw[Fw,aaf _ (by rw[tY];exact hk),iJ,←vD _ rfl]

theorem SC (h:¬gl p l k=true):th p l (k+1)=th p l k:=by
 rw[th,th,rq,if_neg h,p9,if_neg h]

theorem TK {i:Nat}(h:¬(p.it i).kind=2):Ck p l ev k (i+1)=Ck p l ev k i:=by
 have h2:¬((p.it i).kind==2)=true:=by simpa using h
 rw[Ck,Ck,ew,if_neg h2,gn,if_neg h2,jF,if_neg (by simp[uN,h])]
 rfl

theorem TZ {R:List D}{x:D}(h:k<R.length):(R.set k x)[k]? = some x:=by simp[h]
theorem TY {W:List Int}{x:Int}(h:k<W.length):(W.set k x)[k]? = some x:=by simp[h]

theorem QN {i:Nat}(hk:k<l.length)(hL:p.n≤1000)(hi:i<p.n)(hs:(p.it i).kind=2):∃s1 s2,
  D.fU 3 1 8 (.st (Ck p l ev k i)) (lq (gn p l k (q9 p l k) i).2 (ew p l k i).length) (.bq [I (cS p l k i)])=some (.st s1) ∧
  D.apps (.st (Ck p l ev k i)) (lq (gn p l k (q9 p l k) i).2 (ew p l k i).length) (.bq [I (cS p l k i)])=some (lq (gn p l k (q9 p l k) (i+1)).2 (ew p l k (i+1)).length) ∧
  D.gQ 1 (.st s1) (.loc 3 (k*1)) (lq (gn p l k (q9 p l k) (i+1)).2 (ew p l k (i+1)).length)=some (.st s2) ∧
  D.ld false 1 (.st s1) (.loc 6 0)=some (.sl 3 0 l.length) ∧
  D.ld false 1 (.st s2) (.loc 0 0)=some ev ∧
  D.ld false 1 (.st (gB s2 (ints (eY p l i (-1))))) (.loc 0 0)=some ev ∧
  D.ld false 1 (.st (gB s2 (ints (eY p l i (-1))))) (.loc 5 0)=some (.sl 2 0 l.length) ∧
  D.ld false 1 (.st (gB s2 (ints (eY p l i (-1))))) (.loc 2 (k*1))=some (I (jF p l k i)) ∧
  (uN p l k i=true→D.gQ 1 (.st (gB s2 (ints (eY p l i (-1))))) (.loc 2 (k*1)) (I ((jF p l k i:Int)+1))=some (.st (Ck p l ev k (i+1)))) ∧
  (¬uN p l k i=true→gB s2 (ints (eY p l i (-1)))=Ck p l ev k (i+1)):=by
 have hk2:((p.it i).kind==2)=true:=by simp[hs]
 obtain⟨s1,h1,h2,rfl⟩:=TF (p:=p) (l:=l) (ev:=ev) (k:=k) (i:=i) hk hL hi hs
 have hRl:k<((kU p l k).set k (lq (gn p l k (q9 p l k) i).2 (ew p l k i).length)).length:=by rw[List.length_set,tY];exact hk
 have hWl:k<((j9 p l k).set k ((jF p l k i:Nat):Int)).length:=by rw[List.length_set,tY];exact hk
 have h3:=aag (l:=l) (ev:=ev) (T:=iJ p l (k+1)) (W:=(j9 p l k).set k (jF p l k i)) (t:=(if ew p l k i=[] then(gn p l k (q9 p l k) i).1 else(gn p l k (q9 p l k) i).1.set (gn p l k (q9 p l k) i).2 (.bh []))++[.blk 3 1 ((ew p l k (i+1)).map I)]) (TU (gn p l k (q9 p l k) (i+1)).2 (ew p l k (i+1)).length) hRl
 rw[List.set_set] at h3
 have eg:gB (rz l ev (iJ p l (k+1)) ((j9 p l k).set k (jF p l k i)) ((kU p l k).set k (lq (gn p l k (q9 p l k) (i+1)).2 (ew p l k (i+1)).length))++((if ew p l k i=[] then(gn p l k (q9 p l k) i).1 else(gn p l k (q9 p l k) i).1.set (gn p l k (q9 p l k) i).2 (.bh []))++[.blk 3 1 ((ew p l k (i+1)).map I)])) (ints (eY p l i (-1)))=rz l ev (iJ p l (k+1)) ((j9 p l k).set k (jF p l k i)) ((kU p l k).set k (lq (gn p l k (q9 p l k) (i+1)).2 (ew p l k (i+1)).length))++(gn p l k (q9 p l k) (i+1)).1:=by
  have e0:∀Y:List D,gB Y (ints (eY p l i (-1)))=Y++adV p l i:=fun Y=>by
   have:=abQ Y [] (ints (eY p l i (-1)))
   rw[List.append_nil] at this
   exact this
  rw[e0,List.append_assoc]
  congr 1
  rw[gn,if_pos hk2]
 refine⟨_,_,h1,h2,h3,Ze,AJ,?_,?_,?_,fun hw=>?_,fun hw=>?_⟩
 ·rw[eg]
  exact AJ
 ·rw[eg]
  exact aeC
 ·rw[eg]
  exact aeE (TY (by rw[tY];exact hk))
 ·rw[eg,aae _ hWl,List.set_set,Ck,show((jF p l k (i+1):Nat):Int)=(jF p l k i:Int)+1 by rw[jF,if_pos hw];omega]
 ·rw[eg,Ck,show jF p l k (i+1)=jF p l k i by rw[jF,if_neg hw];rfl]

/-! ## after the rounds -/

def tL (p:aL)(l:List aS):List D:=if fW p l l.length=[] then(ua p l l.length).1 else(ua p l l.length).1.set (ua p l l.length).2 (.blk 3 1 ((cG p l).map In))
def C7 (p:aL)(l:List aS)(ev:D):List D:=rz l ev (iJ p l l.length) (j9 p l l.length) (kU p l l.length)++tL p l

theorem aaa (h:fW p l l.length≠[]):(tL p l)[(ua p l l.length).2]? = some (.blk 3 1 ((cG p l).map In)):=by
 have hb:=(ye (p:=p) (l:=l) l.length).2 h
 rw[tL,if_neg h]
 simp[(List.getElem?_eq_some_iff.1 hb).1]

theorem Na:iJ p l l.length=uu p l:=CV
theorem Ra:j9 p l l.length=uq p l:=CV
theorem Rb:kU p l l.length=Kh p l:=CV

abbrev aji:D:=.fn 114 [] [.ptr [.bq (oz (.loc 4 0) (.loc 5 0) (.loc 6 0))]]

theorem amT (hok:p.ok=true)(hL:l.length≤1000):bk Tryz.prog 68 (.st (Fw p l ev l.length)) [th p l l.length,aji] (.bh []) (.st (C7 p l ev)):=by
 by_cases h0:fW p l l.length=[]
 ·have e:C7 p l ev=Fw p l ev l.length:=by rw[C7,tL,if_pos h0,Fw]
  rw[e,th,h0,List.length_nil,lq,if_pos rfl]
  exact amS
 ·have h1:(fW p l l.length).length≠0:=fun e=>h0 (List.eq_nil_of_length_eq_zero e)
  have hb:=(ye (p:=p) (l:=l) l.length).2 h0
  rw[th,lq,if_neg h1]
  have hb7:(Fw p l ev l.length)[7+(ua p l l.length).2]? = some (Je p l l.length):=by rw[Fw,yo];exact hb
  have h:=amR (p:=p) (l:=l) hb7 h0 hL (.ptr [.bq (oz (.loc 4 0) (.loc 5 0) (.loc 6 0))]) (fun zs x y hx hy cx cy=>?_)
  ·rw[Fw,HI] at h
   rw[C7,tL,if_neg h0]
   exact h
  ·have IP:∀j z,j<7→(rz l ev (iJ p l l.length) (j9 p l l.length) (kU p l l.length))[j]? = some z→((Fw p l ev l.length).set (7+(ua p l l.length).2) (.blk 3 1 (zs.map I)))[j]? = some z:=fun j z hj h=>by
    rw[List.getElem?_set_ne (by omega),Fw,List.getElem?_append_left (by simpa[rz] using hj)]
    exact h
   refine ahq hok (IP 1 _ (by omega) ?_) (IP 2 _ (by omega) ?_) (IP 3 _ (by omega) ?_) (IP 4 _ (by omega) rfl) (IP 5 _ (by omega) rfl) (IP 6 _ (by omega) rfl) (fun j hj hcj hsj=>?_) hx hy cx cy
   ·rw[←Na];rfl
   ·rw[←Ra];rfl
   ·rw[←Rb];rfl
   ·obtain⟨hr,hne⟩:=Hy (p:=p) (l:=l) l.length j hj hcj hsj
    rw[List.getElem?_set_ne (by omega),Fw,yo]
    exact hr

def Px (p:aL)(l:List aS)(ev:D):List D:=if eF p l=[] then C7 p l ev else(gB (C7 p l ev) (ints (eF p l))).set ((C7 p l ev).length+((eF p l).length-1)) (.blk 3 1 ((kL p l).map I))

theorem Cl {j:Nat}(h:j<(C7 p l ev).length):(Px p l ev)[j]? = (C7 p l ev)[j]?:=by
 unfold Px
 split
 ·rfl
 ·rw[List.getElem?_set_ne (by omega),Ey h]

theorem Ab {j:Nat}(h:j<7):j<(C7 p l ev).length:=by rw[C7,vG];omega

theorem aaj:D.ld false 1 (.st (Px p l ev)) (.loc 0 0)=some ev:=gX (e:=90) (sz:=1) (cs:=[ev]) ((Cl (Ab (by omega))).trans rfl) rfl
theorem Y3:D.ld false 1 (.st (Px p l ev)) (.loc 4 0)=some (.sl 1 0 l.length):=gX (e:=TB) (sz:=1) (cs:=[.sl 1 0 l.length]) ((Cl (Ab (by omega))).trans rfl) rfl
theorem Y4 (hk:k<l.length):D.ld false 1 (.st (Px p l ev)) (.loc 1 (k*1))=some (I (e_ p l k)):=gX (e:=TB) (sz:=1) (cs:=(iJ p l l.length).map I) ((Cl (Ab (by omega))).trans rfl) (by
 rw[Nat.mul_one,List.getElem?_map,CU hk,if_pos hk]
 rfl)
theorem Xv {j:Nat}(hj:j<(cG p l).length):D.aj 1 (th p l l.length) (In j)=some (.loc (7+(ua p l l.length).2) (j*1))∧D.ld false 1 (.st (Px p l ev)) (.loc (7+(ua p l l.length).2) (j*1))=some (In (cG p l)[j]):=by
 have hl:=uw (p:=p) (l:=l)
 have h0:fW p l l.length≠[]:=fun e=>by rw[e,List.length_nil] at hl;omega
 have h1:(fW p l l.length).length≠0:=fun e=>h0 (List.eq_nil_of_length_eq_zero e)
 have hr:=aaa h0
 have hrl:=(List.getElem?_eq_some_iff.1 hr).1
 refine⟨?_,gX (e:=3) (sz:=1) (cs:=(cG p l).map In) ((Cl (by rw[C7,vG];omega)).trans ?_) (by simp[hj])⟩
 ·rw[th,lq,if_neg h1]
  exact eH (by omega)
 ·rw[C7,yo]
  exact hr
theorem Wj:D.aR (th p l l.length)=some (I (cG p l).length):=by
 have hl:=uw (p:=p) (l:=l)
 rw[th,lq]
 split
 ·rename_i h
  rw[show(cG p l).length=0 by omega]
  rfl
 ·rw[hl]
  rfl

theorem Xu {j:Nat}(hj:j<(kL p l).length):D.aj 1 (gS (C7 p l ev).length (ints (eF p l))) (In j)=some (.loc ((C7 p l ev).length+((eF p l).length-1)) (j*1))∧D.ld false 1 (.st (Px p l ev)) (.loc ((C7 p l ev).length+((eF p l).length-1)) (j*1))=some (I (kL p l)[j]):=by
 have hl:=yG (p:=p) (l:=l)
 have h0:eF p l≠[]:=fun e=>by rw[e,List.length_nil] at hl;omega
 have hne:ints (eF p l)≠[]:=by simpa[ints] using h0
 have hb:=Ez (b0:=C7 p l ev) hne
 have hlen:(ints (eF p l)).length=(eF p l).length:=by simp[ints]
 rw[hlen] at hb
 refine⟨?_,gX (e:=3) (sz:=1) (cs:=(kL p l).map I) ?_ (by simp[hj])⟩
 ·rw[tc hne,hlen]
  exact eH (by omega)
 ·rw[Px,if_neg h0,List.getElem?_set_self (List.getElem?_eq_some_iff.1 hb).1]
theorem XM {m:Nat}:D.aR (gS m (ints (eF p l)))=some (I (kL p l).length):=by
 have hl:=yG (p:=p) (l:=l)
 rw[hl]
 cases h:eF p l with
 | nil=>rfl
 | cons x r=>
  show some (I _)=_
  simp

/-! ## dW -/

def tj (p:aL)(l:List aS)(o:List Nat)(k:Nat):List Int:=(List.range p.dW.toNat).map fun c:Nat=>(kZ l o k (c:Int):Int)
theorem L9 {o:List Nat}:(tj p l o k).length=p.dW.toNat:=by simp[tj]
theorem EY {o:List Nat}{c:Nat}(h:c<p.dW.toNat):(tj p l o k).getD c 0=kZ l o k c:=by simp[tj,List.getD,h]
theorem G9 {o:List Nat}:tj p l o 0=List.replicate p.dW.toNat 0:=by
 refine List.ext_getElem (by simp[tj]) fun k h1 h2=>?_
 simp[tj,kZ]
theorem G_ {o:List Nat}{c:Nat}(hk:k<o.length)(hc:(cd l o[k]).cls=c):tj p l o (k+1)=(tj p l o k).set c ((kZ l o k c:Int)+1):=by
 refine List.ext_getElem (by simp[tj]) fun j h1 h2=>?_
 rw[List.getElem_set]
 simp only[tj,List.getElem_map,List.getElem_range,He hk,hc]
 by_cases hj:c=j
 ·subst hj
  rw[if_pos rfl,if_pos (by simp)]
  omega
 ·rw[if_neg hj,if_neg (by simp;omega)]
  omega

theorem Rv {s:List D}{xs:List Jz}:bD s 5 (.bh [wu xs,I 0])=some (.bh [wu xs,I 0]):=by
 have h1:bD s 4 (wu xs)=some (wu xs):=by
  rw[bD,jj (enc:=Jz.d) fun a _=>by rfl]
  rfl
 have h2:bD s 4 (I 0)=some (I 0):=rfl
 rw[bD]
 generalize bD s 4=f at h1 h2 ⊢
 simp only[dK,h1,h2,Option.bind_some,Option.map_some]
end

section
open Go.Proofs
set_option maxRecDepth 100000
set_option maxHeartbeats 8000000

attribute [local irreducible] gR fV dQ

variable {bs:List D} {p:aL} {c:aS} {l:List aS}

theorem CH {m:Nat}{xs:List Int}:(gS m xs).fits [true]=true:=by
 cases xs <;> rfl

theorem am0 (hp:p.Ok)(hl:Qbz l)(hok:p.ok=true)(hc:br p l=true)(lU:l.length≤20):bk Tryz.prog 29 (.st []) [p.d,dM l] (.bh [wu (results p l),I 0]) (.st (Px p l (iW p l))):=by
 have hcs:=cr hc
 have hh:=aL.gi hok
 have JM:=zA (bs:=[]) hp hl hok hc
 have hst:D.gQ 1 (.st [.blk 90 1 [.v (.pointer none)]]) (.loc 0 0) (iW p l)=some (.st [.blk 90 1 [iW p l]]):=rfl
 have bn:D.rep 8 (I l.length) (I 0)=some (.bq (List.replicate l.length (I 0))):=by
  have:=Dv (n:=l.length) (by omega)
  rwa [Is,List.map_replicate] at this
 have BE:D.rep 24 (I l.length) .cq=some (.bq (List.replicate l.length .cq)):=by
  have h3:=hcs.1
  simp only[D.rep,Int.toNat_natCast]
  rw[if_pos ⟨by omega,by omega,Nat.le_trans h3 (by decide)⟩]
 refine aeO.W rfl ?_
 unfold u29
 simp only[aC,aG,List.cons_append,List.nil_append]
 repeat' (first|(apply aK;rfl;exact rfl)|(apply ar;rfl;exact ak;simp only[ai];rfl)|(apply kT;rfl;rfl;rfl;exact hst;simp only[ai];rfl)|(apply F9;rfl;(·first|exact bn|exact BE);simp only[ai];rfl)|(apply aD;rfl;simp only[ai];rfl)|(apply aF;rfl;rfl;exact JM;rfl;simp only[ai];rfl)|refine au ?_)
 refine bf (fun k=>[th p l k,Ix (fo p l k),In k,.st (Fw p l (iW p l) k)]) (fun _=>True) l.length (xY rfl (xY rfl (xY rfl (xY ((zv5 rfl rfl rfl rfl).trans (by rw[QS])) V0)))) (fun _=>rfl) trivial (fun k hk _ R hR=>?_) (fun _ R=>?_)
 ·have hlk:decide ((k:Int)<(l.length:Int))=true:=by simp;omega
  have hR:=hR trivial
  have hv4:D.ld false 1 (.st (Fw p l (iW p l) k)) (.loc 4 0)=some (.sl 1 0 l.length):=aeD
  have hv0:D.ld false 1 (.st (Fw p l (iW p l) k)) (.loc 0 0)=some (iW p l):=AJ
  have h57:=c57 (bs:=Fw p l (iW p l) k) hp hok hc hk
  have IS:D.aj 1 (.sl 1 0 l.length) (In k)=some (.loc 1 (k*1)):=eH hk
  have abn:D.aj 1 (.sl 3 0 l.length) (In k)=some (.loc 3 (k*1)):=eH hk
  have Yn:D.aj 1 (.sl 2 0 l.length) (In k)=some (.loc 2 (k*1)):=eH hk
  have hts:=Xj (p:=p) (l:=l) (ev:=iW p l) hk
  have Zj:D.ld false 1 (.st (rz l (iW p l) (iJ p l (k+1)) (j9 p l k) (kU p l k)++(ua p l k).1)) (.loc 0 0)=some (iW p l):=AJ
  cases zc:gl p l k
  ·have hge:decide (kX p (cd l k)≥0)=true:=by simp only[gl,decide_eq_false_iff_not] at zc;simp;omega
   have hn:¬gl p l k=true:=by simp[zc]
   have Lk:=vM (p:=p) (l:=l) (n:=k)
   have nD:=xU (xs:=fo p l k) (x:=k) (by omega)
   rw[TJ hn,SC hn,xk,if_neg hn] at hR
   repeat' (first|(apply bp;simp only[ai];rfl)|(apply aH;rfl;(·first|exact hlk|exact hge))|(apply aN;rfl)|(apply jI;rfl;rfl;exact hv0;simp only[ai];rfl)|(apply aA;rfl;rfl;(·first|exact IS|exact yI hk);simp only[ai];rfl)|(apply mV;rfl;rfl;exact nD;simp only[ai];rfl)|(apply kT;rfl;rfl;rfl;exact hts;simp only[ai];rfl)|(apply aW;rfl;omega;simp only[ai];rfl)|(apply aD;(·exact qX rfl (VV rfl rfl rfl rfl) hv4);simp only[ai];rfl)|(apply aD;rfl;simp only[ai];rfl)|(apply aF;rfl;rfl;exact h57;rfl;simp only[ai];rfl)|refine au ?_|(apply av;rfl;rfl)|refine Qav ?_|refine kj rfl ?_)
   exact hR
  ·have hge:decide (kX p (cd l k)≥0)=false:=by simp only[gl,decide_eq_true_eq] at zc;simp;omega
   have s8:=Wi (p:=p) (l:=l) (ev:=iW p l) hk (by omega) zc
   rw[←Xt zc,xk,if_pos zc] at hR
   repeat' (first|(apply bp;simp only[ai];rfl)|(apply aH;rfl;exact hlk)|(apply aK;rfl;exact hge)|(apply aN;rfl)|(apply jI;rfl;rfl;exact hv0;simp only[ai];rfl)|(apply aA;rfl;rfl;(·first|exact IS|exact yI hk);simp only[ai];rfl)|(apply ar;rfl;exact cT;simp only[ai];rfl)|(apply kT;rfl;rfl;rfl;exact hts;simp only[ai];rfl)|(apply qN;rfl;rfl;rfl;exact s8.1;simp only[ai];rfl)|(apply aD;(·exact qX rfl (VV rfl rfl rfl rfl) hv4);simp only[ai];rfl)|(apply aD;rfl;simp only[ai];rfl)|(apply aF;rfl;rfl;exact h57;rfl;simp only[ai];rfl)|refine au ?_)
   refine bf (fun i=>[In i,.st (Ck p l (iW p l) k i)]) (fun _=>True) p.n rfl (fun _=>rfl) trivial (fun i hi _ R2 k_=>?_) (fun _ R2=>?_)
   ·have gH:decide ((i:Int)<(p.n:Int))=true:=by simp;omega
    have k_:=k_ trivial
    have ZA:D.ld false 1 (.st (Ck p l (iW p l) k i)) (.loc 0 0)=some (iW p l):=AJ
    have GV:=c54 (bs:=Ck p l (iW p l) k i) (p:=p) (l:=l) hi
    by_cases hs:(p.it i).kind=2
    ·have hk2:((p.it i).kind==2)=true:=by simp[hs]
     rw[hk2] at GV
     have hi6:D.ld false 1 (.st (Ck p l (iW p l) k i)) (.loc 6 0)=some (.sl 3 0 l.length):=Ze
     have hiR:D.ld false 1 (.st (Ck p l (iW p l) k i)) (.loc 3 (k*1))=some (lq (gn p l k (q9 p l k) i).2 (ew p l k i).length):=aeF (TZ (by rw[tY];exact hk))
     have ZF:=c56 (bs:=Ck p l (iW p l) k i) hp hok hc hi hk
     obtain⟨s1,s2,g1,g2,g3,g4,g5,g6,g7,g8,g9,g10⟩:=QN (p:=p) (l:=l) (ev:=iW p l) hk (by omega) hi hs
     have h64:=ace (bs:=s2) (p:=p) hc hi (-1)
     have hrl:=kf (p:=p) (l:=l) (i:=i) (cls:=-1) (n:=l.length)
     have alj:(eY p l i (-1)).length≤9223372036854775807:=by unfold eY;omega
     have h65:=amV (s:=s2) (L:=eY p l i (-1)) (x:=k) alj
     have hwl:=CT (p:=p) (l:=l) (aO:=k) i
     by_cases hm:((cd l k).ln i).mark=0
     ·have hmem:=(EV (p:=p) (l:=l) (i:=i) zc hk).2 hm
      rw[decide_eq_true hmem] at h65
      have Yx:=c66 (bs:=gB s2 (ints (eY p l i (-1)))) (p:=p) hk (i:=i) (by rw[(hcs.2 k hk).len];exact hi)
      have Te:=amU (s:=s2) (p:=p) (i:=i) (L:=eY p l i (-1)) (Dx hc hi) (by unfold eY;omega)
      have afr:=Dw (p:=p) (l:=l) hmem
      cases hw:uN p l k i
      ·have hwf:(true&&(oC l i k==least l i (eY p l i (-1))))=false:=by
        rw[uN,hk2,Bool.true_and,Bool.and_eq_false_iff] at hw
        rcases hw with h | h
        ·simp[hm] at h
        ·simp only[decide_eq_false_iff_not] at h
         simp
         exact fun e=>h e.symm
       rw[←g10 (by simp[hw])] at k_
       repeat' (first|(apply bp;simp only[ai];rfl)|(apply aH;rfl;exact gH)|(apply aK;rfl;(·first|exact rfl|exact hwf))|(apply zZ;rfl;rfl;rfl;rfl;rfl;exact g2;exact g3;simp only[ai];rfl)|(apply Hv;(·exact qX rfl (FT rfl rfl rfl rfl) hi6);(·exact qX rfl (FT rfl rfl rfl rfl) g4);(·(simp[D.same,Value.same];done));simp only[ai];rfl)|(apply jI;rfl;rfl;(·first|exact ZA|exact hiR|exact g5|exact g6);simp only[ai];rfl)|(apply aA;rfl;rfl;(·first|exact abn|exact afr);simp only[ai];rfl)|(apply qN;rfl;rfl;rfl;exact g1;simp only[ai];rfl)|(apply aW;rfl;omega;simp only[ai];rfl)|(apply aD;(·exact qX rfl (FT rfl rfl rfl rfl) hi6);simp only[ai];rfl)|(apply aD;rfl;simp only[ai];rfl)|(apply aF;rfl;rfl;(·first|exact GV|exact ZF|exact h65|exact Yx|exact Te);rfl;simp only[ai];rfl)|(apply eZ;rfl;rfl;exact h64;exact CH;simp only[ai];rfl)|(apply bg;rfl)|refine au ?_|(apply av;rfl;rfl)|refine Qav ?_|refine kj rfl ?_|exact aq rfl rfl|(intro hz;(try simp only[bA] at hz)))
       exact k_
      ·have hwt:(true&&(oC l i k==least l i (eY p l i (-1))))=true:=by
        simp only[uN,Bool.and_eq_true,decide_eq_true_eq] at hw
        simp[hw.2.2]
       have g9:=g9 hw
       repeat' (first|(apply bp;simp only[ai];rfl)|(apply aH;rfl;(·first|exact gH|exact hwt))|(apply aK;rfl;exact rfl)|(apply zZ;rfl;rfl;rfl;rfl;rfl;exact g2;exact g3;simp only[ai];rfl)|(apply Hv;(·exact qX rfl (FT rfl rfl rfl rfl) hi6);(·exact qX rfl (FT rfl rfl rfl rfl) g4);(·(simp[D.same,Value.same];done));simp only[ai];rfl)|(apply jI;rfl;rfl;(·first|exact ZA|exact hiR|exact g5|exact g6|exact g8);simp only[ai];rfl)|(apply aA;rfl;rfl;(·first|exact abn|exact afr|exact Yn);simp only[ai];rfl)|(apply kT;rfl;rfl;rfl;exact g9;simp only[ai];rfl)|(apply qN;rfl;rfl;rfl;exact g1;simp only[ai];rfl)|(apply aW;rfl;omega;simp only[ai];rfl)|(apply aD;(·first|exact qX rfl (FT rfl rfl rfl rfl) hi6|exact qX rfl (agA rfl rfl rfl rfl) g7);simp only[ai];rfl)|(apply aD;rfl;simp only[ai];rfl)|(apply aF;rfl;rfl;(·first|exact GV|exact ZF|exact h65|exact Yx|exact Te);rfl;simp only[ai];rfl)|(apply eZ;rfl;rfl;exact h64;exact CH;simp only[ai];rfl)|(apply bg;rfl)|refine au ?_|(apply av;rfl;rfl)|refine Qav ?_|refine kj rfl ?_|exact aq rfl rfl|(intro hz;(try simp only[bA] at hz)))
       exact k_
     ·have hmem:¬k∈eY p l i (-1):=fun e=>hm ((EV zc hk).1 e)
      rw[decide_eq_false hmem] at h65
      have hw:¬uN p l k i=true:=fun e=>by
       simp only[uN,Bool.and_eq_true,beq_iff_eq] at e
       exact hm e.2.1
      rw[←g10 hw] at k_
      repeat' (first|(apply bp;simp only[ai];rfl)|(apply ir;rfl;exact rfl)|(apply aH;rfl;exact gH)|(apply aK;rfl;exact rfl)|(apply zZ;rfl;rfl;rfl;rfl;rfl;exact g2;exact g3;simp only[ai];rfl)|(apply Hv;(·exact qX rfl (FT rfl rfl rfl rfl) hi6);(·exact qX rfl (FT rfl rfl rfl rfl) g4);(·(simp[D.same,Value.same];done));simp only[ai];rfl)|(apply jI;rfl;rfl;(·first|exact ZA|exact hiR|exact g5);simp only[ai];rfl)|(apply aA;rfl;rfl;exact abn;simp only[ai];rfl)|(apply qN;rfl;rfl;rfl;exact g1;simp only[ai];rfl)|(apply aW;rfl;omega;simp only[ai];rfl)|(apply aD;(·exact qX rfl (FT rfl rfl rfl rfl) hi6);simp only[ai];rfl)|(apply aD;rfl;simp only[ai];rfl)|(apply aF;rfl;rfl;(·first|exact GV|exact ZF|exact h65);rfl;simp only[ai];rfl)|(apply eZ;rfl;rfl;exact h64;exact CH;simp only[ai];rfl)|refine au ?_|(apply av;rfl;rfl)|refine Qav ?_|refine kj rfl ?_)
      exact k_
    ·have hk2:((p.it i).kind==2)=false:=by simp[hs]
     rw[hk2] at GV
     rw[TK hs] at k_
     repeat' (first|(apply bp;simp only[ai];rfl)|(apply aH;rfl;(·first|exact gH|exact rfl))|(apply jI;rfl;rfl;exact ZA;simp only[ai];rfl)|(apply aW;rfl;omega;simp only[ai];rfl)|(apply aD;rfl;simp only[ai];rfl)|(apply aF;rfl;rfl;exact GV;rfl;simp only[ai];rfl)|refine au ?_|(apply av;rfl;rfl)|refine Qav ?_|refine kj rfl ?_)
     exact k_
   ·have hlf:decide ((p.n:Int)<(p.n:Int))=false:=by simp
    repeat' (first|(apply bp;simp only[ai];rfl)|(apply aK;rfl;exact hlf)|(apply aD;rfl;simp only[ai];rfl)|(apply av;rfl;rfl)|refine Qav ?_|(refine aB (by decide) ?_)|refine kj rfl ?_)
    refine av rfl (xY (mN rfl rfl rfl s8.2) (xY rfl (xY rfl V0))) ?_
    repeat' (first|(apply bp;simp only[ai];rfl)|(apply aW;rfl;omega;simp only[ai];rfl)|(apply av;rfl;rfl)|refine Qav ?_|refine kj rfl ?_)
    exact hR
 ·have hlf:decide ((l.length:Int)<(l.length:Int))=false:=by simp
  have h68:=amT (p:=p) (l:=l) (ev:=iW p l) hok (by omega)
  have hm:=aL.mC hok
  have hle:=yB (p:=p) (l:=l)
  have FM:=aL.As hok
  repeat' (first|(apply bp;simp only[ai];rfl)|(apply aK;rfl;exact hlf)|(apply aN;rfl)|(apply ar;rfl;exact ak;simp only[ai];rfl)|(apply F9;rfl;exact bn;simp only[ai];rfl)|(apply aD;(·first|exact OD (VV rfl rfl rfl rfl)|exact OD (agA rfl rfl rfl rfl)|exact OD (FT rfl rfl rfl rfl));simp only[ai];rfl)|(apply aD;rfl;simp only[ai];rfl)|(apply aF;rfl;rfl;exact c69 _;rfl;simp only[ai];rfl)|(apply eZ;rfl;rfl;exact h68;rfl;simp only[ai];rfl)|(apply av;rfl;rfl)|refine Qav ?_|(refine aB (by decide) ?_)|refine kj rfl ?_)
  refine x_ (fun ds=>ds=[Is (nZ p l (kL p l).length),.st (Px p l (iW p l))]) ?_ ?_
  ·by_cases h0:p.power<0
   ·have hge:decide (p.power≥0)=false:=by simp;omega
    have hL:eF p l=[]:=by rw[eF,if_pos h0]
    have hS:kL p l=[]:=List.eq_nil_of_length_eq_zero (by rw[yG,hL];rfl)
    repeat' (first|(apply aK;rfl;exact hge)|(apply av;rfl;rfl)|refine Qav ?_)
    rw[hS,List.length_nil,EJ,Px,if_pos hL,Is,List.map_replicate]
   ·have hge:decide (p.power≥0)=true:=by simp;omega
    obtain⟨i,hpi⟩:∃i:Nat,p.power=i:=⟨p.power.toNat,by omega⟩
    have hi:i<p.n:=by omega
    have hti:p.power.toNat=i:=by omega
    have hLr:eY p l i (-1)=eF p l:=by rw[eF,if_neg h0,hti]
    have h64:=ace (bs:=C7 p l (iW p l)) (p:=p) hc hi (-1)
    rw[show In i=I p.power by rw[hpi],hLr] at h64
    have hL0:D.ld false 1 (.st (C7 p l (iW p l))) (.loc 0 0)=some (iW p l):=AJ
    have h76:=amQ (p:=p) (l:=l) hok hc lU h0 (s:=C7 p l (iW p l)) rfl
    rw[show(if eF p l=[] then C7 p l (iW p l) else(gB (C7 p l (iW p l)) (ints (eF p l))).set ((C7 p l (iW p l)).length+((eF p l).length-1)) (.blk 3 1 ((kL p l).map I)))=Px p l (iW p l) from rfl] at h76
    repeat' (first|(apply aH;rfl;exact hge)|(apply aN;rfl)|(apply jI;rfl;rfl;exact hL0;simp only[ai];rfl)|(apply ar;rfl;exact XM;simp only[ai];rfl)|(apply aD;rfl;simp only[ai];rfl)|(apply eZ;rfl;rfl;exact h76;rfl;simp only[ai];rfl)|(apply eZ;rfl;rfl;exact h64;exact CH;simp only[ai];rfl)|refine au ?_)
    have BF:(kL p l).length≤l.length:=by
     rw[yG,←hLr]
     exact kf
    refine bf (fun k=>[In k,Is (nZ p l k)]) (fun _=>True) (kL p l).length ?_ (fun _=>rfl) trivial (fun k hk _ R hR=>?_) (fun _ R=>?_)
    ·rw[EJ,Is,List.map_replicate]
     rfl
    ·have hlk:decide ((k:Int)<((kL p l).length:Int))=true:=by simp;omega
     have hR:=hR trivial
     have RQ:=Xu (p:=p) (l:=l) (ev:=iW p l) hk
     rw[OA hk] at hR
     obtain⟨aO,cF,hmem⟩:=DB (List.getElem_mem hk)
     rw[cF] at RQ hR
     rw[Int.toNat_natCast] at hR
     have dG:aO<(nZ p l k).length:=by rw[AW];exact Kr hmem
     have h78:=c78 (bs:=Px p l (iW p l)) (L:=p.extra) hp.extra.2 k
     repeat' (first|(apply bp;simp only[ai];rfl)|(apply aH;rfl;exact hlk)|(apply aN;rfl)|(apply jI;rfl;rfl;exact RQ.2;simp only[ai];rfl)|(apply aA;rfl;rfl;exact RQ.1;simp only[ai];rfl)|(apply Bd;rfl;rfl;exact uR dG;simp only[ai];rfl)|(apply Ba;rfl;rfl;rfl;exact HN dG _;simp only[ai];rfl)|(apply aW;rfl;omega;simp only[ai];rfl)|(apply aD;rfl;simp only[ai];rfl)|(apply aF;rfl;rfl;exact h78;rfl;simp only[ai];rfl)|refine au ?_|(apply av;rfl;rfl)|refine Qav ?_|refine kj rfl ?_)
     exact hR
    ·have hlf:decide (((kL p l).length:Int)<((kL p l).length:Int))=false:=by simp
     repeat' (first|(apply bp;simp only[ai];rfl)|(apply aK;rfl;exact hlf)|(apply aD;rfl;simp only[ai];rfl)|(apply av;rfl;rfl)|refine Qav ?_|(refine aB (by decide) ?_)|refine kj rfl ?_)
     rfl
  ·rintro ds rfl
   refine⟨rfl,?_⟩
   refine(show wv Tryz.prog _ _ _ from ?_)
   have alX:0≤p.dW:=by omega
   have U3:D.rep 8 (I p.dW) (I 0)=some (Is (List.replicate p.dW.toNat 0)):=by
    have:=Dv (n:=p.dW.toNat) (by omega)
    rwa [show((p.dW.toNat:Nat):Int)=p.dW by omega] at this
   have hrl:=uw (p:=p) (l:=l)
   repeat' (first|(apply bp;simp only[ai];rfl)|(apply aN;rfl)|(apply ar;rfl;exact Wj;simp only[ai];rfl)|(apply F9;rfl;exact U3;simp only[ai];rfl)|(apply aD;rfl;simp only[ai];rfl)|refine au ?_)
   refine bf (fun k=>[wu (pQ p l (cG p l) k),In k,Is (tj p l (cG p l) k)]) (fun _=>True) (cG p l).length ?_ (fun _=>rfl) trivial (fun k hk _ R hR=>?_) (fun _ R=>?_)
   ·rw[G9]
    rfl
   ·have hlk:decide ((k:Int)<((cG p l).length:Int))=true:=by simp;omega
    have hR:=hR trivial
    have zc:=Xv (p:=p) (l:=l) (ev:=iW p l) hk
    have hmem:=yP.1 (List.getElem_mem hk)
    obtain⟨aO,cF⟩:∃aO,(cG p l)[k]=aO:=⟨_,rfl⟩
    have ec:(cG p l).getD k 0=aO:=by simp[List.getD,hk,cF]
    obtain⟨cc,rT⟩:∃cc:Nat,(cd l aO).cls=cc:=⟨(cd l aO).cls.toNat,by
     rw[cF] at hmem
     have:=(hcs.2 aO hmem.1).cls
     omega⟩
    have Oh:cc<p.dW.toNat:=by
     rw[cF] at hmem
     have:=(hcs.2 aO hmem.1).cls
     omega
    rw[DE,G_ hk (by rw[cF];exact rT),FA,ec,rT] at hR
    rw[cF] at zc hmem
    have su:cc<(tj p l (cG p l) k).length:=by rw[L9];exact Oh
    have cW:=uR su
    rw[EY Oh] at cW
    have W7:∀{env:List D} {x y:E},x.eval env=some (Is (tj p l (cG p l) k))→y.eval env=some (In cc)→(E.cell 0 (.idx x y)).eval env=some (I (kZ l (cG p l) k cc:Int)):=fun hx hy=>by
     have:=AY su hx hy
     rwa [EY Oh] at this
    have hsx:=HN su ((kZ l (cG p l) k cc:Int)+1)
    have afg:cc<((tj p l (cG p l) k).set cc ((kZ l (cG p l) k cc:Int)+1)).length:=by rw[List.length_set];exact su
    have afP:=uR afg
    rw[show((tj p l (cG p l) k).set cc ((kZ l (cG p l) k cc:Int)+1)).getD cc 0=(kZ l (cG p l) k cc:Int)+1 by simp[List.getD,su]] at afP
    have alY:∀{env:List D} {x y:E},x.eval env=some (Is ((tj p l (cG p l) k).set cc ((kZ l (cG p l) k cc:Int)+1)))→y.eval env=some (In cc)→(E.cell 0 (.idx x y)).eval env=some (I ((kZ l (cG p l) k cc:Int)+1)):=fun hx hy=>by
     have:=AY afg hx hy
     rwa [show((tj p l (cG p l) k).set cc ((kZ l (cG p l) k cc:Int)+1)).getD cc 0=(kZ l (cG p l) k cc:Int)+1 by simp[List.getD,su]] at this
    have af3:=Jg (l:=l) (o:=cG p l) (k:=k) (c:=(cc:Int))
    have uT:aO<(nZ p l (kL p l).length).length:=by rw[AW];exact hmem.1
    have hie:=uR uT
    rw[G3 hmem.1] at hie
    have hce:∀{env:List D} {x y:E},x.eval env=some (Is (nZ p l (kL p l).length))→y.eval env=some (In aO)→(E.cell 0 (.idx x y)).eval env=some (I (jm p l aO)):=fun hx hy=>by
     have:=AY uT hx hy
     rwa [G3 hmem.1] at this
    have jC:=rZ (l:=l) hok aO
    have hbp:=FM.1.2 k
    have h78:=c78 (bs:=Px p l (iW p l)) (L:=p.points) hp.points.2 k
    have Ys:D.aj 3 (dM l) (In aO)=some (.ptr [In cc,Is (cd l aO).dH,.bq ((cd l aO).lines.map gL.d)]):=by
     have:=cw hmem.1
     rw[show(cd l aO).d.cells=[I (cd l aO).cls,Is (cd l aO).dH,.bq ((cd l aO).lines.map gL.d)] from rfl,rT] at this
     exact this
    have nD:=CO (xs:=pQ p l (cG p l) k) (x:=⟨(aO:Int),true,-1,e_ p l aO,(k:Int)+1,(kZ l (cG p l) k cc:Int)+1,p.points.getD k 0+jm p l aO⟩) (by rw[vL];omega)
    have heT:D.aj 1 (.sl 1 0 l.length) (In aO)=some (.loc 1 (aO*1)):=eH hmem.1
    repeat' (first|(apply bp;simp only[ai];rfl)|(apply aH;rfl;exact hlk)|(apply aN;rfl)|(apply jI;rfl;rfl;(·first|exact zc.2|exact Y4 hmem.1);simp only[ai];rfl)|(apply aA;rfl;rfl;(·first|exact zc.1|exact Ys|exact heT);simp only[ai];rfl)|(apply Bd;rfl;rfl;(·first|exact cW|exact afP|exact hie);simp only[ai];rfl)|(apply mV;rfl;rfl;exact nD;simp only[ai];rfl)|(apply Ba;rfl;rfl;rfl;exact hsx;simp only[ai];rfl)|(apply aW;rfl;omega;simp only[ai];rfl)|(apply bM;rfl;rfl;omega;simp only[ai];rfl)|(apply aD;(·first|exact W7 rfl rfl|exact alY rfl rfl|exact hce rfl rfl|exact qX rfl (VV rfl rfl rfl rfl) Y3);simp only[ai];rfl)|(apply aD;rfl;simp only[ai];rfl)|(apply aF;rfl;rfl;exact h78;rfl;simp only[ai];rfl)|refine au ?_|(apply av;rfl;rfl)|refine Qav ?_|refine kj rfl ?_)
    exact hR
   ·have hlk:decide (((cG p l).length:Int)<((cG p l).length:Int))=false:=by simp
    have Lk:=vM (p:=p) (l:=l) (n:=l.length)
    repeat' (first|(apply bp;simp only[ai];rfl)|(apply aK;rfl;exact hlk)|(apply ar;rfl;exact ak;simp only[ai];rfl)|(apply aD;rfl;simp only[ai];rfl)|refine au ?_|(apply av;rfl;rfl)|refine Qav ?_|(refine aB (by decide) ?_)|refine kj rfl ?_)
    have hres:results p l=pQ p l (cG p l) (cG p l).length++(fo p l l.length).map (wj p l):=rfl
    refine bf (fun k=>[wu (pQ p l (cG p l) (cG p l).length++((fo p l l.length).take k).map (wj p l)),In k]) (fun _=>True) (fo p l l.length).length ?_ (fun _=>rfl) trivial (fun k hk _ R hR=>?_) (fun _ R=>?_)
    ·rw[List.take_zero,List.map_nil,List.append_nil]
     rfl
    ·have hlk:decide ((k:Int)<((fo p l l.length).length:Int))=true:=by simp;omega
     have hR:=hR trivial
     have hkm:(fo p l l.length)[k]<l.length:=by
      have:=List.getElem_mem hk
      simp only[fo,List.mem_filter,List.mem_range] at this
      exact this.1
     have cW:=kr hk
     have e:((fo p l l.length).take (k+1)).map (wj p l)=((fo p l l.length).take k).map (wj p l)++[wj p l (fo p l l.length)[k]]:=by
      rw[List.take_add_one,List.getElem?_eq_getElem hk,List.map_append]
      rfl
     rw[e,←List.append_assoc] at hR
     have nD:=CO (xs:=pQ p l (cG p l) (cG p l).length++((fo p l l.length).take k).map (wj p l)) (x:=wj p l (fo p l l.length)[k]) (by simp[vL];omega)
     have heT:D.aj 1 (.sl 1 0 l.length) (In (fo p l l.length)[k])=some (.loc 1 ((fo p l l.length)[k]*1)):=eH hkm
     repeat' (first|(apply bp;simp only[ai];rfl)|(apply aH;rfl;exact hlk)|(apply aN;rfl)|(apply jI;rfl;rfl;(·first|exact aaj|exact Y4 hkm);simp only[ai];rfl)|(apply aA;rfl;rfl;(·first|exact cW|exact yI hkm|exact heT);simp only[ai];rfl)|(apply mV;rfl;rfl;exact nD;simp only[ai];rfl)|(apply aW;rfl;omega;simp only[ai];rfl)|(apply aD;(·exact qX rfl (VV rfl rfl rfl rfl) Y3);simp only[ai];rfl)|(apply aD;rfl;simp only[ai];rfl)|refine au ?_|(apply av;rfl;rfl)|refine Qav ?_|refine kj rfl ?_)
     exact hR
    ·have hlk:decide (((fo p l l.length).length:Int)<((fo p l l.length).length:Int))=false:=by simp
     rw[List.take_length]
     repeat' (first|(apply bp;simp only[ai];rfl)|(apply aK;rfl;exact hlk)|(apply aD;rfl;simp only[ai];rfl)|(apply av;rfl;rfl)|refine Qav ?_|(refine aB (by decide) ?_)|refine kj rfl ?_|exact aq rfl rfl)

theorem c29 (hp:p.Ok)(hl:Qbz l)(hok:p.ok=true)(hc:br p l=true)(lU:l.length≤20):aP Tryz.prog 29 (.st bs) [p.d,dM l] (.bh [wu (results p l),I 0]):=
 eN.bD (n:=5) (am0 hp hl hok hc lU) (by simp[eG,rE,tC]) Rv bs
end

section
open Go.Proofs
set_option maxRecDepth 100000
set_option maxHeartbeats 4000000

attribute [local irreducible] gR fV dQ

variable {bs:List D} {p:aL} {c:aS} {l:List aS}

theorem HV {x:List Jz}{i:Nat}(h:i<x.length):D.aj 7 (wu x) (In i)=some (.ptr x[i].d.cells):=b_ h rfl

theorem afL {most:Int}(h1:most<l.length)(h2:l.length≤200):Db l most=false:=by
 simp[Db]
 omega
end

section
open jy (lt)

variable {p:aL} {l:List aS}

/-! ## sums -/

def sg (g:Nat→Int):Nat→Int
 | 0=>0
 | k+1=>sg g k+g k
def pJ (f:Nat→Int):List Nat→Int
 | []=>0
 | a :: r=>f a+pJ f r

theorem TV (f g:Nat→Int):∀n,sg (fun k=>f k+g k) n=sg f n+sg g n
 | 0=>rfl
 | n+1=>by
  have:=TV f g n
  simp only[sg] at *
  omega
theorem J7 {f g:Nat→Int}:∀{n:Nat},(∀k,k<n→f k=g k)→sg f n=sg g n
 | 0,_=>rfl
 | n+1,h=>by rw[sg,sg,J7 fun k hk=>h k (by omega),h n (by omega)]
theorem PM {f:Nat→Int}{b:Int}(h:∀k,0≤f k∧f k≤b):∀n:Nat,0≤sg f n∧sg f n≤b*n
 | 0=>by simp[sg]
 | n+1=>by
  have ih:=PM h n
  have:=h n
  rw[sg,show b*((n+1:Nat):Int)=b*n+b by rw[Int.natCast_add,Int.mul_add];simp]
  omega
theorem PK {f:Nat→Int}(h:∀k,0≤f k){m:Nat}:∀{n:Nat},m≤n→sg f m≤sg f n
 | 0,hn=>by rw[show m=0 by omega];exact Int.le_refl _
 | n+1,hn=>by
  rcases Nat.lt_or_ge n m with h1 | h1
  ·rw[show m=n+1 by omega];exact Int.le_refl _
  ·have:=PK h (m:=m) (n:=n) h1
   have:=h n
   rw[sg]
   omega

theorem JX (f:Nat→Int):∀a b,pJ f (a++b)=pJ f a+pJ f b
 | [],b=>by simp[pJ]
 | x :: a,b=>by
  have:=JX f a b
  simp only[List.cons_append,pJ] at *
  omega
theorem Gd {f:Nat→Int}{a b:List Nat}(h:a.Perm b):pJ f a=pJ f b:=by
 induction h with
 | nil=>rfl
 | cons x _ ih=>simp only[pJ,ih]
 | swap x y l=>simp only[pJ];omega
 | trans _ _ h1 h2=>exact h1.trans h2
theorem Pu (f:Nat→Int)(L:List Nat):∀k,k≤L.length→pJ f (L.take k)=sg (fun k=>f (L.getD k 0)) k
 | 0,_=>by simp[pJ,sg]
 | k+1,h=>by
  have hk:k<L.length:=h
  rw[List.take_add_one,List.getElem?_eq_getElem hk,Option.toList_some,JX,Pu f L k (by omega),sg]
  simp[pJ,List.getD,hk]
theorem JY (f:Nat→Int)(L:List Nat):pJ f L=sg (fun k=>f (L.getD k 0)) L.length:=by
 rw[←Pu f L L.length (Nat.le_refl _),List.take_length]
theorem Pv {f:Nat→Int}(hf:∀x,0≤f x):∀L,0≤pJ f L
 | []=>by simp[pJ]
 | a :: r=>by
  have:=Pv hf r
  have:=hf a
  simp only[pJ]
  omega
theorem HC {f:Nat→Int}(hf:∀x,0≤f x):∀{A B:List Nat},A.Nodup→(∀a,a∈A→a∈B∨f a=0)→pJ f A≤pJ f B
 | [],B,_,_=>Pv hf B
 | a :: A,B,hn,h=>by
  have h1:=List.nodup_cons.1 hn
  rcases h a (List.mem_cons_self ..) with ha | ha
  ·have hp:=List.perm_cons_erase ha
   have ih:=HC hf (A:=A) (B:=B.erase a) h1.2 fun x hx=>by
    rcases h x (List.mem_cons_of_mem _ hx) with h2 | h2
    ·exact .inl ((List.mem_erase_of_ne (fun e:x=a=>h1.1 (by rw[←e];exact hx))).2 h2)
    ·exact .inr h2
   rw[Gd hp]
   simp only[pJ]
   omega
  ·have ih:=HC hf (A:=A) (B:=B) h1.2 fun x hx=>h x (List.mem_cons_of_mem _ hx)
   simp only[pJ]
   omega

theorem PL {L:List Int}(h:∀k,0≤L.getD k 0)(n:Nat):sg (fun k=>L.getD k 0) n≤sg (fun k=>L.getD k 0) L.length:=by
 rcases Nat.lt_or_ge L.length n with h1 | h1
 ·have e:∀m,sg (fun k=>L.getD k 0) (L.length+m)=sg (fun k=>L.getD k 0) L.length:=fun m=>by
   induction m with
   | zero=>rfl
   | succ m ih=>
    rw[←Nat.add_assoc,sg,ih]
    simp[List.getD,List.getElem?_eq_none (show L.length≤L.length+m by omega)]
  have:=e (n-L.length)
  rw[show L.length+(n-L.length)=n by omega] at this
  omega
 ·exact PK h h1

/-! ## what is given -/

def Ev (p:aL)(l:List aS)(k:Nat):Int:=sg (fun k=>p.points.getD k 0+jm p l ((cG p l).getD k 0)) k

theorem abL (hok:p.ok=true):Ev p l (cG p l).length≤sg (fun k=>p.points.getD k 0) p.points.length+sg (fun k=>p.extra.getD k 0) p.extra.length:=by
 have hp:=aL.As hok
 rw[Ev,TV]
 have h1:=PL (L:=p.points) (fun k=>(hp.1.2 k).1) (cG p l).length
 have h2:sg (fun k=>jm p l ((cG p l).getD k 0)) (cG p l).length≤pJ (jm p l) (eF p l):=by
  rw[←JY]
  refine HC (fun x=>(rZ hok x).1) Du fun a _=>?_
  by_cases h:a∈eF p l
  ·exact .inl h
  ·exact .inr (by rw[jm,if_neg h])
 have h3:pJ (jm p l) (eF p l)=sg (fun k=>p.extra.getD k 0) (kL p l).length:=by
  have hpm:((kL p l).map Int.toNat).Perm (eF p l):=by
   have:=(rD (p:=p) (l:=l)).map Int.toNat
   rw[List.map_map] at this
   simpa[Function.comp_def] using this
  rw[←Gd hpm,JY,List.length_map]
  refine J7 fun k hk=>?_
  rw[←DC hk]
  simp[List.getD,hk]
 have h4:=PL (L:=p.extra) (fun k=>(hp.2.2 k).1) (kL p l).length
 omega

/-! ## the order -/

theorem GX {f:Nat→Bool}:∀n,fst f n=-1∨0≤fst f n
 | 0=>.inl rfl
 | n+1=>by
  have:=GX (f:=f) n
  rw[fst]
  split <;> first | omega | (split <;> omega)

theorem Ng {k:Nat}(h:gl p l k=true):kX p (cd l k)=-1:=by
 simp only[gl,decide_eq_true_eq] at h
 rcases GX (f:=stops p (cd l k)) p.n with h1 | h1
 ·exact h1
 ·unfold kX at h
  omega

theorem Tt {i:Nat}(h:i+1<(cG p l).length):e_ p l ((cG p l)[i]'(by omega))≤e_ p l (cG p l)[i+1]:=by
 have hs:=List.pairwise_iff_getElem.1 (show(cG p l).Pairwise fun a b=>jZ p l a b=true from oG _) i (i+1) (by omega) h (by omega)
 rcases Int.lt_trichotomy (e_ p l ((cG p l)[i]'(by omega))) (e_ p l (cG p l)[i+1]) with h1 | h1 | h1
 ·omega
 ·omega
 ·rw[WE (by omega),decide_eq_true_eq] at hs
  omega

theorem Ud {i:Nat}(h:i+1<(fo p l l.length).length):(fo p l l.length)[i]'(by omega)<(fo p l l.length)[i+1]:=
 List.pairwise_iff_getElem.1 (show(fo p l l.length).Pairwise (·< ·) from List.Pairwise.filter _ List.pairwise_lt_range) i (i+1) (by omega) h (by omega)

def qa (p:aL)(l:List aS):List Nat:=cG p l++fo p l l.length

theorem zM:(qa p l).length=l.length:=by
 have h1:=(List.filter_append_perm (gl p l) (List.range l.length)).length_eq
 rw[qa,List.length_append,uw]
 simpa[fW,fo] using h1
theorem Fj {x:Nat}(h:x∈qa p l):x<l.length:=by
 rcases List.mem_append.1 h with h | h
 ·exact(yP.1 h).1
 ·simp[fo] at h
  exact h.1
theorem Pa:(qa p l).Nodup:=by
 rw[qa,List.nodup_append]
 refine⟨Du,List.Pairwise.filter _ List.nodup_range,fun a ha b hb e=>?_⟩
 have h1:=(yP.1 ha).2
 simp[fo] at hb
 rw[e,hb.2] at h1
 cases h1

theorem Kg:(results p l).length=l.length:=by
 have:=zM (p:=p) (l:=l)
 rw[qa,List.length_append] at this
 simp[results,this]
theorem uo {i:Nat}(h:i<(cG p l).length)(h2:i<(results p l).length):(results p l)[i]=FA p l (cG p l) i:=by
 simp only[results]
 rw[List.getElem_append_left (by simpa using h)]
 simp
theorem yA {i:Nat}(h:(cG p l).length≤i)(h2:i<(results p l).length)(h3:i-(cG p l).length<(fo p l l.length).length):(results p l)[i]=wj p l (fo p l l.length)[i-(cG p l).length]:=by
 simp only[results]
 rw[List.getElem_append_right (by simpa using h)]
 simp
end

section
open Go.Proofs
set_option maxRecDepth 100000
set_option maxHeartbeats 8000000

attribute [local irreducible] gR fV dQ

variable {bs:List D} {p:aL} {c:aS} {l:List aS}

abbrev Bs (l:List Bool):D:=.bq (l.map B)
theorem N0 {X:List Bool}{i:Nat}(h:i<X.length):D.idx (Bs X) (In i)=some (B (X.getD i false)):=by
 simp[D.idx,h,List.getD]
theorem TX {X:List Bool}{i:Nat}(h:i<X.length)(y:Bool):D.set (Bs X) (In i) 0 (B y)=some (Bs (X.set i y)):=by
 simp[D.set,h,D.putAt,D.one]
theorem V3 {x y:E}{env:List D}{X:List Bool}{i:Nat}(h:i<X.length)(hx:x.eval env=some (Bs X))(hy:y.eval env=some (In i)):(E.cell 0 (.idx x y)).eval env=some (B (X.getD i false)):=by
 simp only[E.eval,hx,hy,Option.bind_some,N0 h]
 rfl
theorem aar {n:Nat}(h:n≤1000):D.rep 1 (I n) (B false)=some (Bs (List.replicate n false)):=by
 simp only[D.rep,Int.toNat_natCast,List.map_replicate]
 rw[if_pos ⟨by omega,by omega,Nat.le_trans h (by decide)⟩,show Bs (List.replicate n false)=.bq ((List.replicate n false).map B) from rfl,List.map_replicate]

def ou (p:aL)(l:List aS)(i:Nat):List Bool:=(List.range l.length).map fun j=>decide (j∈(qa p l).take i)
theorem Gl {i:Nat}:(ou p l i).length=l.length:=by simp[ou]
theorem M6:ou p l 0=List.replicate l.length false:=by
 refine List.ext_getElem (by simp[ou]) fun k h1 h2=>?_
 simp[ou]
theorem Dg {i:Nat}(h:i<(qa p l).length):ou p l (i+1)=(ou p l i).set (qa p l)[i] true:=by
 refine List.ext_getElem (by simp[ou]) fun k h1 h2=>?_
 rw[List.getElem_set]
 simp only[ou,List.getElem_map,List.getElem_range]
 by_cases hk:(qa p l)[i]=k
 ·rw[if_pos hk,decide_eq_true ((Qdq h).2 (.inr hk.symm))]
 ·rw[if_neg hk]
  have hn:¬k=(qa p l)[i]:=fun e=>hk e.symm
  simp only[Qdq h,hn,or_false]
theorem Gk {i:Nat}(h:i<(qa p l).length):(ou p l i).getD (qa p l)[i] false=false:=by
 have hj:=Fj (List.getElem_mem h)
 have:(qa p l)[i]∉(qa p l).take i:=by
  intro hm
  obtain⟨k,hk,e⟩:=List.mem_iff_getElem.1 hm
  rw[List.getElem_take] at e
  have hk2:k<i:=by
   have:=List.length_take_le i (qa p l)
   omega
  exact List.pairwise_iff_getElem.1 (Pa (p:=p) (l:=l)) k i (by omega) h hk2 e
 simp[ou,List.getD,hj,this]

theorem VN (hok:p.ok=true)(k:Nat):0≤Ev p l k∧Ev p l k≤2000*k:=by
 have hp:=aL.As hok
 exact PM (b:=2000) (fun k=>by
  have h1:=hp.1.2 k
  have h2:=rZ (l:=l) hok ((cG p l).getD k 0)
  omega) k

theorem Pt {L:List Int}{k:Nat}(h:k<L.length):D.aj 1 (Is L) (In k)=some (.ptr [I (L.getD k 0)]):=iK h

def xG (p:aL)(l:List aS)(i:Nat):Int:=Ev p l (min i (cG p l).length)
def tu (p:aL)(l:List aS)(i:Nat):List Int:=tj p l (cG p l) (min i (cG p l).length)

section
variable {i:Nat}
theorem R6 (h:i<(cG p l).length):xG p l (i+1)=xG p l i+(p.points.getD i 0+jm p l ((cG p l).getD i 0)):=by
 rw[xG,xG,Nat.min_eq_left (by omega),Nat.min_eq_left (by omega),Ev,sg]
 rfl
theorem R7 (h:(cG p l).length≤i):xG p l (i+1)=xG p l i:=by
 rw[xG,xG,Nat.min_eq_right (by omega),Nat.min_eq_right (by omega)]
theorem YB (hok:p.ok=true)(hL:l.length≤200):0≤xG p l i∧xG p l i≤1000000:=by
 have h1:=VN (l:=l) hok (min i (cG p l).length)
 have h2:=yB (p:=p) (l:=l)
 have h3:min i (cG p l).length≤200:=by omega
 unfold xG
 omega
theorem Wn:(tu p l i).length=p.dW.toNat:=L9
theorem L_ {c:Nat}(h:c<p.dW.toNat)(hi:i<(cG p l).length):(tu p l i).getD c 0=kZ l (cG p l) i c:=by
 rw[tu,Nat.min_eq_left (by omega),EY h]
theorem SG {c:Nat}(h:i<(cG p l).length)(hc:(cd l (cG p l)[i]).cls=c):tu p l (i+1)=(tu p l i).set c ((kZ l (cG p l) i c:Int)+1):=by
 rw[tu,tu,Nat.min_eq_left (by omega),Nat.min_eq_left (by omega)]
 exact G_ h hc
theorem SH (h:(cG p l).length≤i):tu p l (i+1)=tu p l i:=by
 rw[tu,tu,Nat.min_eq_right (by omega),Nat.min_eq_right (by omega)]
end


theorem c10 (hk:aP Tryz.prog 17 (.st bs) [] (B true))(hp:p.Ok)(hl:Qbz l):bk Tryz.prog 10 (.st bs) [p.d,dM l] (B true) (.st bs):=by
 have pZ:=ZT (bs:=bs) (l:=l) (most:=20) hl.2
 have lU:=ZS (bs:=bs) hp
 cases hok:p.ok
 ·rw[hok] at lU
  refine aaR.W rfl ?_
  unfold u10
  simp only[aC,aG,List.cons_append,List.nil_append]
  repeat' (first|(apply bp;simp only[ai];rfl)|(apply iF;rfl;exact Bool.or_true _)|(apply aH;rfl;exact rfl)|(apply aN;rfl)|(apply aD;rfl;simp only[ai];rfl)|(apply aF;rfl;rfl;(·first|exact sB|exact pZ|exact lU|exact hk);rfl;simp only[ai];rfl)|(apply bL;rfl)|exact aq rfl rfl|(intro hz;(try simp only[bA] at hz)))
 rw[hok] at lU
 have rf:=c24 (bs:=bs) hp hok hl
 cases hc:br p l
 ·rw[hc] at rf
  refine aaR.W rfl ?_
  unfold u10
  simp only[aC,aG,List.cons_append,List.nil_append]
  repeat' (first|(apply bp;simp only[ai];rfl)|(apply aH;rfl;exact Bool.or_true _)|(apply aN;rfl)|(apply aD;rfl;simp only[ai];rfl)|(apply aF;rfl;rfl;(·first|exact sB|exact pZ|exact lU|exact rf|exact hk);rfl;simp only[ai];rfl)|(apply bL;rfl)|exact aq rfl rfl|(intro hz;(try simp only[bA] at hz)))
 rw[hc] at rf
 have hL:=(cr hc).1
 by_cases al8:l.length≤20
 case neg=>
  have hsf:Db l 20=false:=afL (by omega) (by omega)
  rw[hsf] at pZ
  refine aaR.W rfl ?_
  unfold u10
  simp only[aC,aG,List.cons_append,List.nil_append]
  repeat' (first|(apply bp;simp only[ai];rfl)|(apply iF;rfl;(·first|exact rfl|exact Bool.or_true _))|(apply aH;rfl;exact rfl)|(apply aN;rfl)|(apply aD;rfl;simp only[ai];rfl)|(apply aF;rfl;rfl;(·first|exact sB|exact pZ|exact hk);rfl;simp only[ai];rfl)|(apply bL;rfl)|exact aq rfl rfl|(intro hz;(try simp only[bA] at hz)))
 have h29:=c29 (bs:=bs) hp hl hok hc al8
 have hh:=aL.gi hok
 have FM:=aL.As hok
 have hrl:=Kg (p:=p) (l:=l)
 have hle:=yB (p:=p) (l:=l)
 have alX:0≤p.dW:=by omega
 have U3:D.rep 8 (I p.dW) (I 0)=some (Is (List.replicate p.dW.toNat 0)):=by
  have:=Dv (n:=p.dW.toNat) (by omega)
  rwa [show((p.dW.toNat:Nat):Int)=p.dW by omega] at this
 have afu:=aar (n:=l.length) (by omega)
 have hlr:D.aR (wu (results p l))=some (I l.length):=by rw[←hrl];exact ak
 have hne:(false||((l.length:Int) != (l.length:Int)))=false:=by simp
 refine aaR.W rfl ?_
 unfold u10
 simp only[aC,aG,List.cons_append,List.nil_append]
 repeat' (first|(apply bp;simp only[ai];rfl)|(apply aK;rfl;exact hne)|(apply aN;rfl)|(apply ar;rfl;(·first|exact hlr|exact ak);simp only[ai];rfl)|(apply F9;rfl;(·first|exact afu|exact U3);simp only[ai];rfl)|(apply aD;rfl;simp only[ai];rfl)|(apply aF;rfl;rfl;(·first|exact sB|exact pZ|exact lU|exact rf|exact h29|exact hk);rfl;simp only[ai];rfl)|(apply bL;rfl)|refine au ?_|(apply aX;rfl;all_goals (intro hz;(try simp only[bA] at hz);first|(exact absurd hz (by decide))|(exfalso;omega)|skip))|exact aq rfl rfl|(intro hz;(try simp only[bA] at hz)))
 refine bf (fun i=>[I (xG p l i),In i,Bs (ou p l i),Is (tu p l i)]) (fun _=>True) l.length ?_ (fun _=>rfl) trivial (fun i hi _ R hR=>?_) (fun _ R=>?_)
 ·rw[M6,tu,Nat.zero_min,G9,xG,Nat.zero_min]
  rfl
 ·have gH:decide ((i:Int)<(l.length:Int))=true:=by simp;omega
  have hR:=hR trivial
  have hir:i<(results p l).length:=by omega
  have uT:=HV hir
  rcases Nat.lt_or_ge i (cG p l).length with him | him
  ·-- a aO aiY counts
   obtain⟨aO,wQ⟩:∃aO,(cG p l)[i]=aO:=⟨_,rfl⟩
   have mU:i<(qa p l).length:=by rw[zM];omega
   have cF:(qa p l)[i]=aO:=by simp only[qa];rw[List.getElem_append_left him];exact wQ
   have dG:aO<l.length:=by rw[←cF];exact Fj (List.getElem_mem mU)
   have CC:=Gk mU
   rw[cF] at CC
   have su:aO<(ou p l i).length:=by rw[Gl];exact dG
   have cW:=N0 su
   rw[CC] at cW
   have W7:∀{env:List D} {x y:E},x.eval env=some (Bs (ou p l i))→y.eval env=some (In aO)→(E.cell 0 (.idx x y)).eval env=some (B false):=fun hx hy=>by
    have:=V3 su hx hy
    rwa [CC] at this
   have uV:=TX su true
   have rT:=(cr hc).2 aO dG
   have CG:=c36 (bs:=bs) hp (hl.1 (cd l aO) (by simp[cd,List.getD,dG]))
   have hco:fe p (cd l aO)=true:=by
    have:=List.all_eq_true.1 (by simp only[br,Bool.and_eq_true] at hc;exact hc.2) l[aO] (List.getElem_mem dG)
    simpa[cd,List.getD,dG] using this
   rw[hok,hco] at CG
   replace CG:aP Tryz.prog 36 (.st bs) [p.d,(cd l aO).d] (.bh [I (kX p (cd l aO)),I 0]):=CG
   have h23:=tE (bs:=bs) hp hl hok hc dG
   have c1:(decide ((aO:Int)<0)||decide ((aO:Int)≥(l.length:Int))||false)=false:=by simp;omega
   have zc:=(yP.1 (List.getElem_mem him)).2
   rw[wQ] at zc
   have ec:(cG p l).getD i 0=aO:=by simp[List.getD,him,wQ]
   rw[uo him hir,FA,ec] at uT
   rw[Ng zc] at CG
   have Yr:=rT.cls
   obtain⟨cc,Yt⟩:∃cc:Nat,(cd l aO).cls=cc:=⟨(cd l aO).cls.toNat,by omega⟩
   have Oh:cc<p.dW.toNat:=by omega
   have af3:=Jg (l:=l) (o:=cG p l) (k:=i) (c:=(cc:Int))
   rw[Yt] at uT
   rw[R6 him,ec,Dg mU,cF,SG him (by rw[wQ];exact Yt)] at hR
   have jC:=rZ (l:=l) hok aO
   have hbp:=FM.1.2 i
   have hbg:=YB (p:=p) (l:=l) (i:=i) hok hL
   generalize p.points.getD i 0=pts at uT hR hbp
   replace uT:D.aj 7 (wu (results p l)) (In i)=some (.ptr [In aO,B true,I (-1),I (e_ p l aO),I ((i:Int)+1),I ((kZ l (cG p l) i cc:Int)+1),I (pts+jm p l aO)]):=uT
   have xW:cc<(tu p l i).length:=by rw[Wn];exact Oh
   have hiy:=uR xW
   rw[L_ Oh him] at hiy
   have GO:∀{env:List D} {x y:E},x.eval env=some (Is (tu p l i))→y.eval env=some (In cc)→(E.cell 0 (.idx x y)).eval env=some (I (kZ l (cG p l) i cc:Int)):=fun hx hy=>by
    have:=AY xW hx hy
    rwa [L_ Oh him] at this
   have hsy:=HN xW ((kZ l (cG p l) i cc:Int)+1)
   have aff:cc<((tu p l i).set cc ((kZ l (cG p l) i cc:Int)+1)).length:=by rw[List.length_set];exact xW
   have abf:=uR aff
   rw[show((tu p l i).set cc ((kZ l (cG p l) i cc:Int)+1)).getD cc 0=(kZ l (cG p l) i cc:Int)+1 by simp[List.getD,xW]] at abf
   have af2:∀{env:List D} {x y:E},x.eval env=some (Is ((tu p l i).set cc ((kZ l (cG p l) i cc:Int)+1)))→y.eval env=some (In cc)→(E.cell 0 (.idx x y)).eval env=some (I ((kZ l (cG p l) i cc:Int)+1)):=fun hx hy=>by
    have:=AY aff hx hy
    rwa [show((tu p l i).set cc ((kZ l (cG p l) i cc:Int)+1)).getD cc 0=(kZ l (cG p l) i cc:Int)+1 by simp[List.getD,xW]] at this
   have Ys:D.aj 3 (dM l) (In aO)=some (.ptr [In cc,Is (cd l aO).dH,.bq ((cd l aO).lines.map gL.d)]):=by
    have:=cw dG
    rw[show(cd l aO).d.cells=[I (cd l aO).cls,Is (cd l aO).dH,.bq ((cd l aO).lines.map gL.d)] from rfl,Yt] at this
    exact this
   have al0:(cd l aO).d=.agg [In cc,Is (cd l aO).dH,.bq ((cd l aO).lines.map gL.d)]:=by
    rw[aS.d,aS.cs,Yt]
   rw[al0] at CG
   cases i with
   | zero=>
    repeat' (first|(apply bp;simp only[ai];rfl)|(apply ir;rfl;exact rfl)|(apply aH;rfl;exact gH)|(apply aK;rfl;(·first|(simp;done)|(simp;omega)))|(apply aN;rfl)|(apply aA;rfl;rfl;(·first|exact uT|exact Ys);simp only[ai];rfl)|(apply ar;rfl;(·first|exact hlr|exact ak);simp only[ai];rfl)|(apply Bd;rfl;rfl;(·first|exact cW|exact hiy|exact abf);simp only[ai];rfl)|(apply Ba;rfl;rfl;rfl;(·first|exact uV|exact hsy);simp only[ai];rfl)|(apply aW;rfl;omega;simp only[ai];rfl)|(apply bM;rfl;rfl;omega;simp only[ai];rfl)|(apply aD;(·first|exact W7 rfl rfl|exact GO rfl rfl|exact af2 rfl rfl);simp only[ai];rfl)|(apply aD;rfl;simp only[ai];rfl)|(apply aF;rfl;rfl;(·first|exact CG|exact h23);rfl;simp only[ai];rfl)|(apply bL;rfl)|refine au ?_|(apply av;rfl;rfl)|refine Qav ?_|refine kj rfl ?_|exact aq rfl rfl|(intro hz;(try simp only[bA] at hz)))
    exact hR
   | succ j=>
    have Zz:j<(results p l).length:=by omega
    have Vi:=HV Zz
    rw[uo (by omega) Zz,FA] at Vi
    have hsub:D.bin .sub .int (In (j+1)) (I 1)=some (In j):=by
     show some (I (IntKind.i64.wrap (((j+1:Nat):Int)-1)))=_
     rw[show((j+1:Nat):Int)-1=(j:Int) by omega,wrap64 (by omega)]
    have htg:=Tt him
    rw[wQ] at htg
    have ej:(cG p l).getD j 0=(cG p l)[j]'(by omega):=by simp[List.getD,show j<(cG p l).length by omega]
    rw[ej] at Vi
    repeat' (first|(apply bp;simp only[ai];rfl)|(apply aH;rfl;exact gH)|(apply aK;rfl;(·first|(simp;done)|(simp;omega)))|(apply aN;rfl)|(apply aA;rfl;rfl;(·first|exact uT|exact Ys|exact Vi);simp only[ai];rfl)|(apply ar;rfl;(·first|exact hlr|exact ak);simp only[ai];rfl)|(apply Bd;rfl;rfl;(·first|exact cW|exact hiy|exact abf);simp only[ai];rfl)|(apply Ba;rfl;rfl;rfl;(·first|exact uV|exact hsy);simp only[ai];rfl)|(apply eX;rfl;rfl;exact hsub;simp only[ai];rfl)|(apply aW;rfl;omega;simp only[ai];rfl)|(apply bM;rfl;rfl;omega;simp only[ai];rfl)|(apply aD;(·first|exact W7 rfl rfl|exact GO rfl rfl|exact af2 rfl rfl);simp only[ai];rfl)|(apply aD;rfl;simp only[ai];rfl)|(apply aF;rfl;rfl;(·first|exact CG|exact h23);rfl;simp only[ai];rfl)|(apply bL;rfl)|(apply bg;rfl)|refine au ?_|(apply av;rfl;rfl)|refine Qav ?_|refine kj rfl ?_|exact aq rfl rfl|(intro hz;(try simp only[bA] at hz)))
    exact hR
  ·-- one aiY ar8 not
   have hio:i-(cG p l).length<(fo p l l.length).length:=by
    have:=zM (p:=p) (l:=l)
    rw[qa,List.length_append] at this
    omega
   obtain⟨aO,wQ⟩:∃aO,(fo p l l.length)[i-(cG p l).length]=aO:=⟨_,rfl⟩
   have mU:i<(qa p l).length:=by rw[zM];omega
   have cF:(qa p l)[i]=aO:=by simp only[qa];rw[List.getElem_append_right him];exact wQ
   have dG:aO<l.length:=by rw[←cF];exact Fj (List.getElem_mem mU)
   have CC:=Gk mU
   rw[cF] at CC
   have su:aO<(ou p l i).length:=by rw[Gl];exact dG
   have cW:=N0 su
   rw[CC] at cW
   have W7:∀{env:List D} {x y:E},x.eval env=some (Bs (ou p l i))→y.eval env=some (In aO)→(E.cell 0 (.idx x y)).eval env=some (B false):=fun hx hy=>by
    have:=V3 su hx hy
    rwa [CC] at this
   have uV:=TX su true
   have rT:=(cr hc).2 aO dG
   have CG:=c36 (bs:=bs) hp (hl.1 (cd l aO) (by simp[cd,List.getD,dG]))
   have hco:fe p (cd l aO)=true:=by
    have:=List.all_eq_true.1 (by simp only[br,Bool.and_eq_true] at hc;exact hc.2) l[aO] (List.getElem_mem dG)
    simpa[cd,List.getD,dG] using this
   rw[hok,hco] at CG
   replace CG:aP Tryz.prog 36 (.st bs) [p.d,(cd l aO).d] (.bh [I (kX p (cd l aO)),I 0]):=CG
   have h23:=tE (bs:=bs) hp hl hok hc dG
   have c1:(decide ((aO:Int)<0)||decide ((aO:Int)≥(l.length:Int))||false)=false:=by simp;omega
   have zc:gl p l aO=false:=by
    have:=List.getElem_mem hio
    rw[wQ] at this
    simp[fo] at this
    exact this.2
   have hge:0≤kX p (cd l aO):=by
    simp only[gl,decide_eq_false_iff_not] at zc
    omega
   rw[yA him hir hio,wQ,wj] at uT
   rw[R7 him,Dg mU,cF,SH him] at hR
   cases i with
   | zero=>
    repeat' (first|(apply bp;simp only[ai];rfl)|(apply ir;rfl;exact rfl)|(apply aH;rfl;(·first|exact gH|exact rfl))|(apply aK;rfl;(·first|(simp;done)|(simp;omega)))|(apply aN;rfl)|(apply aA;rfl;rfl;(·first|exact uT|exact cw dG);simp only[ai];rfl)|(apply ar;rfl;(·first|exact hlr|exact ak);simp only[ai];rfl)|(apply Bd;rfl;rfl;exact cW;simp only[ai];rfl)|(apply Ba;rfl;rfl;rfl;exact uV;simp only[ai];rfl)|(apply aW;rfl;omega;simp only[ai];rfl)|(apply aD;exact W7 rfl rfl;simp only[ai];rfl)|(apply aD;rfl;simp only[ai];rfl)|(apply aF;rfl;rfl;(·first|exact CG|exact h23);rfl;simp only[ai];rfl)|(apply bL;rfl)|refine au ?_|(apply av;rfl;rfl)|refine Qav ?_|refine kj rfl ?_|exact aq rfl rfl|(intro hz;(try simp only[bA] at hz)))
    exact hR
   | succ j=>
    have Zz:j<(results p l).length:=by omega
    have Vi:=HV Zz
    have hsub:D.bin .sub .int (In (j+1)) (I 1)=some (In j):=by
     show some (I (IntKind.i64.wrap (((j+1:Nat):Int)-1)))=_
     rw[show((j+1:Nat):Int)-1=(j:Int) by omega,wrap64 (by omega)]
    rcases Nat.lt_or_ge j (cG p l).length with hjm | hjm
    ·rw[uo hjm Zz,FA] at Vi
     repeat' (first|(apply bp;simp only[ai];rfl)|(apply ir;rfl;exact Bool.and_false _)|(apply aH;rfl;(·first|exact gH|exact rfl))|(apply aK;rfl;(·first|(simp;done)|(simp;omega)))|(apply aN;rfl)|(apply aA;rfl;rfl;(·first|exact uT|exact cw dG|exact Vi);simp only[ai];rfl)|(apply ar;rfl;(·first|exact hlr|exact ak);simp only[ai];rfl)|(apply Bd;rfl;rfl;exact cW;simp only[ai];rfl)|(apply Ba;rfl;rfl;rfl;exact uV;simp only[ai];rfl)|(apply eX;rfl;rfl;exact hsub;simp only[ai];rfl)|(apply aW;rfl;omega;simp only[ai];rfl)|(apply aD;exact W7 rfl rfl;simp only[ai];rfl)|(apply aD;rfl;simp only[ai];rfl)|(apply aF;rfl;rfl;(·first|exact CG|exact h23);rfl;simp only[ai];rfl)|(apply bL;rfl)|(apply bg;rfl)|refine au ?_|(apply av;rfl;rfl)|refine Qav ?_|refine kj rfl ?_|exact aq rfl rfl|(intro hz;(try simp only[bA] at hz)))
     exact hR
    ·have hjo:j-(cG p l).length<(fo p l l.length).length:=by omega
     rw[yA hjm Zz hjo,wj] at Vi
     have hog:=Ud (p:=p) (l:=l) (i:=j-(cG p l).length) (by omega)
     have eo:(fo p l l.length)[j-(cG p l).length+1]'(by omega)=aO:=by
      rw[←wQ]
      congr 1
      omega
     rw[eo] at hog
     repeat' (first|(apply bp;simp only[ai];rfl)|(apply ir;rfl;exact Bool.and_false _)|(apply aH;rfl;(·first|exact gH|exact rfl))|(apply aK;rfl;(·(simp;omega)))|(apply aN;rfl)|(apply aA;rfl;rfl;(·first|exact uT|exact cw dG|exact Vi);simp only[ai];rfl)|(apply ar;rfl;(·first|exact hlr|exact ak);simp only[ai];rfl)|(apply Bd;rfl;rfl;exact cW;simp only[ai];rfl)|(apply Ba;rfl;rfl;rfl;exact uV;simp only[ai];rfl)|(apply eX;rfl;rfl;exact hsub;simp only[ai];rfl)|(apply aW;rfl;omega;simp only[ai];rfl)|(apply aD;exact W7 rfl rfl;simp only[ai];rfl)|(apply aD;rfl;simp only[ai];rfl)|(apply aF;rfl;rfl;(·first|exact CG|exact h23);rfl;simp only[ai];rfl)|(apply bL;rfl)|(apply bg;rfl)|refine au ?_|(apply av;rfl;rfl)|refine Qav ?_|refine kj rfl ?_|exact aq rfl rfl|(intro hz;(try simp only[bA] at hz)))
     exact hR
 ·have hlf:decide ((l.length:Int)<(l.length:Int))=false:=by simp
  have tM:∀k,0≤sg (fun k=>p.points.getD k 0) k∧sg (fun k=>p.points.getD k 0) k≤1000*k:=fun k=>PM (b:=1000) (fun k=>FM.1.2 k) k
  have tK:∀k,0≤sg (fun k=>p.extra.getD k 0) k∧sg (fun k=>p.extra.getD k 0) k≤1000*k:=fun k=>PM (b:=1000) (fun k=>FM.2.2 k) k
  have hgv:=abL (p:=p) (l:=l) hok
  have hgi:xG p l l.length=Ev p l (cG p l).length:=by rw[xG,Nat.min_eq_right hle]
  rw[←hgi] at hgv
  repeat' (first|(apply bp;simp only[ai];rfl)|(apply aK;rfl;exact hlf)|(apply ar;rfl;exact hlr;simp only[ai];rfl)|(apply aD;rfl;simp only[ai];rfl)|refine au ?_|(apply av;rfl;rfl)|refine Qav ?_|(refine aB (by decide) ?_)|refine kj rfl ?_)
  refine bf (fun k=>[I (sg (fun k=>p.points.getD k 0) k),In k]) (fun _=>True) p.points.length rfl (fun _=>rfl) trivial (fun k hk _ R hR=>?_) (fun _ R=>?_)
  ·have hlk:decide ((k:Int)<(p.points.length:Int))=true:=by simp;omega
   have hR:=hR trivial
   have h1:=tM k
   have h2:=FM.1.2 k
   have h3:=FM.1.1
   rw[sg] at hR
   repeat' (first|(apply bp;simp only[ai];rfl)|(apply aH;rfl;exact hlk)|(apply aA;rfl;rfl;exact Pt hk;simp only[ai];rfl)|(apply ar;rfl;exact ak;simp only[ai];rfl)|(apply aW;rfl;omega;simp only[ai];rfl)|(apply bM;rfl;rfl;omega;simp only[ai];rfl)|(apply aD;rfl;simp only[ai];rfl)|refine au ?_|(apply av;rfl;rfl)|refine Qav ?_|refine kj rfl ?_)
   exact hR
  ·have hlk:decide ((p.points.length:Int)<(p.points.length:Int))=false:=by simp
   repeat' (first|(apply bp;simp only[ai];rfl)|(apply aK;rfl;exact hlk)|(apply ar;rfl;exact ak;simp only[ai];rfl)|(apply aD;rfl;simp only[ai];rfl)|refine au ?_|(apply av;rfl;rfl)|refine Qav ?_|(refine aB (by decide) ?_)|refine kj rfl ?_)
   refine bf (fun k=>[I (sg (fun k=>p.points.getD k 0) p.points.length+sg (fun k=>p.extra.getD k 0) k),In k]) (fun _=>True) p.extra.length ?_ (fun _=>rfl) trivial (fun k hk _ R hR=>?_) (fun _ R=>?_)
   ·rw[show sg (fun k=>p.extra.getD k 0) 0=0 from rfl,Int.add_zero]
    rfl
   ·have hlk:decide ((k:Int)<(p.extra.length:Int))=true:=by simp;omega
    have hR:=hR trivial
    have h1:=tM p.points.length
    have h2:=tK k
    have h3:=FM.2.2 k
    have h4:=FM.1.1
    have h5:=FM.2.1
    rw[sg,←Int.add_assoc] at hR
    repeat' (first|(apply bp;simp only[ai];rfl)|(apply aH;rfl;exact hlk)|(apply aA;rfl;rfl;exact Pt hk;simp only[ai];rfl)|(apply ar;rfl;exact ak;simp only[ai];rfl)|(apply aW;rfl;omega;simp only[ai];rfl)|(apply bM;rfl;rfl;omega;simp only[ai];rfl)|(apply aD;rfl;simp only[ai];rfl)|refine au ?_|(apply av;rfl;rfl)|refine Qav ?_|refine kj rfl ?_)
    exact hR
   ·have hlk:decide ((p.extra.length:Int)<(p.extra.length:Int))=false:=by simp
    repeat' (first|(apply bp;simp only[ai];rfl)|(apply aK;rfl;exact hlk)|(apply ar;rfl;exact ak;simp only[ai];rfl)|(apply aD;rfl;simp only[ai];rfl)|(apply aF;rfl;rfl;exact hk;rfl;simp only[ai];rfl)|(apply bg;rfl)|(apply av;rfl;rfl)|refine Qav ?_|(refine aB (by decide) ?_)|refine kj rfl ?_|exact aq rfl rfl|(apply aq;rfl;first|exact rfl|(refine bH ?_)|(refine bF ?_)|(refine bG ?_))|(intro hz;(try simp only[bA] at hz)))
    simp
    exact hgv
end
end Go.Am.Sc
