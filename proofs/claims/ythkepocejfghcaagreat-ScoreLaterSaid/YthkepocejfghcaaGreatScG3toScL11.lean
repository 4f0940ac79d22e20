/-
  Several texts, one behind the other.
-/
import Derived.Test.YthkepocejfghcaaGreatScC1toScShelf
import Derived.Test.YthkepocejfghcaaGreatScT3toScG2
import Derived.Test.YthkepocejfghcaaGreatAmApp
set_option linter.unusedSimpArgs false
set_option linter.unusedVariables false
/-
 Cards in the store,one of them with its lines in the store as well: what they melt to.
-/
namespace Go.Am.Sc

theorem apph_new {α:Type}{d:α→D}{enc:α→List D}{bs:List D}{e:TypeId}{sz bytes:Nat}{xs:List α}(hd:∀x,(d x).cells=enc x)(hsz:∀x,(enc x).length=sz)(ho:∀x,(enc x).all (·.one)=true)(h0:xs≠[])(hb:xs.length*bytes≤140737488355328)(hm:xs.length≤maxLen) :
  D.apph e sz bytes (.st bs) .snil (.lst (xs.map d))=some (.st (bs++[.blk e sz (xs.flatMap enc)]))∧D.apps (.st bs) .snil (.lst (xs.map d))=some (.sl bs.length 0 xs.length):=by
 have hc:cellsL (xs.map d)=xs.flatMap enc:=by
  simp only[cellsL,List.flatMap_map,hd]
 have hac:allCells sz (xs.map d)=true:=by
  simp only[allCells,List.all_map,List.all_eq_true,Function.comp]
  exact fun x _=>by simp[hd,hsz]
 have hone:(xs.flatMap enc).all (·.one)=true:=by
  rw[List.all_eq_true]
  intro y hy
  obtain⟨x,_,hx⟩:=List.mem_flatMap.1 hy
  exact List.all_eq_true.1 (ho x) y hx
 have hne:xs.map d≠[]:=by simpa using h0
 have hlen:xs.length≠0:=by simpa using h0
 refine⟨?_,?_⟩
 ·simp only[D.apph,D.asL,hc,hac,hone,if_neg hne,List.length_map]
  rw[if_pos ⟨hb,hm,trivial,trivial⟩]
 ·simp only[D.apps,D.cnt,List.length_map,if_neg hlen]

theorem chunks_flat {α:Type}{enc:α→List D}{sz:Nat}(hsz:∀x,(enc x).length=sz):∀xs:List α,chunks sz xs.length (xs.flatMap enc)=xs.map enc
 | []=>rfl
 | x :: xs=>by
  rw[List.length_cons,chunks,List.flatMap_cons,List.take_append_of_le_length (by rw[hsz];exact Nat.le_refl _),List.drop_append_of_le_length (by rw[hsz];exact Nat.le_refl _)]
  rw[List.take_of_length_le (by rw[hsz];exact Nat.le_refl _),List.drop_eq_nil_of_le (by rw[hsz];exact Nat.le_refl _),List.nil_append,chunks_flat hsz xs,List.map_cons]

theorem meltL_append {f:D→Option D}:∀{a a' b b':List D},meltL f a=some a'→meltL f b=some b'→meltL f (a++b)=some (a'++b')
 | [],_,b,b',h,h2=>by cases h;exact h2
 | x :: a,_,b,b',h,h2=>by
  simp only[meltL,Option.bind_eq_some_iff,Option.map_eq_some_iff] at h
  obtain⟨y,h3,r,h4,rfl⟩:=h
  simp only[List.cons_append,meltL,h3,meltL_append h4 h2,Option.bind_some,Option.map_some]

theorem meltL_flat {α:Type}{enc:α→List D}{f:D→Option D}(h:∀x,meltL f (enc x)=some (enc x)):∀xs:List α,meltL f (xs.flatMap enc)=some (xs.flatMap enc)
 | []=>rfl
 | x :: xs=>by
  rw[List.flatMap_cons]
  exact meltL_append (h x) (meltL_flat h xs)

variable {bs:List D} {n:Nat}

theorem melt_lines (L:List Line):melt bs (n+3) (.lst (L.map Line.d))=some (.lst (L.map Line.d)):=by
 rw[melt,meltL_map (enc:=Line.d) fun a _=>by rfl]
 rfl

theorem melt_cs (c:Card):meltL (melt bs (n+3)) c.cs=some c.cs:=by
 have h1:melt bs (n+3) (Is c.starts)=some (Is c.starts):=melt_is
 have h2:=melt_lines (bs:=bs) (n:=n) c.lines
 have h3:melt bs (n+3) (I c.cls)=some (I c.cls):=rfl
 simp only[Card.cs,meltL,h1,h2,h3,Option.bind_some,Option.map_some]

theorem melt_plan (p:Plan):melt bs (n+4) p.d=some p.d:=by
 have h1:melt bs (n+3) (.lst (p.items.map Item.d))=some (.lst (p.items.map Item.d)):=by
  rw[melt,meltL_map (enc:=Item.d) fun a _=>by rfl]
  rfl
 have h3:∀x:List Int,melt bs (n+3) (Is x)=some (Is x):=fun x=>melt_is
 have h4:∀x:Int,melt bs (n+3) (I x)=some (I x):=fun x=>rfl
 have h5:∀x:Bool,melt bs (n+3) (B x)=some (B x):=fun x=>rfl
 rw[Plan.d,melt]
 simp only[Plan.cs,meltL,h1,h3,h4,h5,Option.bind_some,Option.map_some]

def cellsX (A:List Card)(c:Card)(B:List Card)(s:D):List D:=A.flatMap Card.cs++(I c.cls :: Is c.starts :: s :: B.flatMap Card.cs)

variable {A Bc:List Card} {c:Card} {s s':D}

theorem cells_split:(A++c :: Bc).flatMap Card.cs=cellsX A c Bc (.lst (c.lines.map Line.d)):=by
 simp[cellsX,Card.cs]

theorem card_len (c:Card):c.cs.length=3:=rfl
theorem line_len (x:Line):x.cs.length=4:=rfl

theorem cells_len:(A.flatMap Card.cs).length=A.length*3:=flat_length card_len

theorem cells_set:(cellsX A c Bc s).set (A.length*3+2) s'=cellsX A c Bc s':=by
 unfold cellsX
 rw[List.set_append_right _ _ (by rw[cells_len];omega),cells_len]
 simp

theorem cells_get:(cellsX A c Bc s)[A.length*3+2]? = some s:=by
 unfold cellsX
 rw[List.getElem?_append_right (by rw[cells_len];omega),cells_len]
 simp

theorem cells_drop:((cellsX A c Bc s).drop (A.length*3)).take 3=[I c.cls,Is c.starts,s]:=by
 unfold cellsX
 rw[List.drop_append_of_le_length (by rw[cells_len];exact Nat.le_refl _),List.drop_eq_nil_of_le (by rw[cells_len];exact Nat.le_refl _)]
 rfl

theorem cells_set' {k:Nat}(h:A.length=k):(cellsX A c Bc s).set (k*3+2) s'=cellsX A c Bc s':=by
 subst h
 exact cells_set
theorem cells_get' {k:Nat}(h:A.length=k):(cellsX A c Bc s)[k*3+2]? = some s:=by
 subst h
 exact cells_get
theorem cells_drop' {k:Nat}(h:A.length=k):((cellsX A c Bc s).drop (k*3)).take 3=[I c.cls,Is c.starts,s]:=by
 subst h
 exact cells_drop

theorem cellsX_len:(cellsX A c Bc s).length=(A++c :: Bc).length*3:=by
 have h:(Bc.flatMap Card.cs).length=Bc.length*3:=flat_length card_len
 simp only[cellsX,List.length_append,cells_len,List.length_cons,h]
 omega

theorem melt_sl {L:List Line}{b:Nat}(hb:bs[b]? = some (.blk 54 4 (L.flatMap Line.cs))):melt bs (n+2) (.sl b 0 L.length)=some (.lst (L.map Line.d)):=by
 have hl:(L.flatMap Line.cs).length=L.length*4:=flat_length line_len
 rw[melt]
 simp only[hb]
 rw[if_pos (by rw[hl];omega),List.drop_zero,List.take_of_length_le (by rw[hl];exact Nat.le_refl _),meltL_flat (enc:=Line.cs) (fun x=>by rfl)]
 simp only[Option.map_some]
 rw[chunks_flat line_len]
 simp[Line.d,List.map_map,Function.comp_def]

theorem melt_cardX {b:Nat}{L:List Line}(hb:bs[b]? = some (.blk 54 4 (L.flatMap Line.cs))):melt bs (n+4) (.agg [I c.cls,Is c.starts,.sl b 0 L.length])=some ({ c with lines:=L }:Card).d:=by
 have h1:melt bs (n+3) (Is c.starts)=some (Is c.starts):=melt_is
 have h2:=melt_sl (n:=n+1) hb
 have h3:melt bs (n+3) (I c.cls)=some (I c.cls):=rfl
 rw[melt]
 simp only[meltL,h1,h2,h3,Option.bind_some,Option.map_some]
 rfl

theorem melt_cardsX {b0 b:Nat}{L:List Line}{e:TypeId}(hb:bs[b]? = some (.blk 54 4 (L.flatMap Line.cs)))(h0:bs[b0]? = some (.blk e 3 (cellsX A c Bc (.sl b 0 L.length)))) :
  melt bs (n+5) (.sl b0 0 (A++c :: Bc).length)=some (Cards (A++({ c with lines:=L }:Card) :: Bc)):=by
 have h1:meltL (melt bs (n+4)) (cellsX A c Bc (.sl b 0 L.length))=some ((A++({ c with lines:=L }:Card) :: Bc).flatMap Card.cs):=by
  rw[cells_split]
  refine meltL_append (meltL_flat (fun x=>melt_cs (n:=n+1) x) A) ?_
  have h1:melt bs (n+4) (Is c.starts)=some (Is c.starts):=melt_is
  have h2:=melt_sl (n:=n+2) hb
  have h3:melt bs (n+4) (I c.cls)=some (I c.cls):=rfl
  simp only[meltL,h1,h2,h3,meltL_flat (fun x=>melt_cs (bs:=bs) (n:=n+1) x) Bc,Option.bind_some,Option.map_some]
 have hl:(A++c :: Bc).length=(A++({ c with lines:=L }:Card) :: Bc).length:=by simp
 rw[melt]
 simp only[h0]
 rw[if_pos (by rw[cellsX_len];omega),List.drop_zero,List.take_of_length_le (by rw[cellsX_len];exact Nat.le_refl _),h1]
 simp only[Option.map_some]
 rw[hl,chunks_flat card_len]
 rw[if_neg (by decide),List.map_map]
 rfl

end Go.Am.Sc

/-
 The law of lateness.
-/
namespace Go.Am.Sc
open Go.Proofs
set_option maxRecDepth 100000
set_option maxHeartbeats 4000000

attribute [local irreducible] inR allR lineOk

variable {bs:List D} {p:Plan} {c:Card} {l:List Card}

theorem e_eaddr {env:List D}{x y:E}{dx dy d:D}{n:Nat}(hx:x.eval env=some dx)(hy:y.eval env=some dy)(h:D.eaddr n dx dy=some d):(E.eaddr n x y).eval env=some d:=by simp only[E.eval,hx,hy,Option.bind_some,h]

def plainB (c:Card):Bool:=c.lines.all fun x=>x.mark==0

theorem bump_ok (hc:c.Ok){i:Nat}(hm:(c.ln i).minute<100000)(hi:i<c.lines.length):(bump c i).Ok:=by
 refine⟨hc.cls,hc.starts,fun x hx=>?_,by simpa[bump] using hc.linesL⟩
 have hix:(c.ln i).Ok:=hc.lines _ (List.mem_of_getElem? (Card.ln_getElem hi))
 rcases List.mem_or_eq_of_mem_set hx with h | h
 ·exact hc.lines x h
 ·rw[h]
  refine⟨?_,hix.time,hix.mark⟩
  have:=hix.minute
  unfold i64 at this ⊢
  simp only[later]
  omega

theorem all_take {α:Type}{xs:List α}{P:α→Bool}{k:Nat}(h:k<xs.length):(xs.take (k+1)).all P=((xs.take k).all P&&P xs[k]):=by
 rw[List.take_add_one,List.getElem?_eq_getElem h,List.all_append]
 simp






theorem c11 (hk:∀bs,FSpecR Tryz.prog 17 (.st bs) [] (B true))(hp:p.Ok)(hl:CardsOk l)(car item:Int):∃h',FSpecW Tryz.prog 11 (.st []) [p.d,Cards l,I car,I item] (B true) h':=by
 have h16:=c16 (bs:=[]) (l:=l) (most:=10) hl.2
 have h20:=c20 (bs:=[]) hp
 have hk0:=hk []
 cases hok:p.ok
 ·rw[hok] at h20
  refine⟨.st [],ku11.W rfl ?_⟩
  unfold u11
  simp only[ups_cons,ups_nil,List.cons_append,List.nil_append]
  repeat' (first|(apply nrm;simp only[sbe];rfl)|(apply u_orT;rfl;(·first|exact rfl|exact Bool.or_true _))|(apply u_iteT;rfl;exact rfl)|(apply u_chk;rfl)|(apply u_ev;rfl;simp only[sbe];rfl)|(apply u_call;rfl;rfl;(·first|exact c15|exact h16|exact h20|exact hk0);rfl;simp only[sbe];rfl)|(apply u_or;rfl)|exact u_ret rfl rfl|(intro hz;(try simp only[sbs] at hz)))
 rw[hok] at h20
 have h24:=c24 (bs:=[]) hp hok hl
 cases hc:cardsOk p l
 ·rw[hc] at h24
  refine⟨.st [],ku11.W rfl ?_⟩
  unfold u11
  simp only[ups_cons,ups_nil,List.cons_append,List.nil_append]
  repeat' (first|(apply nrm;simp only[sbe];rfl)|(apply u_orT;rfl;(·first|exact rfl|exact Bool.or_true _))|(apply u_iteT;rfl;exact rfl)|(apply u_chk;rfl)|(apply u_ev;rfl;simp only[sbe];rfl)|(apply u_call;rfl;rfl;(·first|exact c15|exact h16|exact h20|exact h24|exact hk0);rfl;simp only[sbe];rfl)|(apply u_or;rfl)|exact u_ret rfl rfl|(intro hz;(try simp only[sbs] at hz)))
 rw[hc] at h24
 by_cases hcar:0≤car∧car<l.length
 ·obtain⟨k,rfl⟩:∃k:Nat,car=k:=⟨car.toNat,by omega⟩
  have hkl:k<l.length:=by omega
  by_cases hit:0≤item∧item<p.n
  ·obtain⟨i,rfl⟩:∃i:Nat,item=i:=⟨item.toNat,by omega⟩
   have hi:i<p.n:=by omega
   have hcs:=cards_ok hc
   have hln:=fun j (hj:j<l.length)=>(hcs.2 j hj).len
   have hh:=Plan.ok_head hok
   have h23:=c23_ok (bs:=[]) hp hl hok hc hkl
   have hcO:(cd l k).Ok:=hl.1 _ (List.mem_of_getElem? (cd_get hkl))
   have hcdk:cardOk p (cd l k)=true:=by
    simp only[cardsOk,Bool.and_eq_true] at hc
    exact List.all_eq_true.1 hc.2 _ (List.mem_of_getElem? (cd_get hkl))
   cases hsm:(p.small&&shortL l 10)
   ·refine⟨.st [],ku11.W rfl ?_⟩
    unfold u11
    simp only[ups_cons,ups_nil,List.cons_append,List.nil_append]
    have hsm2:(!p.small||!shortL l 10)=true:=by rw[←Bool.not_and,hsm];rfl
    repeat' (first|(apply nrm;simp only[sbe];rfl)|(apply u_orT;rfl;(·first|exact hsm2|exact Bool.or_true _))|(apply u_chk;rfl)|(apply u_ev;rfl;simp only[sbe];rfl)|(apply u_call;rfl;rfl;(·first|exact c15|exact h16|exact hk0);rfl;simp only[sbe];rfl)|(apply u_or;rfl)|(apply u_ite;rfl;all_goals (intro hz;(try simp only[sbs] at hz);first|(exact absurd hz (by decide))|(exfalso;omega)|skip))|exact u_ret rfl rfl|(intro hz;(try simp only[sbs] at hz)))
    all_goals first | exact(false:Bool) | exact hz.1.elim | simp_all
   ·have hsm1:=(Bool.and_eq_true _ _ ▸ hsm:p.small=true∧shortL l 10=true)
    have h35:=c35 (bs:=[]) hp hcO i
    have hlnk:=hln k hkl
    have hmn:=(hcs.2 k hkl).minute hi
    by_cases hgo:(((p.it i).kind=1∧((cd l k).ln i).mark≠2)∧dueA p (cd l k) i≤((cd l k).ln i).minute)∧((cd l k).ln i).minute<100000
    ·have hdR:dueR p (cd l k) i=(dueA p (cd l k) i,0):=by
      rw[dueR,if_pos (by rw[hok,hcdk,inR_i (by omega)];simp[hgo.1.1.1]),if_neg (by simpa using hgo.1.1.2)]
      rfl
     rw[hdR] at h35
     have hcf:(((0:Int) != 0)||decide (((cd l k).ln i).minute<dueA p (cd l k) i)||decide (((cd l k).ln i).minute≥100000))=false:=by
      simp
      omega
     have hct:((p.it i).kind != (p.it i).kind)=false:=by simp
     have hil:i<(cd l k).lines.length:=by omega
     have hsp:l=l.take k++cd l k :: l.drop (k+1):=by
      have:=List.drop_eq_getElem_cons hkl
      rw[show l[k]=cd l k by simp[cd,List.getD,hkl]] at this
      rw[←this,List.take_append_drop]
     have hAk:(l.take k).length=k:=by rw[List.length_take];omega
     have hcc:=cells_split (A:=l.take k) (c:=cd l k) (Bc:=l.drop (k+1))
     rw[←hsp] at hcc
     have hL2:=hl.2
     have ha1:=apph_new (bs:=[]) (d:=Card.d) (enc:=Card.cs) (e:=31) (sz:=3) (bytes:=56) (xs:=l) (fun _=>rfl) card_len (fun _=>rfl) (fun e=>by simp[e] at hkl) (by omega) hL2
     have ha2:=apph_new (bs:=[.blk 31 3 (l.flatMap Card.cs)]) (d:=Line.d) (enc:=Line.cs) (e:=54) (sz:=4) (bytes:=32) (xs:=(cd l k).lines) (fun _=>rfl) line_len (fun _=>rfl) (fun e=>by simp[e] at hil) (by omega) hcO.linesL
     generalize hAA:l.take k=A at hsp hAk hcc
     generalize hBB:l.drop (k+1)=Bc at hsp hcc
     let m:=(cd l k).lines.length
     let T3:List D:=[.blk 31 3 (cellsX A (cd l k) Bc (.sl 1 0 m)),.blk 54 4 ((cd l k).lines.flatMap Line.cs)]
     let T4:List D:=[.blk 31 3 (cellsX A (cd l k) Bc (.sl 1 0 m)),.blk 54 4 (((cd l k).lines.set i (later ((cd l k).ln i))).flatMap Line.cs)]
     have hsto1:D.sto 1 (.st ([.blk 31 3 (l.flatMap Card.cs)]++[.blk 54 4 ((cd l k).lines.flatMap Line.cs)])) (.loc 0 (k*3+2)) (.sl 1 0 m)=some (.st T3):=by
      rw[sto_blk (e:=31) (sz:=3) (cs:=l.flatMap Card.cs) rfl (by rw[hcc,cellsX_len,←hsp];omega) rfl,hcc,cells_set' hAk]
      rfl
     have hld1:D.ld false 1 (.st T3) (.loc 0 (k*3+2))=some (.sl 1 0 m):=ld_blk (e:=31) (sz:=3) (cs:=cellsX A (cd l k) Bc (.sl 1 0 m)) rfl (cells_get' hAk)
     have hea1:D.eaddr 3 (.sl 0 0 l.length) (In k)=some (.loc 0 (k*3)):=eaddr_sl hkl
     have hea2:D.eaddr 4 (.sl 1 0 m) (In i)=some (.loc 1 (i*4)):=eaddr_sl hil
     have hld2:D.ld false 1 (.st T3) (.loc 1 (i*4))=some (I ((cd l k).ln i).minute):=ld_el0 (xs:=(cd l k).lines) (enc:=Line.cs) (e:=54) (sz:=4) rfl line_len (Card.ln_getElem hil) rfl
     have hsto2:D.sto 1 (.st T3) (.loc 1 (i*4)) (I (((cd l k).ln i).minute+1))=some (.st T4):=sto_el (xs:=(cd l k).lines) (enc:=Line.cs) (e:=54) (sz:=4) (o:=0) (x':=later ((cd l k).ln i)) rfl line_len (Card.ln_getElem hil) (by decide) rfl rfl
     have hld3:D.ld true 3 (.st T4) (.loc 0 (k*3))=some (.agg [I (cd l k).cls,Is (cd l k).starts,.sl 1 0 m]):=by
      rw[ldN_blk (e:=31) (sz:=3) (cs:=cellsX A (cd l k) Bc (.sl 1 0 m)) rfl (by rw[cellsX_len,←hsp];omega),cells_drop' hAk]
     have hLl:((cd l k).lines.set i (later ((cd l k).ln i))).length=m:=by simp[m]
     have hT1:T4[1]? = some (.blk 54 4 (((cd l k).lines.set i (later ((cd l k).ln i))).flatMap Line.cs)):=rfl
     have hbO:=bump_ok hcO hgo.2 hil
     have hbc:=cardOk_bump hcdk hi hgo.1.1.1 hgo.1.1.2 hgo.2
     have h36a:=c36 (bs:=T4) hp hcO
     rw[hok,hcdk] at h36a
     simp only[Bool.and_self,↓reduceIte] at h36a
     have h36c:=c36 (bs:=[]) hp hbO
     rw[hok,hbc] at h36c
     simp only[Bool.and_self,↓reduceIte] at h36c
     have hmc:=melt_cardX (bs:=T4) (n:=4) (c:=cd l k) hT1
     rw[hLl] at hmc
     have hmp:=melt_plan (bs:=T4) (n:=4) p
     have h36b:FSpecR Tryz.prog 36 (.st T4) [p.d,.agg [I (cd l k).cls,Is (cd l k).starts,.sl 1 0 m]] (.tup [I (outI p (bump (cd l k) i)),I 0]):=
      unmelt (n:=8) h36c (by simp only[meltL,hmp,hmc,Option.bind_some,Option.map_some];rfl) (.tup fun c hc=>by simp at hc;rcases hc with rfl | rfl <;> exact⟨_,rfl⟩)
     have hset:l.set k (bump (cd l k) i)=A++bump (cd l k) i :: Bc:=by
      have hx:∀x:Card,(A++cd l k :: Bc).set k x=A++x :: Bc:=fun x=>by
       rw[List.set_append_right _ _ (by omega),hAk,Nat.sub_self]
       rfl
      rw[←hx,←hsp]
     have hl2:CardsOk (l.set k (bump (cd l k) i)):=⟨fun x hx=>by
      rcases List.mem_or_eq_of_mem_set hx with h | h
      ·exact hl.1 x h
      ·rw[h];exact hbO,by simpa using hl.2⟩
     have hc2:cardsOk p (l.set k (bump (cd l k) i))=true:=by
      simp only[cardsOk,Bool.and_eq_true,decide_eq_true_eq,List.all_eq_true] at hc ⊢
      refine⟨by simpa using hc.1,fun x hx=>?_⟩
      rcases List.mem_or_eq_of_mem_set hx with h | h
      ·exact hc.2 x h
      ·rw[h];exact hbc
     have h23c:=c23_ok (bs:=[]) hp hl2 hok hc2 (k:=k) (by simpa using hkl)
     have hmx:=melt_cardsX (bs:=T4) (n:=3) (A:=A) (c:=cd l k) (Bc:=Bc) (b0:=0) (e:=31) hT1 (by rw[hLl];rfl)
     rw[←hsp] at hmx
     have h23b:FSpecR Tryz.prog 23 (.st T4) [p.d,.sl 0 0 l.length,In k] (.tup [I (totN p (l.set k (bump (cd l k) i)) k),I 0]):=
      unmelt (n:=8) h23c (by
       rw[hset]
       simp only[meltL,hmp,hmx,Option.bind_some,Option.map_some]
       rfl) (.tup fun c hc=>by simp at hc;rcases hc with rfl | rfl <;> exact⟨_,rfl⟩)
     have hup:=totTo_bump hok hc hkl hi hgo.1.1.1 hgo.1.1.2 hgo.1.2
     refine⟨.st T4,?_⟩
     refine ku11.W rfl ?_
     unfold u11
     simp only[ups_cons,ups_nil,List.cons_append,List.nil_append]
     have hF:(!p.small||!shortL l 10||!true||!true||decide ((k:Int)<0)||decide ((k:Int)≥(l.length:Int))||decide ((i:Int)<0)||decide ((i:Int)≥(p.n:Int)))=false:=by
      simp[hsm1.1,hsm1.2]
      omega
     repeat' (first|(apply nrm;simp only[sbe];rfl)|(apply u_iteF;rfl;exact hF)|(apply u_chk;rfl)|(apply u_lenL;rfl;exact ln_it;simp only[sbe];rfl)|(apply u_lenL;rfl;exact lenL_map;simp only[sbe];rfl)|(apply u_ev;rfl;simp only[sbe];rfl)|(apply u_call;rfl;rfl;(·first|exact c15|exact h16|exact h20|exact h24|exact h23);rfl;simp only[sbe];rfl)|(apply u_or;rfl)|refine u_join ?_|(apply u_ite;rfl;all_goals (intro hz;(try simp only[sbs] at hz);first|(exact absurd hz (by decide))|(exfalso;omega)|skip))|exact u_ret rfl rfl|(intro hz;(try simp only[sbs] at hz)))
     refine u_range (fun a=>[B ((l.take a).all plainB),In a]) (fun _=>True) l.length rfl (fun _=>rfl) trivial (fun a ha _ R hR=>?_) (fun _ R=>?_)
     ·have hla:decide ((a:Int)<(l.length:Int))=true:=by simp;omega
      have hR:=hR trivial
      have hca:l[a]=cd l a:=by simp[cd,List.getD,ha]
      rw[all_take ha,hca] at hR
      have hlna:=hln a ha
      generalize(l.take a).all plainB=X at hR ⊢
      repeat' (first|(apply nrm;simp only[sbe];rfl)|(apply u_iteT;rfl;exact hla)|(apply u_lenL;rfl;exact lenL_map;simp only[sbe];rfl)|(apply u_ev;rfl;simp only[sbe];rfl)|refine u_join ?_)
      refine u_range (fun b=>[B (X&&((cd l a).lines.take b).all fun x=>x.mark==0),In b]) (fun _=>True) (cd l a).lines.length (by simp only[List.take_zero,List.all_nil,Bool.and_true];rfl) (fun _=>rfl) trivial (fun b hb _ R2 hR2=>?_) (fun _ R2=>?_)
      ·have hlb:decide ((b:Int)<((cd l a).lines.length:Int))=true:=by simp;omega
       have hR2:=hR2 trivial
       have hcb:(cd l a).lines[b]=(cd l a).ln b:=by simp[Card.ln,List.getD,hb]
       rw[all_take hb,hcb,←Bool.and_assoc] at hR2
       repeat' (first|(apply nrm;simp only[sbe];rfl)|(apply u_iteT;rfl;exact hlb)|(apply u_chk;rfl)|(apply u_eaddr;rfl;rfl;(·first|exact ea_cd ha|exact ea_ln hb);simp only[sbe];rfl)|(apply u_lenL;rfl;exact lenL_map;simp only[sbe];rfl)|(apply u_inc;rfl;omega;simp only[sbe];rfl)|(apply u_ev;rfl;simp only[sbe];rfl)|(apply u_and;rfl)|refine u_join ?_|(apply u_jump;rfl;rfl)|refine at_jump ?_|refine kj rfl ?_|exact u_ret rfl rfl|(intro hz;(try simp only[sbs] at hz)))
       exact hR2
      ·have hlb:decide (((cd l a).lines.length:Int)<((cd l a).lines.length:Int))=false:=by simp
       rw[List.take_length]
       repeat' (first|(apply nrm;simp only[sbe];rfl)|(apply u_iteF;rfl;exact hlb)|(apply u_chk;rfl)|(apply u_eaddr;rfl;rfl;exact ea_cd ha;simp only[sbe];rfl)|(apply u_lenL;rfl;exact lenL_map;simp only[sbe];rfl)|(apply u_inc;rfl;omega;simp only[sbe];rfl)|(apply u_ev;rfl;simp only[sbe];rfl)|(apply u_jump;rfl;rfl)|refine at_jump ?_|(refine over_jump (by decide) ?_)|refine kj rfl ?_)
       exact hR
     ·have hla:decide ((l.length:Int)<(l.length:Int))=false:=by simp
      rw[List.take_length]
      cases hpl:l.all plainB
      ·skip
       repeat' (first|(apply nrm;simp only[sbe];rfl)|(apply u_iteF;rfl;(·first|exact hla|exact hcf))|(apply u_chk;rfl)|(apply u_stoa;rfl;rfl;rfl;rfl;rfl;exact ha2.2;exact hsto1;simp only[sbe];rfl)|(apply u_ld;rfl;rfl;(·first|exact hld1|exact hld2|exact hld3);simp only[sbe];rfl)|(apply u_eaddr;rfl;rfl;(·first|exact ea_cd hkl|exact ea_ln (by omega)|exact hea2);simp only[sbe];rfl)|(apply u_sto;rfl;rfl;rfl;exact hsto2;simp only[sbe];rfl)|(apply u_apph;rfl;rfl;rfl;(·first|exact ha1.1|exact ha2.1);simp only[sbe];rfl)|(apply u_lenL;rfl;exact lenL_map;simp only[sbe];rfl)|(apply u_add;rfl;rfl;omega;simp only[sbe];rfl)|(apply u_ev;(·exact e_eaddr (ev_apps rfl rfl rfl ha1.2) rfl hea1);simp only[sbe];rfl)|(apply u_ev;rfl;simp only[sbe];rfl)|(apply u_call;rfl;rfl;(·first|exact h35|exact h36a|exact h36b|exact hk T4);rfl;simp only[sbe];rfl)|(apply u_call;rfl;(·exact evC rfl (evC (ev_apps rfl rfl rfl ha1.2) (evC rfl evN)));exact h23b;rfl;simp only[sbe];rfl)|(apply u_or;rfl)|(apply u_and;rfl)|refine u_join ?_|(apply u_jump;rfl;rfl)|refine at_jump ?_|(refine over_jump (by decide) ?_)|refine kj rfl ?_|(apply u_ite;rfl;all_goals (intro hz;(try simp only[sbs] at hz);first|(exact absurd hz (by decide))|(exfalso;omega)|skip))|exact u_ret rfl rfl|(apply u_ret;rfl;first|exact rfl|(refine retB ?_)|(refine retI ?_)|(refine retD ?_))|(intro hz;(try simp only[sbs] at hz)))
       all_goals
        have h1:=hup (by omega) (by omega) p.n (Nat.le_refl _)
        have hL:=(Plan.ok_rules hok).1.1
        have h2:totN p l k≤totN p (l.set k (bump (cd l k) i)) k:=by
         unfold totN
         split at h1 <;> omega
        simp[h2]
      ·have hmk:∀j,j<p.n→((cd l k).ln j).mark=0:=fun j hj=>by
        have h1:=List.all_eq_true.1 hpl _ (List.mem_of_getElem? (cd_get hkl))
        have h2:j<(cd l k).lines.length:=by rw[hln k hkl];exact hj
        have h3:=List.all_eq_true.1 h1 _ (List.mem_of_getElem? (Card.ln_getElem h2))
        simpa using h3
       have hl1:CardsOk [cd l k]:=⟨fun x hx=>by simp at hx;rw[hx];exact hcO,show 1≤maxLen by decide⟩
       have hc1:cardsOk p [cd l k]=true:=by simp[cardsOk,hcdk]
       have h23a:=c23_ok (bs:=[]) hp hl1 hok hc1 (k:=0) (by simp)
       rw[show totN p [cd l k] 0=totN p l k from totTo_alone hmk p.n (Nat.le_refl _)] at h23a
       skip
       repeat' (first|(apply nrm;simp only[sbe];rfl)|(apply u_iteT;rfl;exact rfl)|(apply u_iteF;rfl;(·first|exact hla|exact hcf))|(apply u_chk;rfl)|(apply u_stoa;rfl;rfl;rfl;rfl;rfl;exact ha2.2;exact hsto1;simp only[sbe];rfl)|(apply u_ld;rfl;rfl;(·first|exact hld1|exact hld2|exact hld3);simp only[sbe];rfl)|(apply u_eaddr;rfl;rfl;(·first|exact ea_cd hkl|exact ea_ln (by omega)|exact hea2);simp only[sbe];rfl)|(apply u_sto;rfl;rfl;rfl;exact hsto2;simp only[sbe];rfl)|(apply u_apph;rfl;rfl;rfl;(·first|exact ha1.1|exact ha2.1);simp only[sbe];rfl)|(apply u_lenL;rfl;exact lenL_map;simp only[sbe];rfl)|(apply u_add;rfl;rfl;omega;simp only[sbe];rfl)|(apply u_ev;(·exact e_eaddr (ev_apps rfl rfl rfl ha1.2) rfl hea1);simp only[sbe];rfl)|(apply u_ev;rfl;simp only[sbe];rfl)|(apply u_call;rfl;rfl;(·first|exact h23a|exact h35|exact h36a|exact h36b|exact hk T4);rfl;simp only[sbe];rfl)|(apply u_call;rfl;(·exact evC rfl (evC (ev_apps rfl rfl rfl ha1.2) (evC rfl evN)));exact h23b;rfl;simp only[sbe];rfl)|(apply u_or;rfl)|(apply u_and;rfl)|refine u_join ?_|(apply u_jump;rfl;rfl)|refine at_jump ?_|(refine over_jump (by decide) ?_)|refine kj rfl ?_|(apply u_ite;rfl;all_goals (intro hz;(try simp only[sbs] at hz);first|(exact absurd hz (by decide))|(exfalso;omega)|skip))|exact u_ret rfl rfl|(apply u_ret;rfl;first|exact rfl|(refine retB ?_)|(refine retI ?_)|(refine retD ?_))|(intro hz;(try simp only[sbs] at hz)))
       all_goals
        have h1:=hup (by omega) (by omega) p.n (Nat.le_refl _)
        have hL:=(Plan.ok_rules hok).1.1
        have h2:totN p l k≤totN p (l.set k (bump (cd l k) i)) k:=by
         unfold totN
         split at h1 <;> omega
        simp[h2]
    ·obtain⟨d,e,h35,hcond⟩:∃d e:Int,FSpecR Tryz.prog 35 (.st []) [p.d,(cd l k).d,In i] (.tup [I d,I e])∧(e≠0∨((cd l k).ln i).minute<d∨100000≤((cd l k).ln i).minute):=by
      refine⟨_,_,h35,?_⟩
      unfold dueR
      rw[hok,hcdk,inR_i (by omega)]
      simp only[Bool.true_and,beq_iff_eq,Int.toNat_natCast]
      split
      ·split
       ·exact .inl (by simp)
       ·refine .inr ?_
        simp only
        omega
      ·exact .inl (by simp)
     have hct:((e != 0)||decide (((cd l k).ln i).minute<d)||decide (((cd l k).ln i).minute≥100000))=true:=by
      simp
      omega
     have hcf:((p.it i).kind != (p.it i).kind)=false:=by simp
     refine⟨.st [],?_⟩
     refine ku11.W rfl ?_
     unfold u11
     simp only[ups_cons,ups_nil,List.cons_append,List.nil_append]
     have hF:(!p.small||!shortL l 10||!true||!true||decide ((k:Int)<0)||decide ((k:Int)≥(l.length:Int))||decide ((i:Int)<0)||decide ((i:Int)≥(p.n:Int)))=false:=by
      simp[hsm1.1,hsm1.2]
      omega
     repeat' (first|(apply nrm;simp only[sbe];rfl)|(apply u_iteF;rfl;exact hF)|(apply u_chk;rfl)|(apply u_lenL;rfl;exact ln_it;simp only[sbe];rfl)|(apply u_lenL;rfl;exact lenL_map;simp only[sbe];rfl)|(apply u_ev;rfl;simp only[sbe];rfl)|(apply u_call;rfl;rfl;(·first|exact c15|exact h16|exact h20|exact h24|exact h23);rfl;simp only[sbe];rfl)|(apply u_or;rfl)|refine u_join ?_|(apply u_ite;rfl;all_goals (intro hz;(try simp only[sbs] at hz);first|(exact absurd hz (by decide))|(exfalso;omega)|skip))|exact u_ret rfl rfl|(intro hz;(try simp only[sbs] at hz)))
     refine u_range (fun a=>[B ((l.take a).all plainB),In a]) (fun _=>True) l.length rfl (fun _=>rfl) trivial (fun a ha _ R hR=>?_) (fun _ R=>?_)
     ·have hla:decide ((a:Int)<(l.length:Int))=true:=by simp;omega
      have hR:=hR trivial
      have hca:l[a]=cd l a:=by simp[cd,List.getD,ha]
      rw[all_take ha,hca] at hR
      have hlna:=hln a ha
      generalize(l.take a).all plainB=X at hR ⊢
      repeat' (first|(apply nrm;simp only[sbe];rfl)|(apply u_iteT;rfl;exact hla)|(apply u_lenL;rfl;exact lenL_map;simp only[sbe];rfl)|(apply u_ev;rfl;simp only[sbe];rfl)|refine u_join ?_)
      refine u_range (fun b=>[B (X&&((cd l a).lines.take b).all fun x=>x.mark==0),In b]) (fun _=>True) (cd l a).lines.length (by simp only[List.take_zero,List.all_nil,Bool.and_true];rfl) (fun _=>rfl) trivial (fun b hb _ R2 hR2=>?_) (fun _ R2=>?_)
      ·have hlb:decide ((b:Int)<((cd l a).lines.length:Int))=true:=by simp;omega
       have hR2:=hR2 trivial
       have hcb:(cd l a).lines[b]=(cd l a).ln b:=by simp[Card.ln,List.getD,hb]
       rw[all_take hb,hcb,←Bool.and_assoc] at hR2
       repeat' (first|(apply nrm;simp only[sbe];rfl)|(apply u_iteT;rfl;exact hlb)|(apply u_chk;rfl)|(apply u_eaddr;rfl;rfl;(·first|exact ea_cd ha|exact ea_ln hb);simp only[sbe];rfl)|(apply u_lenL;rfl;exact lenL_map;simp only[sbe];rfl)|(apply u_inc;rfl;omega;simp only[sbe];rfl)|(apply u_ev;rfl;simp only[sbe];rfl)|(apply u_and;rfl)|refine u_join ?_|(apply u_jump;rfl;rfl)|refine at_jump ?_|refine kj rfl ?_|exact u_ret rfl rfl|(intro hz;(try simp only[sbs] at hz)))
       exact hR2
      ·have hlb:decide (((cd l a).lines.length:Int)<((cd l a).lines.length:Int))=false:=by simp
       rw[List.take_length]
       repeat' (first|(apply nrm;simp only[sbe];rfl)|(apply u_iteF;rfl;exact hlb)|(apply u_chk;rfl)|(apply u_eaddr;rfl;rfl;exact ea_cd ha;simp only[sbe];rfl)|(apply u_lenL;rfl;exact lenL_map;simp only[sbe];rfl)|(apply u_inc;rfl;omega;simp only[sbe];rfl)|(apply u_ev;rfl;simp only[sbe];rfl)|(apply u_jump;rfl;rfl)|refine at_jump ?_|(refine over_jump (by decide) ?_)|refine kj rfl ?_)
       exact hR
     ·have hla:decide ((l.length:Int)<(l.length:Int))=false:=by simp
      rw[List.take_length]
      cases hpl:l.all plainB
      ·skip
       repeat' (first|(apply nrm;simp only[sbe];rfl)|(apply u_iteT;rfl;exact hct)|(apply u_iteF;rfl;exact hla)|(apply u_chk;rfl)|(apply u_eaddr;rfl;rfl;(·first|exact ea_cd hkl|exact ea_ln (by omega));simp only[sbe];rfl)|(apply u_lenL;rfl;exact lenL_map;simp only[sbe];rfl)|(apply u_ev;rfl;simp only[sbe];rfl)|(apply u_call;rfl;rfl;(·first|exact h35|exact hk0);rfl;simp only[sbe];rfl)|(apply u_or;rfl)|refine u_join ?_|(apply u_jump;rfl;rfl)|refine at_jump ?_|(refine over_jump (by decide) ?_)|refine kj rfl ?_|(apply u_ite;rfl;all_goals (intro hz;(try simp only[sbs] at hz);first|(exact absurd hz (by decide))|(exfalso;omega)|skip))|exact u_ret rfl rfl|(intro hz;(try simp only[sbs] at hz)))
       all_goals (try simp_all)
      ·have hmk:∀j,j<p.n→((cd l k).ln j).mark=0:=fun j hj=>by
        have h1:=List.all_eq_true.1 hpl _ (List.mem_of_getElem? (cd_get hkl))
        have h2:j<(cd l k).lines.length:=by rw[hln k hkl];exact hj
        have h3:=List.all_eq_true.1 h1 _ (List.mem_of_getElem? (Card.ln_getElem h2))
        simpa using h3
       have hl1:CardsOk [cd l k]:=⟨fun x hx=>by simp at hx;rw[hx];exact hcO,show 1≤maxLen by decide⟩
       have hc1:cardsOk p [cd l k]=true:=by simp[cardsOk,hcdk]
       have h23a:=c23_ok (bs:=[]) hp hl1 hok hc1 (k:=0) (by simp)
       rw[show totN p [cd l k] 0=totN p l k from totTo_alone hmk p.n (Nat.le_refl _)] at h23a
       skip
       repeat' (first|(apply nrm;simp only[sbe];rfl)|(apply u_iteT;rfl;(·first|exact rfl|exact hct))|(apply u_iteF;rfl;exact hla)|(apply u_chk;rfl)|(apply u_eaddr;rfl;rfl;(·first|exact ea_cd hkl|exact ea_ln (by omega));simp only[sbe];rfl)|(apply u_lenL;rfl;exact lenL_map;simp only[sbe];rfl)|(apply u_ev;rfl;simp only[sbe];rfl)|(apply u_call;rfl;rfl;(·first|exact h23a|exact h35|exact hk0);rfl;simp only[sbe];rfl)|(apply u_or;rfl)|refine u_join ?_|(apply u_jump;rfl;rfl)|refine at_jump ?_|(refine over_jump (by decide) ?_)|refine kj rfl ?_|(apply u_ite;rfl;all_goals (intro hz;(try simp only[sbs] at hz);first|(exact absurd hz (by decide))|(exfalso;omega)|skip))|exact u_ret rfl rfl|(intro hz;(try simp only[sbs] at hz)))
       all_goals (try simp_all)
  ·have ho:(decide (item<0)||decide (item≥(p.n:Int)))=true:=by simp;omega
   refine⟨.st [],ku11.W rfl ?_⟩
   unfold u11
   simp only[ups_cons,ups_nil,List.cons_append,List.nil_append]
   repeat' (first|(apply nrm;simp only[sbe];rfl)|(apply u_chk;rfl)|(apply u_lenL;rfl;exact ln_it;simp only[sbe];rfl)|(apply u_lenL;rfl;exact lenL_map;simp only[sbe];rfl)|(apply u_ev;rfl;simp only[sbe];rfl)|(apply u_call;rfl;rfl;(·first|exact c15|exact h16|exact h20|exact h24|exact hk0);rfl;simp only[sbe];rfl)|(apply u_or;rfl)|(apply u_ite;rfl;all_goals (intro hz;(try simp only[sbs] at hz);first|(exact absurd hz (by decide))|(exfalso;omega)|skip))|exact u_ret rfl rfl|(intro hz;(try simp only[sbs] at hz)))
   all_goals (try simp_all)
   all_goals (try omega)
 ·refine⟨.st [],ku11.W rfl ?_⟩
  unfold u11
  simp only[ups_cons,ups_nil,List.cons_append,List.nil_append]
  repeat' (first|(apply nrm;simp only[sbe];rfl)|(apply u_chk;rfl)|(apply u_lenL;rfl;(·first|exact ln_it|exact lenL_map);simp only[sbe];rfl)|(apply u_ev;rfl;simp only[sbe];rfl)|(apply u_call;rfl;rfl;(·first|exact c15|exact h16|exact h20|exact h24|exact hk0);rfl;simp only[sbe];rfl)|(apply u_or;rfl)|(apply u_ite;rfl;all_goals (intro hz;(try simp only[sbs] at hz);first|(exact absurd hz (by decide))|(exfalso;omega)|skip))|exact u_ret rfl rfl|(intro hz;(try simp only[sbs] at hz)))
  all_goals (try simp_all)
  all_goals (try omega)

end Go.Am.Sc
