/- Texts. -/
import Derived.Test.YtjnipnanfjglpaaGreatDoorToC1toTwShelf
import Derived.Test.YtjnipnanfjglpaaGreatDoorTwC5toTwG1
import Derived.Test.YtjnipnanfjglpaaGreatDoorAmGen2
import Derived.Test.YtjnipnanfjglpaaGreatDoorAmKilltoAmOut
import Derived.Test.YtjnipnanfjglpaaGreatDoorAmUtoAmTabK
import Derived.Test.YtjnipnanfjglpaaGreatDoorToBasetoScAct
set_option linter.unusedSimpArgs false
set_option linter.unusedVariables false
namespace Go.Am.To
section
open Go.Proofs Go.Am.Sc
set_option maxRecDepth 100000
set_option maxHeartbeats 4000000
attribute [local irreducible] fK Tw.fK
abbrev Rp:=Tw.aF
def tv (c p:Nat):Tw.wk:=⟨c,p,List.replicate (p-1) 0⟩
def vi:List Tw.Src:=[⟨1,0⟩,⟨3,0⟩]
structure Ie (bs bs':List D):Prop where
 le:bs.length≤bs'.length
 old:∀i,i<bs.length→i≠3→i≠4→i≠7→bs'[i]? = bs[i]?
theorem Ie.trans {a b c:List D}(h:Ie a b)(k:Ie b c):Ie a c:=⟨A0J h.le k.le,fun i hi h3 h4 h7=>by rw[k.old i (A0v hi h.le) h3 h4 h7,h.old i hi h3 h4 h7]⟩
theorem Ie.app (bs x:List D):Ie bs (bs++x):=⟨by simp,fun i hi _ _ _=>A0g hi⟩
structure AJ (bs:List D)(p:Nat)(T:Int)(cs:List Cr)(ps:List Int)(rs:List Rp)(jB:D):Prop where
 ev:∃cl:List D,bs[1]? = some (.blk 90 35 cl)∧cl[6]? = some (In cs.length)∧cl[9]? = some (.bk (vi.map Tw.Src.d))∧cl[30]? = some (.loc 5 0)∧cl[31]? = some (.loc 7 0)∧cl[34]? = some jB∧cl.length=35
 gi:GI bs p T cs ps
 wl:Tw.Lg bs 7 (tv cs.length p) vi rs p
variable {bs bs':List D} {p:Nat} {T:Int} {cs:List Cr} {ps:List Int} {rs:List Rp} {jB:D}
theorem za {j n:Nat}{f:Tw.wk}{ss:List Tw.Src}(h:Tw.Lg bs j f ss rs n)(hj:bs'[j]? = bs[j]?)(hk:∀(i:Nat) (bU:List D),bs[i]? = some (.cg bU)→bs'[i]? = bs[i]?)(hn:aN bs'=true):Tw.Lg bs' j f ss rs n where
 log:=by obtain⟨m,h1,h2⟩:=h.log;exact⟨m,⟨by rw[hj];exact h1,by rw[hk m _ h2];exact h2⟩⟩
 len:=h.len
 YF:=h.YF
 pl:=h.pl
 iV:=h.iV
 PE:=h.PE
 right:=h.right
 ny:=hn
theorem AJ.app (h:AJ bs p T cs ps rs jB){x:List D}(hx:aN x=true):AJ (bs++x) p T cs ps rs jB:=by have h5:=(A0c.1 h.gi.wj).1;obtain⟨cl,e1,e2⟩:=h.ev;obtain⟨m,hm,_⟩:=h.wl.log;have h7:=(A0c.1 hm).1;refine⟨⟨cl,by rw[A0g (by omega)];exact e1,e2⟩,h.gi.keep fun i h1 h2=>A0g (by omega),za h.wl (A0g h7) (fun i bU hi=>A0g (A0c.1 hi).1) ?_⟩;rw[bT,h.wl.ny,hx];rfl
theorem zu {α:Type}{enc:α→List D}(h:∀x,aN (enc x)=true):∀l:List α,aN (l.flatMap enc)=true
 | []=>rfl
 | a :: l=>by rw[B0r,bT,h a,zu h l];rfl
theorem AJ.iV (h:AJ bs p T cs ps rs jB){vR:List Cr}(hl:vR.length=cs.length)(hb:∀x∈vR,-1≤x.post∧x.post<p):AJ (mN bs T vR) p T vR ps rs jB:=by obtain⟨cl,e1,e2⟩:=h.ev;refine⟨⟨cl,by rw[mN,A0q (by omega)];exact e1,by rw[hl];exact e2⟩,h.gi.iV hl hb,?_⟩;rw[hl];refine za h.wl (by rw[mN,A0q (by omega)]) (fun i bU hi=>?_) (e_ _ _ _ h.wl.ny (zu (fun _=>rfl) _));rw[mN,A0q];intro e;subst e;rw[h.gi.dV] at hi;cases hi
theorem AJ.N5 (h:AJ bs p T cs ps rs jB){ps':List Int}(hl:ps'.length=ps.length)(hb:∀s∈ps',0≤s∧s≤2000):AJ (sQ bs ps') p T cs ps' rs jB:=by obtain⟨cl,e1,e2⟩:=h.ev;refine⟨⟨cl,by rw[sQ,A0q (by omega)];exact e1,e2⟩,h.gi.N5 hl hb,?_⟩;refine za h.wl (by rw[sQ,A0q (by omega)]) (fun i bU hi=>?_) (e_ _ _ _ h.wl.ny (zu (fun _=>rfl) _));rw[sQ,A0q];intro e;subst e;rw[h.gi.Lc] at hi;cases hi
def Wrd (bs:List D)(b off:Nat)(ns:List Nat):Prop:=∀i (h:i<ns.length),∀X:List D,D.ld false 1 (.st (bs++X)) (.loc b (off+i*1))=some (sB (dd ns[i]))
theorem aqP (h:AJ bs p T cs ps rs jB){k Tn:Nat}(hT:T=Tn)(hk:k<cs.length){vb:List UInt8}{b off:Nat}(hw:Wrd bs b off [k+1,Tn]) :
  bu Tryz.prog 105 (.st bs) [.loc 1 0,.agg [sB vb,.sl b off 2]] (if mw p cs k 8=[] then .ret (.a_ []) else .ee (Xg 7)) (.st (if mw p cs k 8=[] then mN (bs++qN [k+1,Tn]) T (H9 cs k) else bs++qN [k+1,Tn])):=by
 have hd:=h.gi.FM;have ht:=h.gi.Sj;have h1:=h.app (p6 [k+1,Tn]);have QM:bu Tryz.prog 156 (.st bs) [.agg [sB vb,.sl b off 2],I 2] (.ret (Is [(k:Int)+1,(Tn:Int)])) (.st (bs++qN [k+1,Tn])):=ajx (x:=sB vb) (ns:=[k+1,Tn]) (by simp;omega) (by show 2≤6;decide) hw;generalize hB:bs++qN [k+1,Tn]=B1 at QM h1;obtain⟨cl,e1,e6,_,H_,_⟩:=h1.ev;have Yy:=ajw e1 e6 hk (by omega);rw[hT] at h1 ⊢;refine ag8.F7 rfl ?_;unfold aff;simp only[aB,aI,A0i,A0j]
 by_cases ho:mw p cs k 8=[]
 ·have acR:=aqv h1.gi hk ho;rw[A0z ho,A0z ho]
  repeat' (first|(apply bG;rfl)|(apply dS;rfl;rfl;exact aW e1 H_;simp only[au];rfl)|(apply aU;rfl;simp only[au];rfl)|(apply bC;rfl;rfl;exact Yy;rfl;simp only[au];rfl)|(apply dZ;rfl;rfl;exact acR;rfl;simp only[au];rfl)|(apply Im;rfl;rfl;exact ZJ;rfl;simp only[au];rfl)|(apply yA;rfl;rfl;exact QM;rfl;simp only[au];rfl)|(apply aH;rfl;first|exact rfl|(refine eX ?_)|(refine eV ?_)|(refine eW ?_)))
 ·have acR:=ajv h1.gi hk ho;rw[A0B ho,A0B ho]
  repeat' (first|(apply bG;rfl)|(apply dS;rfl;rfl;exact aW e1 H_;simp only[au];rfl)|(apply aU;rfl;simp only[au];rfl)|(apply bC;rfl;rfl;exact Yy;rfl;simp only[au];rfl)|(apply dZ;rfl;rfl;exact acR;rfl;simp only[au];rfl)|(apply Sb;rfl;rfl;exact agl rfl;rfl;(·exact⟨_,_,rfl⟩))|(apply yA;rfl;rfl;exact QM;rfl;simp only[au];rfl))
end
section
open Go.Proofs Go.Am.Sc
set_option maxRecDepth 100000
set_option maxHeartbeats 4000000
attribute [local irreducible] fK Tw.fK
variable {bs bs':List D} {p:Nat} {T:Int} {cs:List Cr} {ps:List Int} {rs:List Rp} {jB:D}
theorem acV (h:GI bs p T cs ps)(k:Nat)(hk:k<cs.length):(H9 cs k).length=cs.length∧∀x∈H9 cs k,-1≤x.post∧x.post<p:=by
 refine⟨by simp[H9],fun x hx=>?_⟩;rcases C0l hx with hx | rfl
 ·exact h.YV x hx
 ·have hg:cs[k]? = some (cs.getD k default):=by rw[A0k,A0e hk];rfl
  have:=h.YV _ (A0I hg);exact this
theorem aaX (h:AJ bs p T cs ps rs jB){k:Nat}(hk:k<cs.length){x:List D}(hx:aN x=true):AJ (mN (bs++x) T (H9 cs k)) p T (H9 cs k) ps rs jB∧Ie bs (mN (bs++x) T (H9 cs k)):=by obtain⟨g1,g2⟩:=acV h.gi k hk;refine⟨(h.app hx).iV g1 g2,(Ie.app bs x).trans ⟨by simp[mN],fun i hi h3 h4 h7=>?_⟩⟩;rw[mN,A0q (B0O h4)]
def Rv (num k q tm ar:Nat):Rp:=⟨0,num,1,(k:Int)+1,q,tm,ar⟩
theorem al0 {n:Nat}(h:n<4000000000000):D.bin .quo .int (I n) (I 1000)=some (I ((n / 1000:Nat):Int)):=by
 have h1:D.bin .quo .int (I n) (I 1000)=some (I (IntKind.i64.wrap ((n:Int).tdiv 1000))):=rfl;have h2:(n:Int).tdiv 1000=((n / 1000:Nat):Int):=by rw[D0l (by omega)];rfl
 rw[h1,h2,wrap64 (by omega)]
theorem abg {c num k q tm ar:Nat}(hp:2≤p)(hk:k<c)(hq:q<p)(hn:num≤1000)(ht:tm≤3000000)(ha:ar≤3000000):Tw.kW (tv c p) vi (Rv num k q tm ar)=true:=by
 have e:∀x lo hi:Int,lo≤x→x≤hi→Tw.fK x lo hi=true:=fun x lo hi h1 h2=>by unfold Tw.fK;simp[h1,h2]
 unfold Tw.kW;simp only[Rv,tv,vi];rw[e _ _ _ (by omega) (by decide),e _ _ _ (by omega) (by omega),e _ _ _ (by omega) (by omega),A0B (by decide),e _ _ _ (by omega) (by omega),e _ _ _ (by omega) (by omega),A0z (.inl trivial),e _ _ _ (by omega) (by omega)];rfl
abbrev o6:List UInt8:=[112,97,115,115]
theorem aqO (h:AJ bs p T cs ps rs jB){num k q tm ar:Nat}(hk:k<cs.length)(hq:q<p)(hst:(cs.getD k default).st=true)(hn:num≤1000)(ht:tm≤3000000)(ha:ar≤2000000)(hr:rs.length<100){b off:Nat}(hw:Wrd bs b off [0,num,k+1,q,tm,ar]) :
  ∃bs',bu Tryz.prog 106 (.st bs) [.loc 1 0,.agg [sB o6,.sl b off 6]] (.ret (.a_ [])) (.st bs')∧AJ bs' p T (zY cs k q) (ps.set q (max (ps.getD q 0) ((ar / 1000:Nat):Int))) (rs++[Rv num k q tm ar]) jB∧Ie bs bs':=by
 have hd:=h.gi.FM;have h1:=h.app (p6 [0,num,k+1,q,tm,ar]);have QM:bu Tryz.prog 156 (.st bs) [.agg [sB o6,.sl b off 6],I 6] (.ret (Is [0,(num:Int),(k:Int)+1,(q:Int),(tm:Int),(ar:Int)])) (.st (bs++qN [0,num,k+1,q,tm,ar])):=ajx (x:=sB o6) (ns:=[0,num,k+1,q,tm,ar]) (by simp;omega) (by show 6≤6;decide) hw;have hf1:Ie bs (bs++qN [0,num,k+1,q,tm,ar]):=Ie.app _ _;generalize hB:bs++qN [0,num,k+1,q,tm,ar]=B1 at QM h1 hf1;obtain⟨cl,e1,e6,e9,H_,WK,VB,el⟩:=h1.ev;have Yy:=ajw e1 e6 hk (by omega);obtain⟨B2,alc,w2,w3,w4⟩:=Tw.aq0 h1.wl (r:=Rv num k q tm ar) (abg (by omega) hk hq hn ht (by omega)) (by omega);have h5:=(A0c.1 h1.gi.wj).1;have ah4:GI B2 p T cs ps:=h1.gi.keep fun i hi1 hi2=>w4 i (by omega) (by omega);have h2:AJ B2 p T cs ps (rs++[Rv num k q tm ar]) jB:=⟨⟨cl,by rw[w4 1 (by omega) (by omega)];exact e1,e6,e9,H_,WK,VB,el⟩,ah4,w2⟩;have hf2:Ie B1 B2:=⟨w3,fun i hi _ _ h7=>w4 i hi h7⟩;obtain⟨ald,ah3⟩:=aqw ah4 (q:=q) (by omega) hk hst (s:=((ar / 1000:Nat):Int)) (by omega);have mR:(zY cs k q).length=cs.length:=by simp[zY]
 have h3:AJ (sQ (mN B2 T (zY cs k q)) (ps.set q (max (ps.getD q 0) ((ar / 1000:Nat):Int)))) p T (zY cs k q) (ps.set q (max (ps.getD q 0) ((ar / 1000:Nat):Int))) (rs++[Rv num k q tm ar]) jB:=(h2.iV mR ah3.YV).N5 (by simp) ah3.ZA;have hf3:Ie B2 (sQ (mN B2 T (zY cs k q)) (ps.set q (max (ps.getD q 0) ((ar / 1000:Nat):Int)))):=⟨by simp[sQ,mN],fun i hi h3 h4 _=>by rw[sQ,A0q (B0O h3),mN,A0q (B0O h4)]⟩;refine⟨_,?_,h3,(hf1.trans hf2).trans hf3⟩;have bQ:((⟨⟨o6⟩⟩:ByteArray).toList==(⟨#[110,111,116]⟩:ByteArray).toList)=false:=by rw[B0N,B0N];rfl
 have anO:vk ((⟨⟨o6⟩⟩:ByteArray).toList==(⟨#[110,111,116]⟩:ByteArray).toList) (I 2) (I 1)=I 1:=by rw[bQ];rfl
 have e12:B2[1]? = some (.blk 90 35 cl):=by rw[w4 1 (by omega) (by omega)];exact e1
 have hqk:=al0 (n:=ar) (by omega);refine ag7.F7 rfl ?_;unfold afe;simp only[aB,aI,A0i,A0j]
 repeat' (first|(apply dX;simp only[au];rfl)|(apply aaN;rfl;rfl;rfl;exact anO;simp only[au];rfl)|(apply bF;rfl;exact rfl)|(apply bG;rfl)|(apply dS;rfl;rfl;(·first|exact aW e1 WK|exact aW e12 e9|exact aW e12 H_);simp only[au];rfl)|(apply jl;rfl;rfl;exact hqk;simp only[au];rfl)|(apply aU;rfl;simp only[au];rfl)|(apply dZ;rfl;rfl;(·first|exact alc|exact ald);rfl;simp only[au];rfl)|(apply Im;rfl;rfl;(·first|exact Yy|exact ZJ);rfl;simp only[au];rfl)|(apply yA;rfl;rfl;exact QM;rfl;simp only[au];rfl)|(apply fp;rfl)|refine aO ?_|(apply aL;rfl;rfl)|refine aC ?_|refine kj rfl ?_|exact aH rfl rfl|(apply aH;rfl;first|exact rfl|(refine eX ?_)|(refine eV ?_)|(refine eW ?_))|(intro hz;(try simp only[gq] at hz)))
end
section
open Go.Proofs Go.Am.Sc
set_option maxRecDepth 100000
set_option maxHeartbeats 4000000
variable {bs:List D}
theorem Xi {es:List D}{key val:D}(h:D.jU .str key es=some none):D.m4 (.put .str) (.st (bs++[.cg es])) (.mp bs.length) key val=some (.st (bs++[.cg (es++[.a_ [key,val]])])):=by simp[D.m4,D.I2,h]
abbrev pO:List UInt8:=[115,116,97,114,116]
def zM (k:List UInt8)(f:Nat):D:=.a_ [sB k,.fn f [.loc 1 0] []]
def Px:List D:=[zM [111,112,101,110] 103,zM [99,108,111,115,101] 103,zM [99,111,118,101,114,101,100] 103,zM [117,110,99,111,118,101,114,101,100] 103,zM [112,111,115,116] 103,zM [114,101,100] 103,zM [103,114,101,101,110] 103,zM [115,97,102,101] 104,zM [102,111,117,110,100] 104,zM [115,116,97,114,116] 105,zM [112,97,115,115] 106,zM [110,111,116] 106,zM [111,117,116] 107,zM [118,111,105,100] 108,zM [99,108,97,115,115] 109,zM [108,101,103] 110,zM [108,105,110,101] 111,zM [116,97,107,101] 112,zM [112,117,98,108,105,115,104] 113,zM [112,114,111,116,101,115,116] 114,zM [100,101,99,105,100,101] 115,zM [114,101,106,101,99,116] 115,zM [97,112,112,101,97,108] 116,zM [106,117,100,103,101] 115,zM [100,105,115,109,105,115,115] 115,zM [100,114,111,112] 117]
theorem c59:aZ Tryz.prog 59 (.st bs) [.loc 1 0] (.mp bs.length) (.st (bs++[.cg Px])):=by
 refine am5.W rfl ?_;unfold u59;simp only[aB,aI,A0i,A0j]
 repeat' (first|(apply kT;rfl;rfl;rfl;rfl;(·exact Xi (by kernel_rfl));simp only[au];rfl)|(apply aU;rfl;simp only[au];rfl)|exact aH rfl rfl)
theorem R8:D.jU .str (sB pO) Px=some (some (9,.fn 105 [.loc 1 0] [])):=by kernel_rfl
theorem WQ:D.jU .str (sB o6) Px=some (some (10,.fn 106 [.loc 1 0] [])):=by kernel_rfl
theorem Va {X:List D}{m j:Nat}{k f z:D}(hm:X[m]? = some (.cg Px))(h:D.jU .str k Px=some (some (j,f))):D.m4 (.xM .str) (.st X) (.mp m) k z=some (.a_ [f,B true]):=by have hk:D.kept Px=Px:=rfl;simp only[D.m4,D.entries,hm,A0d,hk,h,A0y]
end
section
open Go.Proofs Go.Am.Sc
set_option maxRecDepth 100000
set_option maxHeartbeats 4000000
attribute [local irreducible] fK Tw.fK
variable {bs:List D} {ws:List (List UInt8)}
theorem c58 (l:List UInt8):aZ Tryz.prog 58 (.st bs) [sB l] (.fn 101 [] [.loc bs.length 0]) (.st (bs++[.blk 9 1 [sB l]])):=by
 refine am6.W rfl ?_;unfold u58;simp only[aB,aI,A0i,A0j]
 repeat' (first|(apply aU;rfl;simp only[au];rfl)|exact aH rfl rfl)
def wc (w:List UInt8):List D:=[sB w]
theorem F_ (w:List UInt8):(wc w).length=1:=rfl
structure WI (bs:List D)(ws:List (List UInt8))(k j:Nat)(st:List D):Prop where
 le:bs.length+3≤st.length
 old:∀i,i<bs.length→st[i]? = bs[i]?
 err:st[bs.length]? = some (.blk 25 1 [I 0])
 bk:∃s,st[bs.length+1]? = some (.blk 45 1 [s])∧jI st 9 1 wc s (ws.take k)∧∀b,s.Em=some b→bs.length+3≤b
 ln:st[bs.length+2]? = some (.blk 9 1 [sB (jw (ws.drop j))])
 ny:aN st=true
def WR (bs:List D)(w:List UInt8)(st eT:List D):Prop:=∃s fN s',st[bs.length+1]? = some (.blk 45 1 [s])∧D.gM 9 1 16 (.st st) s (.bk [sB w])=some (.st fN)∧D.apps (.st st) s (.bk [sB w])=some s'∧D.eL 1 (.st fN) (.loc (bs.length+1) 0) s'=some (.st eT)
theorem WI.step {k:Nat}{st:List D}(h:WI bs ws k k st)(hk:k<ws.length)(hL:ws.length≤20):∃eT,WR bs ws[k] st eT∧WI bs ws (k+1) k eT:=by
 obtain⟨s,s1,s2,s3⟩:=h.bk;have hl:(ws.take k).length≤20:=by rw[B0g];omega
 obtain⟨fN,a1,a2,a3,a4,a5⟩:=s2.append (bytes:=16) (x:=ws[k]) (y:=sB ws[k]) F_ rfl rfl (by omega) (by simp[maxLen];omega);have hle:=h.le;have ho:s.Em≠some (bs.length+1):=fun e=>by have:=s3 _ e;omega
 have Lj:fN[bs.length+1]? = some (.blk 45 1 [s]):=by rw[a5 _ (by omega) ho,s1]
 have hst:=gW (k:=0) (d:=D.sl st.length 0 ((ws.take k).length+1)) Lj (by simp) rfl;have htk:ws.take (k+1)=ws.take k++[ws[k]]:=A0O hk;have ab8:aN fN=true:=by
  rcases s2 with⟨e1,rfl⟩ | ⟨i,rfl,hi⟩
  ·simp only[D.gM,D.Ic,C0w,B0n] at a1;split at a1
   ·cases a1;rw[bT,h.ny];rfl
   ·cases a1
  ·simp only[D.gM,D.Ic,C0w,B0n] at a1;simp only[D.eG,hi,A0d] at a1;split at a1
   ·cases a1;have nh:=dH h.ny hi;rw[bT,e_ st i (.a_ []) h.ny rfl];simp only[D.bZ] at nh;simp[aN,D.bZ,bT,nh,cH,D.cells]
   ·split at a1
    ·cases a1;have nh:=dH h.ny hi;rw[bT,e_ st i (.a_ []) h.ny rfl];simp only[D.bZ] at nh;simp[aN,D.bZ,bT,q7 _ _ nh,cH,D.cells]
    ·cases a1
 refine⟨_,⟨s,fN,_,s1,a1,a2,hst⟩,⟨by rw[B0L,a4];omega,fun i hi=>?_,?_,⟨_,by rw[A0M (by omega)];rfl,.inr ⟨st.length,by rw[show(ws.take (k+1)).length=(ws.take k).length+1 by simp only[B0g];omega],?_⟩,fun b hb=>by cases hb;exact hle⟩,?_,e_ _ _ _ ab8 rfl⟩⟩
 ·rw[A0q (by omega),a5 i (by omega) (fun e=>by have:=s3 _ e;omega)];exact h.old i hi
 ·rw[A0q (by omega),a5 _ (by omega) (fun e=>by have:=s3 _ e;omega)];exact h.err
 ·rw[A0q (by omega),htk];exact a3
 ·rw[A0q (by omega),a5 _ (by omega) (fun e=>by have:=s3 _ e;omega)];exact h.ln
theorem WI.next {k:Nat}{st:List D}(h:WI bs ws (k+1) k st):WI bs ws (k+1) (k+1) (st.set (bs.length+2) (.blk 9 1 [sB (jw (ws.drop (k+1)))])):=by obtain⟨s,s1,s2,s3⟩:=h.bk;have hle:=h.le;refine⟨by rw[B0L];exact hle,fun i hi=>by rw[A0q (by omega)];exact h.old i hi,by rw[A0q (by omega)];exact h.err,⟨s,by rw[A0q (by omega)];exact s1,s2.keep fun i hi=>by rw[A0q (by have:=s3 i hi;omega)],s3⟩,by rw[A0M (by omega)],e_ _ _ _ h.ny rfl⟩
theorem aer (h:Wds ws)(hL:ws.length≤20)(Ag:aN bs=true):∃g g':Nat→List D,g 0=bs++[.blk 25 1 [I 0]]++[.blk 45 1 [.bS]]++[.blk 9 1 [sB (jw ws)]]∧(∀k,k<ws.length→WI bs ws k k (g k))∧(∀k (hk:k<ws.length),WR bs ws[k] (g k) (g' k)∧WI bs ws (k+1) k (g' k))∧∀k,k+1<ws.length→g (k+1)=(g' k).set (bs.length+2) (.blk 9 1 [sB (jw (ws.drop (k+1)))]):=by
 have h0:WI bs ws 0 0 (bs++[.blk 25 1 [I 0]]++[.blk 45 1 [.bS]]++[.blk 9 1 [sB (jw ws)]]):=by
  refine⟨by simp,fun i hi=>?_,by simp,⟨.bS,by simp,.inl ⟨rfl,rfl⟩,fun b hb=>by cases hb⟩,by simp,?_⟩
  ·rw[A0A,A0A,A0g hi]
  ·rw[bT,bT,bT,Ag];rfl
 have hn:0<ws.length:=B0x.2 h.ne;obtain⟨f,f0,f1,f2⟩:=Zv (N:=ws.length-1) (s0:=bs++[.blk 25 1 [I 0]]++[.blk 45 1 [.bS]]++[.blk 9 1 [sB (jw ws)]]) (J:=fun k st=>WI bs ws k k st)
  (R:=fun k st st2=>∀hk:k<ws.length,∃eT,WR bs ws[k] st eT∧WI bs ws (k+1) k eT∧st2=eT.set (bs.length+2) (.blk 9 1 [sB (jw (ws.drop (k+1)))])) h0 (fun k st hk hJ=>by
   obtain⟨eT,r1,r2⟩:=hJ.step (by omega) hL;exact⟨_,fun _=>⟨eT,r1,r2,rfl⟩,r2.next⟩)
 have hA:∀k:Nat,∃eT:List D,∀hk:k<ws.length,WR bs ws[k] (f k) eT∧WI bs ws (k+1) k eT∧(k+1<ws.length→f (k+1)=eT.set (bs.length+2) (.blk 9 1 [sB (jw (ws.drop (k+1)))])):=by
  intro k
  by_cases hk:k<ws.length
  ·by_cases Ef:k<ws.length-1
   ·obtain⟨eT,r1,r2,r3⟩:=f2 k Ef hk;exact⟨eT,fun _=>⟨r1,r2,fun _=>r3⟩⟩
   ·obtain⟨eT,r1,r2⟩:=(f1 k (by omega)).step hk hL;exact⟨eT,fun _=>⟨r1,r2,fun h=>by omega⟩⟩
  ·exact⟨[],fun h=>absurd h hk⟩
 obtain⟨g',Yi⟩:=E0n hA;exact⟨f,g',f0,fun k hk=>f1 k (by omega),fun k hk=>⟨(Yi k hk).1,(Yi k hk).2.1⟩,fun k hk=>(Yi k (by omega)).2.2 hk⟩
theorem ap8 {X:List D}{e:Nat}:rS Tryz.prog 57 (.st X) [.loc e 0] none (.st X):=by
 refine agp.recoverD (d0:=.a_ []) rfl rfl ?_;unfold u57;simp only[aB,aI,A0i,A0j]
 repeat' (first|(apply dX;simp only[au];rfl)|(apply bf;rfl;exact rfl)|(apply aU;rfl;simp only[au];rfl)|refine aO ?_|(apply aL;rfl;rfl)|refine aC ?_|refine kj rfl ?_|exact aH rfl rfl)
theorem ap7 {X:List D}{b:Nat}{e:Int}(hb:X[b]? = some (.blk 25 1 [I 0])):rS Tryz.prog 57 (.st X) [.loc b 0] (some (Xg e)) (.st (X.set b (.blk 25 1 [I e]))):=by
 have hs:=gW (k:=0) (d:=I e) hb (by simp) rfl;refine agp.recoverD (d0:=.a_ []) rfl rfl ?_;unfold u57;simp only[aB,aI,A0i,A0j]
 repeat' (first|(apply dX;simp only[au];rfl)|(apply bF;rfl;exact rfl)|(apply bf;rfl;exact rfl)|(apply bG;rfl)|(apply je;rfl;rfl;rfl;exact hs;simp only[au];rfl)|(apply aU;rfl;simp only[au];rfl)|refine aO ?_|(apply aL;rfl;rfl)|refine aC ?_|refine kj rfl ?_|exact aH rfl rfl)
end
section
open Go.Proofs Go.Am.Sc
set_option maxRecDepth 100000
set_option maxHeartbeats 4000000
attribute [local irreducible] fK Tw.fK
variable {bs:List D} {ws:List (List UInt8)}
theorem Wu {env:List D}{h l:E}{dh dl d:D}{g:Bool}{k:Nat}(hh:h.eval env=some dh)(hl:l.eval env=some dl)(hd:D.ld g k dh dl=some d):(E.ld g k h l).eval env=some d:=by simp only[E.eval,hh,hl,A0d,hd]
theorem evK {env:List D}{x:E}{r:List E}{d:D}{ds:List D}(hx:x.eval env=some d)(hr:aA env r=some ds):aA env (x :: r)=some (d :: ds):=by simp[aA,hx,hr]
theorem apG {env:List D}{x y z:E}{dx dy dz d:D}(hx:x.eval env=some dx)(hy:y.eval env=some dy)(hz:z.eval env=some dz)(hd:D.apps dx dy dz=some d):(E.apps x y z).eval env=some d:=by simp only[E.eval,hx,hy,hz,A0d,hd]
structure Ap (bs:List D)(ws:List (List UInt8))(st:List D)(b:Nat):Prop where
 le:bs.length≤st.length
 old:∀i,i<bs.length→st[i]? = bs[i]?
 blk:st[b]? = some (.blk 9 1 (ws.flatMap wc))
 err:st[bs.length]? = some (.blk 25 1 [I 0])
 ny:aN st=true
theorem c31 (Ag:aN bs=true)(h:Wds ws)(hL:ws.length≤20)(h2:2≤ws.length)(hl:(jw ws).length≤200){w:List UInt8}(hw:ws[0]? = some w){j f:Nat}(hv:D.jU .str (sB w) Px=some (some (j,.fn f [.loc 1 0] [])))(hc:bL Tryz.prog f=true) :
  ∃st b,Ap bs ws st b ∧
   (∀oK,bu Tryz.prog f (.st st) [.loc 1 0,.agg [sB w,.sl b 1 (ws.length-1)]] (.ret (.a_ [])) (.st oK)→oK[bs.length]? = some (.blk 25 1 [I 0])→bu Tryz.prog 31 (.st bs) [.loc 1 0,sB (jw ws)] (.ret (I 0)) (.st oK)) ∧
   ∀oK e,bu Tryz.prog f (.st st) [.loc 1 0,.agg [sB w,.sl b 1 (ws.length-1)]] (.ee (Xg e)) (.st oK)→oK[bs.length]? = some (.blk 25 1 [I 0])→bu Tryz.prog 31 (.st bs) [.loc 1 0,sB (jw ws)] (.ret (I e)) (.st (oK.set bs.length (.blk 25 1 [I e]))):=by
 obtain⟨g,g',g0,gI,gR,gN⟩:=aer h hL Ag;have hn:0<ws.length:=by omega
 obtain⟨_,mM⟩:=gR (ws.length-1) (by omega);rw[show ws.length-1+1=ws.length by omega] at mM;obtain⟨s,s1,s2,s3⟩:=mM.bk;rw[C0d] at s2;obtain⟨b,rfl,hb⟩:∃b,s=.sl b 0 ws.length∧(g' (ws.length-1))[b]? = some (.blk 9 1 (ws.flatMap wc)):=by
  rcases s2 with⟨e,_⟩ | ⟨b,e,hb⟩
  ·rw[e] at hn;exact absurd hn (E0O _)
  ·exact⟨b,e,hb⟩
 have hle:=mM.le;generalize hE:g' (ws.length-1)=E at mM s1 hb hle;have uT:=(A0c.1 hb).1;have m1:(E++[D.cg Px])[E.length]? = some (.cg Px):=D0P;have m2:∀{i:Nat} {x:D},E[i]? = some x→(E++[D.cg Px])[i]? = some x:=fun {i x} hi=>by rw[A0g (A0c.1 hi).1];exact hi
 have Al:(bs++[D.blk 25 1 [I 0]]).length=bs.length+1:=by simp
 have O2:(bs++[D.blk 25 1 [I 0]]++[D.blk 45 1 [.bS]]).length=bs.length+2:=by simp
 refine⟨E++[.cg Px],b,⟨by simp;omega,fun i hi=>by rw[A0g (by omega)];exact mM.old i hi,m2 hb,m2 mM.err,by rw[bT,mM.ny];rfl⟩,?_⟩;have s1':=m2 s1;have fI:=m2 hb;rw[←Al] at s1 s1';have Yf:D.ld false 1 (.st (E++[D.cg Px])) (.loc b (0*1))=some (sB w):=mG (k:=0) fI F_ hw rfl;have aab:D.ld false 1 (.st E) (.loc b (0*1))=some (sB w):=mG (k:=0) hb F_ hw rfl;have qE:D.ax 1 (.sl b 0 ws.length) (I 0)=some (.loc b (0*1)):=fA (i:=0) hn;have hgo:=Va (z:=.v .nilFunc) m1 hv;have ML:D.sub 1 (.sl b 0 ws.length) (I 1) (In ws.length)=some (.sl b 1 (ws.length-1)):=by
  simp only[D.sub];rw[A0z ⟨by omega,by omega,by omega,by omega⟩,A0z (by omega)];have:((ws.length:Int)-1).toNat=ws.length-1:=by omega
  rw[this];rfl
 have hlg:decide ((((⟨⟨jw ws⟩⟩:ByteArray).size:Nat):Int) > 200)=false:=by have:(⟨⟨jw ws⟩⟩:ByteArray).size=(jw ws).length:=rfl;rw[this];simp;omega
 have ZW:∀{m0:Nat} {rec:Loop} {sl:List Nat} {eH:List D},(∀k (hk:k<ws.length),r7 Tryz.prog (.yl m0 rec sl eH) (.st (g k)) [sB ws[k]] (.st (g' k)))→aZ Tryz.prog 101 (.st (g 0)) [.yl m0 rec sl eH,.loc (bs++[D.blk 25 1 [I 0]]++[D.blk 45 1 [.bS]]).length 0] (.a_ []) (.st E):=by intro m0 rec sl eH hy;have:=aqQ (m0:=m0) (rec:=rec) (sl:=sl) (eH:=eH) (b:=bs.length+2) h g g' (fun k hk=>(gI k hk).ln) (fun k hk=>⟨hy k hk,(gR k hk).2.ln⟩) gN;rw[hE,←O2] at this;exact this
 refine⟨fun oK hf he=>?_,fun oK e hf he=>?_⟩
 ·have hst:=gW (k:=0) (d:=I 0) he (by simp) rfl;rw[show([I 0]:List D).set 0 (I 0)=[I 0] from rfl,afz he] at hst;refine agq.VG rfl ?_;unfold u31;simp only[aB,aI,A0i,A0j]
  repeat' (first|(apply bf;rfl;exact hlg)|(apply aU;rfl;simp only[au];rfl)|(apply dZ;rfl;rfl;exact c58 _;rfl;simp only[au];rfl)|(apply Zp;rfl;rfl)|refine aO ?_)
  refine Gc (.a_ []) (.st E) rfl (by kernel_rfl) rfl ?_ (by simpa[D.bZ] using mM.ny) (fun eH m0 rec vB=>?_) (by simp only[au];rfl) ?_
  ·repeat' (first|exact HC|((apply Dx);rfl;(·first|rfl|(simp[aN,D.bZ,D.cells];done))))
  ·have:=ZW (m0:=m0) (rec:=rec) (eH:=eH) (sl:=[0,1,4,5,10,11,12,13,14]) fun k hk=>?_
   ·rw[g0] at this;exact this
   ·obtain⟨Yw,_⟩:=gR k hk;have Ut:=(gI k hk).ny;generalize ws[k]=x at Yw ⊢;generalize g k=X at Yw Ut ⊢;generalize g' k=X' at Yw ⊢;refine vB _ _ _ (by simpa[D.bZ] using Ut) rfl rfl ?_;obtain⟨s',fN,s4,q1,q2,q3,q4⟩:=Yw;rw[←Al] at q1 q4
    repeat' (first|(apply BF;rfl;rfl;rfl;rfl;rfl;exact q3;exact q4;simp only[au];rfl)|(apply dS;rfl;rfl;exact aW q1 rfl;simp only[au];rfl)|(apply yC;rfl;rfl;rfl;exact q2;simp only[au];rfl)|(apply aU;rfl;simp only[au];rfl)|refine aO ?_)
    refine aL (evK (apG rfl rfl rfl q3) rfl) rfl ?_
    repeat' (first|(apply dX;simp only[au];rfl)|(apply aL;rfl;rfl)|refine aC ?_|refine kj rfl ?_)
    rfl
  ·repeat' (first|(apply dX;simp only[au];rfl)|(apply bf;rfl;exact rfl)|(apply Gb;(·first|exact Wu rfl rfl (aW s1' rfl)|exact Wu rfl rfl Yf);(·first|exact Wu rfl rfl (aW s1 rfl)|exact Wu rfl rfl aab);(·(simp[D.same,Value.same];done));simp only[au];rfl)|(apply dS;rfl;rfl;(·first|exact aW s1' rfl|exact Yf);simp only[au];rfl)|(apply bH;rfl;rfl;exact qE;simp only[au];rfl)|(apply BE;rfl;rfl;rfl;exact ML;simp only[au];rfl)|(apply kT;rfl;rfl;rfl;rfl;exact hgo;simp only[au];rfl)|(apply aU;rfl;simp only[au];rfl)|(apply dZ;rfl;rfl;exact c59;rfl;simp only[au];rfl)|(apply aL;rfl;rfl)|refine aC ?_|refine kj rfl ?_)
   refine LA rfl hc rfl rfl hf rfl (by simp only[au];rfl) ?_
   repeat' (((with_reducible apply je);(·rfl);(·rfl);(·rfl);(·exact hst);(·simp only[au];rfl)))
   exact aH rfl ⟨_,_,ap8,Wu rfl rfl (aW he rfl),rfl⟩
 ·have yu:(oK.set bs.length (.blk 25 1 [I e]))[bs.length]? = some (.blk 25 1 [I e]):=A0M (A0c.1 he).1;refine agq.VG rfl ?_;unfold u31;simp only[aB,aI,A0i,A0j]
  repeat' (first|(apply bf;rfl;exact hlg)|(apply aU;rfl;simp only[au];rfl)|(apply dZ;rfl;rfl;exact c58 _;rfl;simp only[au];rfl)|(apply Zp;rfl;rfl)|refine aO ?_)
  refine Gc (.a_ []) (.st E) rfl (by kernel_rfl) rfl ?_ (by simpa[D.bZ] using mM.ny) (fun eH m0 rec vB=>?_) (by simp only[au];rfl) ?_
  ·repeat' (first|exact HC|((apply Dx);rfl;(·first|rfl|(simp[aN,D.bZ,D.cells];done))))
  ·have:=ZW (m0:=m0) (rec:=rec) (eH:=eH) (sl:=[0,1,4,5,10,11,12,13,14]) fun k hk=>?_
   ·rw[g0] at this;exact this
   ·obtain⟨Yw,_⟩:=gR k hk;have Ut:=(gI k hk).ny;generalize ws[k]=x at Yw ⊢;generalize g k=X at Yw Ut ⊢;generalize g' k=X' at Yw ⊢;refine vB _ _ _ (by simpa[D.bZ] using Ut) rfl rfl ?_;obtain⟨s',fN,s4,q1,q2,q3,q4⟩:=Yw;rw[←Al] at q1 q4
    repeat' (first|(apply BF;rfl;rfl;rfl;rfl;rfl;exact q3;exact q4;simp only[au];rfl)|(apply dS;rfl;rfl;exact aW q1 rfl;simp only[au];rfl)|(apply yC;rfl;rfl;rfl;exact q2;simp only[au];rfl)|(apply aU;rfl;simp only[au];rfl)|refine aO ?_)
    refine aL (evK (apG rfl rfl rfl q3) rfl) rfl ?_
    repeat' (first|(apply dX;simp only[au];rfl)|(apply aL;rfl;rfl)|refine aC ?_|refine kj rfl ?_)
    rfl
  ·repeat' (first|(apply dX;simp only[au];rfl)|(apply bf;rfl;exact rfl)|(apply Gb;(·first|exact Wu rfl rfl (aW s1' rfl)|exact Wu rfl rfl Yf);(·first|exact Wu rfl rfl (aW s1 rfl)|exact Wu rfl rfl aab);(·(simp[D.same,Value.same];done));simp only[au];rfl)|(apply dS;rfl;rfl;(·first|exact aW s1' rfl|exact Yf);simp only[au];rfl)|(apply bH;rfl;rfl;exact qE;simp only[au];rfl)|(apply BE;rfl;rfl;rfl;exact ML;simp only[au];rfl)|(apply kT;rfl;rfl;rfl;rfl;exact hgo;simp only[au];rfl)|(apply aU;rfl;simp only[au];rfl)|(apply dZ;rfl;rfl;exact c59;rfl;simp only[au];rfl)|(apply aL;rfl;rfl)|refine aC ?_|refine kj rfl ?_)
   exact LB rfl hc rfl rfl hf rfl ⟨rfl,_,_,ap7 he,Wu rfl rfl (aW yu rfl),rfl⟩
end
section
open Go.Proofs
abbrev Sr (f:Nat)(g:Func)(r o:Bool)(w m:List Nat)(z:List (Nat×Nat)):Spec:=⟨f,g,{ (aq r (w++ct) cu m z g) with aS:=true,cn:=true },o,.plain,false⟩
abbrev Sq (f:Nat)(g:Func)(r o:Bool):Spec:=Sr f g r o [] [] []
end
section
open Go.Proofs
set_option maxRecDepth 100000
def aiI:Fact:=⟨223,[i 16],b true⟩
noncomputable def ac9:List Spec:=[Sq 223 Tryz.f223 true true]
theorem ac_:(aiI:Fact).ok Tryz.prog b0:=HA (l:=ac9) ⟨Tryz.func223,trivial⟩ (iR (b0:=b0) (l:=[]) trivial) aiI 200 40 (by kernel_rfl) FX (by kernel_rfl) tU (by kernel_rfl)
def aiH:Fact:=⟨224,[.v (.int .u64 16)],i 4⟩
noncomputable def ac6:List Spec:=[Sq 224 Tryz.f224 true true,Sq 261 Tryz.f261 true false]
theorem ac7:(aiH:Fact).ok Tryz.prog b0:=HA (l:=ac6) ⟨Tryz.func224,Tryz.func261,trivial⟩ (iR (b0:=b0) (l:=[]) trivial) aiH 200 40 (by kernel_rfl) FX (by kernel_rfl) tU (by kernel_rfl)
end
end Go.Am.To
