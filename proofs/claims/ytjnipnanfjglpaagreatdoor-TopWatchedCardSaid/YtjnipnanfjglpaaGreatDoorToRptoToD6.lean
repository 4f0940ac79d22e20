/-
  Several texts, one behind the other.
-/
import Derived.Test.YtjnipnanfjglpaaGreatDoorAmTabWtoAmUnder
import Derived.Test.YtjnipnanfjglpaaGreatDoorToC5toToRep
import Derived.Test.YtjnipnanfjglpaaGreatDoorToBasetoScAct
import Derived.Test.YtjnipnanfjglpaaGreatDoorAmFntoAmTabK
import Derived.Test.YtjnipnanfjglpaaGreatDoorAmKilltoAmOut
set_option linter.unusedSimpArgs false
set_option linter.unusedVariables false
namespace Go.Am.To
section
open Go.Proofs
set_option maxRecDepth 100000
noncomputable def NQ:ug:=[e92,Zq,Zp,Zb,Za]
theorem YI:∀e,e∈NQ→ak Tryz.prog e:=o1' V6<|o1' WC<|o1' WB<|o1' Wo<|o1' Wn<|o0'
def zs (k:Nat):D:=.v (.string ⟨⟨List.replicate k 48⟩⟩)
noncomputable def ckZ (k:Nat):Bool:=L4 (zs k) ((j6 Tryz.prog NQ 200 b0 (qC b0 []) 40).R 92 (.st b0) [zs 1,i (k:Nat)])
theorem Qt:(List.range 16).all ckZ=true:=by kernel_rfl
theorem Ug {k:Nat}(h:k<16)(g:List D):aU Tryz.prog 92 (.st (b0++g)) [zs 1,i (k:Nat)] (zs k):=by
 have h1:aU Tryz.prog 92 (.st (b0++[])) [zs 1,i (k:Nat)] (zs k):=by
  refine pL (g:=[]) (n:=200) (m:=40) (b0:=b0) (gw (b0:=b0) (l:=[]) trivial) YI ?_
  exact A0z.1 Qt k (List.mem_range.2 h)
 exact eD.ofA z8 (b0:=b0) (by simpa using h1) rfl rfl g
end

section
open Go.Proofs Go.Am.Sc
set_option maxRecDepth 100000
set_option maxHeartbeats 4000000

abbrev Uu (n:Int):D:=.v (.int .u64 n)
abbrev St (s:ByteArray):D:=.v (.string s)

variable {bs:List D}

def stp (h:Int)(c:UInt8):Int:=IntKind.u64.wrap (IntKind.u64.wrap (BitVec.ofInt 64 h ^^^ BitVec.ofInt 64 (IntKind.u64.wrap (c.toNat:Int))).toNat*1099511628211)


def Ul (h:Int)(s:ByteArray):Nat→Int
 | 0=>h
 | k+1=>match s[k]? with | some c=>stp (Ul h s k) c | none=>Ul h s k

def chF (h:Int)(s:ByteArray):Int:=IntKind.u64.wrap (Ul h s s.size*1099511628211)

theorem N_ {h:Int}{s:ByteArray}{k:Nat}(hk:k<s.size):Ul h s (k+1)=stp (Ul h s k) s[k]:=by
 rw[Ul,getElem?_pos s k hk]

theorem O9 {s:ByteArray}{k:Nat}(hk:k<s.size):D.m4 .kg (St s) (I k) (.agg []) (.agg [])=some (.v (.int .u8 s[k].toNat)):=by
 simp[D.m4,D.kg,getElem?_pos s k hk]

theorem c46 {h:Int}{s:ByteArray}(hs:s.size≤maxLen):aU Tryz.prog 46 (.st bs) [Uu h,St s] (Uu (chF h s)):=by
 have hs':s.size≤9223372036854775807:=hs
 refine ac3.R rfl rfl ?_
 unfold u46
 simp only[aP,bg,A0q,A0r]
 repeat' (first|(apply bk;rfl;simp only[az];rfl)|refine aK ?_)
 refine dX (fun i=>[Uu (Ul h s i),I i]) (fun _=>True) s.size rfl (fun _=>rfl) trivial (fun i hi _ R hR=>?_) (fun _ R=>?_)
 ·have iS:decide ((i:Int)<(s.size:Int))=true:=by simp;omega
  repeat' (first|(apply eZ;simp only[az];rfl)|(apply bK;rfl;exact iS)|(apply OZ;rfl;rfl;rfl;rfl;exact O9 hi;simp only[az];rfl)|(apply mR;rfl;rfl;omega;simp only[az];rfl)|(apply bk;rfl;simp only[az];rfl)|refine aK ?_|(apply aR;rfl;rfl)|refine aF ?_|refine kj rfl ?_)
  refine(N_ hi ▸ hR trivial:_)
 ·repeat' (first|(apply eZ;simp only[az];rfl)|(apply bk;rfl;simp only[az];rfl)|(apply aR;rfl;rfl)|refine aF ?_|(refine bJ (by decide) ?_)|refine kj rfl ?_|(apply iz;rfl;all_goals (intro hz;(try simp only[gQ] at hz);first|(exact absurd hz (by decide))|(exfalso;omega)|skip))|exact aS rfl rfl)


theorem Ji (h:Int)(s:ByteArray):∃n:Nat,chF h s=n∧n<18446744073709551616:=by
 unfold chF
 exact Lh _

def txt (n:Nat):ByteArray:=⟨(dg 16 n).toArray⟩

abbrev KU (c:UInt8):D:=.v (.int .u8 (c.toNat:Int))


def ar (n k:Nat):List D:=List.replicate (65-k) (.v (.int .u8 0))++(dg k n).map KU

def sK (n k:Nat):List D:=b0++[.bh 346 65 (ar n k)]

theorem On {n k:Nat}(h:k≤65):(ar n k).length=65:=by simp[ar,nD];omega

theorem Ut {n k:Nat}(h:k<65):(ar n k).set (64-k) (KU (HA (qk n k % 16)))=ar n (k+1):=by
 unfold ar
 rw[show 65-k=(64-k)+1 from by omega,List.replicate_succ',B0b,List.set_append_right _ _ (by simp),List.length_replicate,Nat.sub_self,List.singleton_append,List.set_cons_zero,Qr,List.map_cons,show 65-(k+1)=64-k from by omega]

theorem LO (n k:Nat):(sK n k)[b0.length]? = some (.bh 346 65 (ar n k)):=by simp[sK]

theorem LF {n k:Nat}(h:k<65):D.eY 1 (.st (sK n k)) (.loc b0.length (64-k)) (KU (HA (qk n k % 16)))=some (.st (sK n (k+1))):=by
 rw[jq (LO n k) (by rw[On (by omega)];omega) rfl,Ut h]
 simp[sK]

theorem Uv (x:Nat):D.bin .and .int (Uu x) (Uu 15)=some (Uu ((x % 16:Nat):Int)):=by
 have h1:D.bin .and .int (Uu x) (Uu 15)=some (Uu (IntKind.u64.wrap (BitVec.ofInt 64 (x:Int) &&& BitVec.ofInt 64 15).toNat)):=rfl
 have h2:(BitVec.ofInt 64 (x:Int) &&& BitVec.ofInt 64 15).toNat=x % 16:=by
  rw[BitVec.toNat_and]
  have e1:(BitVec.ofInt 64 (x:Int)).toNat=x % 2 ^ 64:=by simp[BitVec.toNat_ofInt]
  have e2:(BitVec.ofInt 64 (15:Int)).toNat=2 ^ 4-1:=rfl
  rw[e1,e2,Nat.and_two_pow_sub_one_eq_mod]
  omega
 rw[h1,h2,IntKind.wrap_u64]
 congr 3
 omega

theorem Sa (x:Nat):D.bin .shr .int (Uu x) (Uu 4)=some (Uu ((x / 16:Nat):Int)):=by
 have h1:D.bin .shr .int (Uu x) (Uu 4)=some (Uu ((x:Int).fdiv 16)):=rfl
 rw[h1,Int.fdiv_eq_ediv_of_nonneg _ (by omega)]
 rfl

theorem MK {d:Nat}(hd:d<16):D.m4 .kg (.v (.string ⟨#[48,49,50,51,52,53,54,55,56,57,97,98,99,100,101,102,103,104,105,106,107,108,109,110,111,112,113,114,115,116,117,118,119,120,121,122]⟩)) (Uu d) (.agg []) (.agg [])=some (KU (HA d)):=by
 have h:d=0∨d=1∨d=2∨d=3∨d=4∨d=5∨d=6∨d=7∨d=8∨d=9∨d=10∨d=11∨d=12∨d=13∨d=14∨d=15:=by omega
 rcases h with rfl | rfl | rfl | rfl | rfl | rfl | rfl | rfl | rfl | rfl | rfl | rfl | rfl | rfl | rfl | rfl <;> (show _=some _;kernel_rfl)

theorem RL {m:Nat}(h:m<65):D.m4 (.iL 65 1) (.loc b0.length 0) (I m) (.agg []) (.agg [])=some (.loc b0.length m):=by
 have:((0:Int)≤(m:Int)∧(m:Int)<65):=by omega
 simp[D.m4,D.iL,this,D.aD]

theorem LB {m:Nat}(h:m<1000):D.bin .sub .int (I ((m+1:Nat):Int)) (I 1)=some (I (m:Int)):=by
 have h1:D.bin .sub .int (I ((m+1:Nat):Int)) (I 1)=some (I (IntKind.i64.wrap (((m+1:Nat):Int)-1))):=rfl
 rw[h1,IntKind.wrap_i64]
 congr 3
 omega

theorem BC:∀l:List UInt8,bytesOf (l.map KU)=some (l.map fun c=>(c.toNat:Int))
 | []=>rfl
 | c :: l=>by
  have h:bytesOf ((c :: l).map KU)=(bytesOf (l.map KU)).map fun ns=>(c.toNat:Int) :: ns:=rfl
  rw[h,BC l]
  rfl

theorem O2 (l:List UInt8):strOfNums (l.map fun c=>(c.toNat:Int))=⟨l.toArray⟩:=by
 simp[strOfNums,Function.comp_def]

theorem Ur {m:Nat}(h:m<65)(h0:0<m):D.m4 (.Om 65 1) (.loc b0.length 0) (I m) (.agg []) (.agg [])=some (.sl b0.length m (65-m)):=by
 have:((0:Int)≤(m:Int)∧(m:Int)<(65:Nat)∧0<0+(m:Int).toNat*1):=by omega
 simp only[D.m4,D.Om,if_pos this]
 congr 2 <;> omega

theorem Uo {n k:Nat}(h:k<65)(h0:0<k):D.m4 .ru (.st (sK n k)) (.sl b0.length (65-k) k) (.agg []) (.agg [])=some (St ⟨(dg k n).toArray⟩):=by
 have hc:D.dJ (.st (sK n k)) b0.length=some (346,65,ar n k):=by simp only[D.dJ,LO]
 have hd:((ar n k).drop (65-k)).take k=(dg k n).map KU:=by
  unfold ar
  rw[List.drop_append_of_le_length (by simp),List.drop_replicate,Nat.sub_self,List.replicate_zero,A0r,List.take_of_length_le (by simp[nD])]
 have hl:65-k+k≤(ar n k).length∧0<k:=by rw[On (by omega)];omega
 simp only[D.m4,D.ru,hc,A0d,if_pos hl,hd,BC,A0y,O2]

theorem aff {n:Nat}(hn:n<18446744073709551616):bt Tryz.prog 190 (.st b0) [.a_ [],Uu n,I 16,B false,B false] (.aM [.a_ [],St ⟨(tw n).toArray⟩]) (.st (sK n (jn n+1))):=by
 have hj:jn n≤15:=MB (k:=15) (by omega)
 have tu:qk n (jn n)<16:=by rw[DI];exact IT n n (A0m _)
 refine Xg.W rfl ?_
 unfold Vm
 simp only[aP,bg,A0q,A0r]
 repeat' (first|(apply eZ;simp only[az];rfl)|(apply bk;rfl;simp only[az];rfl)|(apply bX;rfl;rfl;(·first|exact T3 _|exact T1 _);rfl;simp only[az];rfl)|(apply gm;rfl)|refine aK ?_|(apply aR;rfl;rfl)|refine aF ?_|refine kj rfl ?_|(apply iz;rfl;all_goals (intro hz;(try simp only[gQ] at hz);first|(exact absurd hz (by decide))|(exfalso;omega)|skip))|exact aS rfl rfl|(intro hz;(try simp only[gQ] at hz)))
 refine dX (fun k=>[Uu (qk n k),I ((65-k:Nat):Int),.st (sK n k)]) (fun _=>True) (jn n) rfl (fun _=>rfl) trivial (fun k hk _ R hR=>?_) (fun _ R=>?_)
 ·have hge:decide ((qk n k:Int)≥16)=true:=by
   have:=MC n n (A0m _) k hk
   rw[←DI] at this
   simp
   omega
  have hd:qk n k % 16<16:=Nat.mod_lt _ (by omega)
  have hs:D.bin .sub .int (I ((65-k:Nat):Int)) (I 1)=some (I ((64-k:Nat):Int)):=by
   have:=LB (m:=64-k) (by omega)
   rwa [show 64-k+1=65-k from by omega] at this
  have he:=RL (m:=64-k) (by omega)
  have ht:=LF (n:=n) (k:=k) (by omega)
  repeat' (first|(apply eZ;simp only[az];rfl)|(apply bK;rfl;exact hge)|(apply kJ;rfl;rfl;rfl;exact ht;simp only[az];rfl)|(apply jI;rfl;rfl;(·first|exact hs|exact Uv _|exact Sa _);simp only[az];rfl)|(apply OZ;rfl;rfl;rfl;rfl;(·first|exact MK hd|exact he);simp only[az];rfl)|(apply bk;rfl;simp only[az];rfl)|refine aK ?_|(apply aR;rfl;rfl)|refine aF ?_|refine kj rfl ?_)
  have h5:=hR trivial
  simp only[show 65-(k+1)=64-k from by omega] at h5
  exact h5
 ·have hlt:decide ((qk n (jn n):Int)≥16)=false:=by simp;omega
  have hs:D.bin .sub .int (I ((65-jn n:Nat):Int)) (I 1)=some (I ((64-jn n:Nat):Int)):=by
   have:=LB (m:=64-jn n) (by omega)
   rwa [show 64-jn n+1=65-jn n from by omega] at this
  have he:=RL (m:=64-jn n) (by omega)
  have ht:=LF (n:=n) (k:=jn n) (by omega)
  rw[Nat.mod_eq_of_lt tu] at ht
  have ha:=Ur (m:=64-jn n) (by omega) (by omega)
  rw[show 65-(64-jn n)=jn n+1 from by omega] at ha
  have hb:=Uo (n:=n) (k:=jn n+1) (by omega) (by omega)
  rw[show 65-(jn n+1)=64-jn n from by omega] at hb
  repeat' (first|(apply eZ;simp only[az];rfl)|(apply bL;rfl;(·first|exact hlt|exact rfl))|(apply kJ;rfl;rfl;rfl;exact ht;simp only[az];rfl)|(apply jI;rfl;rfl;exact hs;simp only[az];rfl)|(apply OZ;rfl;rfl;rfl;rfl;(·first|exact MK tu|exact he|exact ha|exact hb);simp only[az];rfl)|(apply bk;rfl;simp only[az];rfl)|refine aK ?_|(apply aR;rfl;rfl)|refine aF ?_|(refine bJ (by decide) ?_)|refine kj rfl ?_|exact aS rfl rfl)

theorem aby {n:Nat}(hn:n<18446744073709551616):aU Tryz.prog 190 (.st (b0++bs)) [.a_ [],Uu n,I 16,B false,B false] (.aM [.a_ [],St ⟨(tw n).toArray⟩]):=
 bC.Rc (n:=9) z8 (aff hn) rfl rfl bs

theorem afm {n:Nat}(hn:n<18446744073709551616):aU Tryz.prog 146 (.st (b0++bs)) [Uu n,I 16] (St ⟨(tw n).toArray⟩):=by
 refine Xm.R rfl rfl ?_
 unfold Vs
 simp only[aP,bg,A0q,A0r]
 repeat' (first|(apply bk;rfl;simp only[az];rfl)|(apply bX;rfl;rfl;exact aby hn;rfl;simp only[az];rfl)|(apply iz;rfl;all_goals (intro hz;(try simp only[gQ] at hz);first|(exact absurd hz (by decide))|(exfalso;omega)|skip))|exact aS rfl rfl)

theorem c91 {n:Nat}(hn:n<18446744073709551616):aU Tryz.prog 91 (.st (b0++bs)) [Uu n,I 16] (St ⟨(tw n).toArray⟩):=by
 refine acQ.R rfl rfl ?_
 unfold u91
 simp only[aP,bg,A0q,A0r]
 repeat' (first|(apply bX;rfl;rfl;exact afm hn;rfl;simp only[az];rfl)|exact aS rfl rfl)

theorem EI (n:Nat):(tw n).length=jn n+1:=nD _ _

theorem c47 {n:Nat}(hn:n<18446744073709551616):aU Tryz.prog 47 (.st (b0++bs)) [Uu n] (St (txt n)):=by
 have hj:jn n≤15:=MB (k:=15) (by omega)
 have hz:(⟨(tw n).toArray⟩:ByteArray).size=jn n+1:=by simp[ByteArray.size,EI]
 have hs:D.bin .sub .int (I 16) (I (((⟨(tw n).toArray⟩:ByteArray).size:Nat):Int))=some (I ((15-jn n:Nat):Int)):=by
  rw[hz]
  have h1:D.bin .sub .int (I 16) (I ((jn n+1:Nat):Int))=some (I (IntKind.i64.wrap (16-((jn n+1:Nat):Int)))):=rfl
  rw[h1,IntKind.wrap_i64]
  congr 3
  omega
 have hc:D.bin .add .str (St ⟨(List.replicate (15-jn n) 48).toArray⟩) (St ⟨(tw n).toArray⟩)=some (St (txt n)):=by
  have h1:¬((((⟨(List.replicate (15-jn n) (48:UInt8)).toArray⟩:ByteArray).size+(⟨(tw n).toArray⟩:ByteArray).size:Nat):Int) > IntKind.i64.max):=by
   have e1:(⟨(List.replicate (15-jn n) (48:UInt8)).toArray⟩:ByteArray).size=15-jn n:=by simp[ByteArray.size]
   rw[e1,hz]
   have:IntKind.i64.max=9223372036854775807:=rfl
   omega
  simp only[D.bin,if_neg h1]
  rw[Uq,txt,←Ni (n:=n) (by omega),EI,show 16-(jn n+1)=15-jn n from by omega]
 refine ac2.R rfl rfl ?_
 unfold u47
 simp only[aP,bg,A0q,A0r]
 repeat' (first|(apply jI;rfl;rfl;(·first|exact hs|exact hc);simp only[az];rfl)|(apply bk;rfl;simp only[az];rfl)|(apply bX;rfl;rfl;(·first|exact c91 hn|exact Ug (k:=15-jn n) (by omega) _);rfl;simp only[az];rfl)|exact aS rfl rfl)
end

section
open Go.Proofs Go.Am.Sc
set_option maxRecDepth 100000
set_option maxHeartbeats 4000000

variable {bs:List D}

theorem N0:∀k n,∃es:List Nat,dg k n=es.map HA∧es.length=k∧∀d,d∈es→d<16
 | 0,n=>⟨[],rfl,rfl,fun _ h=>by cases h⟩
 | k+1,n=>by
  obtain⟨es,h1,h2,h3⟩:=N0 k (n / 16)
  refine⟨es++[n % 16],by rw[dg,h1];simp,by simp[h2],fun d hd=>?_⟩
  rcases B0p.1 hd with h | h
  ·exact h3 d h
  ·simp only[List.mem_singleton] at h
   subst h
   exact Nat.mod_lt _ (by omega)

theorem Ud {d:Nat}(hd:d<10):((HA d).toNat:Int)=48+d:=by
 have h:d=0∨d=1∨d=2∨d=3∨d=4∨d=5∨d=6∨d=7∨d=8∨d=9:=by omega
 rcases h with rfl | rfl | rfl | rfl | rfl | rfl | rfl | rfl | rfl | rfl <;> rfl
theorem Ue {d:Nat}(h0:10≤d)(hd:d<16):((HA d).toNat:Int)=87+d:=by
 have h:d=10∨d=11∨d=12∨d=13∨d=14∨d=15:=by omega
 rcases h with rfl | rfl | rfl | rfl | rfl | rfl <;> rfl

abbrev U8 (n:Int):D:=.v (.int .u8 n)

theorem V3 {d:Nat}(h0:10≤d)(hd:d<16):D.bin .or .int (U8 (87+d)) (U8 32)=some (U8 (87+d)):=by
 have h:d=10∨d=11∨d=12∨d=13∨d=14∨d=15:=by omega
 rcases h with rfl | rfl | rfl | rfl | rfl | rfl <;> rfl

theorem afl {d:Nat}(h0:10≤d)(hd:d<16):aU Tryz.prog 169 (.st bs) [U8 (87+d)] (U8 (87+d)):=by
 refine Xl.R rfl rfl ?_
 unfold Vr
 simp only[aP,bg,A0q,A0r]
 repeat' (first|(apply jI;rfl;rfl;exact V3 h0 hd;simp only[az];rfl)|exact aS rfl rfl)

theorem QN {m:Int}(h:0≤m∧m<256):IntKind.u8.wrap m=m:=by rw[IntKind.wrap_u8];omega
theorem Li {m:Int}(h:0≤m∧m<18446744073709551616):IntKind.u64.wrap m=m:=by rw[IntKind.wrap_u64];omega
theorem VC {a c m:Int}(h:0≤m∧m<256)(e:a-c=m):D.bin .sub .int (U8 a) (U8 c)=some (U8 m):=by
 have h1:D.bin .sub .int (U8 a) (U8 c)=some (U8 (IntKind.u8.wrap (a-c))):=rfl
 rw[h1,QN (by omega),e]
theorem afv {a c m:Int}(h:0≤m∧m<256)(e:a+c=m):D.bin .add .int (U8 a) (U8 c)=some (U8 m):=by
 have h1:D.bin .add .int (U8 a) (U8 c)=some (U8 (IntKind.u8.wrap (a+c))):=rfl
 rw[h1,QN (by omega),e]
theorem afu {a c:Int}(h:0≤a+c∧a+c<18446744073709551616):D.bin .add .int (Uu a) (Uu c)=some (Uu (a+c)):=by
 have h1:D.bin .add .int (Uu a) (Uu c)=some (Uu (IntKind.u64.wrap (a+c))):=rfl
 rw[h1,Li h]
theorem acK {a c:Int}(h:0≤a*c∧a*c<18446744073709551616):D.bin .mul .int (Uu a) (Uu c)=some (Uu (a*c)):=by
 have h1:D.bin .mul .int (Uu a) (Uu c)=some (Uu (IntKind.u64.wrap (a*c))):=rfl
 rw[h1,Li h]
theorem EZ {env:List D}{x:E}{d:Nat}(hx:x.eval env=some (U8 d))(hd:d<256):(E.conv .u64 x).eval env=some (Uu d):=by
 have:IntKind.u64.wrap (d:Int)=d:=Li (by omega)
 simp only[E.eval,hx,A0d,D.conv,this]

def wv (es:List Nat)(i:Nat):Nat:=(es.take i).foldl (fun a d=>a*16+d) 0
theorem Ij {es:List Nat}{i:Nat}(hi:i<es.length):wv es (i+1)=wv es i*16+es[i]:=by
 unfold wv
 rw[B0a hi,List.foldl_append]
 rfl
theorem QM {es:List Nat}(h:∀d,d∈es→d<16):∀i,i≤es.length→wv es i<16 ^ i
 | 0,_=>by simp[wv]
 | i+1,hi=>by
  have:=QM h i (by omega)
  have hd:=h _ (List.getElem_mem (show i<es.length by omega))
  rw[Ij (by omega),Nat.pow_succ]
  omega

abbrev WY:D:=.v .nilIface

theorem afr (n:Nat):∃m:Nat,aU Tryz.prog 118 (.st bs) [St (txt n),I 16,I 64] (.aM [Uu m,WY]):=by
 obtain⟨es,h1,h2,h3⟩:=N0 16 n
 refine⟨wv es 16,?_⟩
 have hb:D.m4 .iA (St (txt n)) (.agg []) (.agg []) (.agg [])=some (.a_ (es.map fun d=>KU (HA d))):=by
  have hz:(txt n).size≤maxLen:=by
   have:(txt n).size=16:=by simp[txt,ByteArray.size,h1,h2]
   rw[this];decide
  have hbd:eG (txt n)=es.map fun d=>KU (HA d):=by
   simp only[eG,txt,h1,List.map_map]
   rfl
  simp only[D.m4,D.iA,if_pos hz,hbd]
 have hne:((txt n).toList==(⟨#[]⟩:ByteArray).toList)=false:=by
  rw[ByteArray.toList_eq,ByteArray.toList_eq]
  cases es with
  | nil=>cases h2
  | cons d r=>simp[txt,h1]
 refine Xs.R rfl rfl ?_
 unfold Vy
 simp only[aP,bg,A0q,A0r]
 repeat' (first|(apply eZ;simp only[az];rfl)|(apply bL;rfl;exact hne)|(apply OZ;rfl;rfl;rfl;rfl;exact hb;simp only[az];rfl)|(apply cm;rfl;exact bn;simp only[az];rfl)|(apply bk;rfl;simp only[az];rfl)|(apply gm;rfl)|(apply jm;rfl)|refine aK ?_|(apply aR;rfl;rfl)|refine aF ?_|refine kj rfl ?_|(apply iz;rfl;all_goals (intro hz;(try simp only[gQ] at hz);first|(exact absurd hz (by decide))|(exfalso;omega)|skip))|exact aS rfl rfl|(intro hz;(try simp only[gQ] at hz)))
 refine dX (fun i=>[B false,Uu (wv es i),In i]) (fun _=>True) es.length rfl (fun _=>rfl) trivial (fun i hi hJ R hR=>?_) (fun hJ R=>?_)
 ·have iS:decide ((i:Int)<(es.length:Int))=true:=by simp;omega
  have wm:=bR (xs:=es) (enc:=fun d=>KU (HA d)) (sz:=1) hi rfl
  have hd:=h3 _ (List.getElem_mem hi)
  have hw:=QM h3 i (by omega)
  have ady:wv es i<1152921504606846976:=A0s hw (B0e (Nat.pow_le_pow_right (by omega) (show i≤15 by omega)) (by decide))
  rw[Ij hi] at hR
  generalize es[i]=d at wm hd hR
  generalize wv es i=w at ady hR ⊢
  have K9:((w*16+d:Nat):Int)=(w:Int)*16+(d:Int):=by omega
  have k1:decide ((d:Int)≥16)=false:=decide_eq_false (by omega)
  have k2:decide ((w:Int)≥1152921504606846976)=false:=decide_eq_false (by omega)
  have k3:(decide ((w:Int)*16+(d:Int)<(w:Int)*16)||decide ((w:Int)*16+(d:Int) > 18446744073709551615))=false:=by
   rw[decide_eq_false (by omega),decide_eq_false (by omega)];rfl
  have m1:=acK (a:=w) (c:=16) (by omega)
  have m2:=afu (a:=(w:Int)*16) (c:=d) (by omega)
  rw[K9] at hR
  by_cases hlo:d<10
  ·have TA:D.av 1 (.a_ (es.map fun d=>KU (HA d))) (In i)=some (.ptr [U8 (48+d)]):=by rw[←Ud hlo];exact wm
   have q1:((48+(d:Int))==95)=false:=by simp;omega
   have q2:(decide ((48:Int)≤48+d)&&decide ((48+(d:Int))≤57))=true:=by
    rw[decide_eq_true (by omega),decide_eq_true (by omega)];rfl
   have s1:=VC (a:=48+d) (c:=48) (m:=d) (by omega) (by omega)
   repeat' (first|(apply eZ;simp only[az];rfl)|(apply bK;rfl;(·first|exact iS|exact q2))|(apply bL;rfl;(·first|exact k1|exact k2|exact k3|(simp[mT,q1])))|(apply bG;rfl;rfl;exact TA;simp only[az];rfl)|(apply jI;rfl;rfl;(·first|exact s1|exact m1|exact m2);simp only[az];rfl)|(apply eT;rfl;omega;simp only[az];rfl)|(apply bk;(·exact EZ rfl (by omega));simp only[az];rfl)|(apply Lq;rfl;rfl;rfl;(·simp only[az,List.zipWith_cons_cons,List.zipWith_nil_left,mT];rfl))|(apply bk;rfl;simp only[az];rfl)|(apply gm;rfl)|(apply jm;rfl)|refine aK ?_|(apply aR;rfl;rfl)|refine aF ?_|refine kj rfl ?_|exact aS rfl rfl|(intro hz;(try simp only[gQ] at hz)))
   exact hR trivial
  ·have TA:D.av 1 (.a_ (es.map fun d=>KU (HA d))) (In i)=some (.ptr [U8 (87+d)]):=by rw[←Ue (by omega) hd];exact wm
   have q1:((87+(d:Int))==95)=false:=by simp;omega
   have q2:(decide ((48:Int)≤87+d)&&decide ((87+(d:Int))≤57))=false:=by
    rw[decide_eq_false (show¬(87+(d:Int))≤57 by omega),Bool.and_false]
   have q3:(decide ((97:Int)≤87+d)&&decide ((87+(d:Int))≤122))=true:=by
    rw[decide_eq_true (by omega),decide_eq_true (by omega)];rfl
   have s1:=VC (a:=87+d) (c:=97) (m:=d-10) (by omega) (by omega)
   have s2:=afv (a:=(d:Int)-10) (c:=10) (m:=d) (by omega) (by omega)
   have aeH:=afl (bs:=bs) (d:=d) (by omega) hd
   repeat' (first|(apply eZ;simp only[az];rfl)|(apply bK;rfl;(·first|exact iS|exact q3))|(apply bL;rfl;(·first|exact q2|exact k1|exact k2|exact k3))|(apply bG;rfl;rfl;exact TA;simp only[az];rfl)|(apply jI;rfl;rfl;(·first|exact s1|exact s2|exact m1|exact m2);simp only[az];rfl)|(apply eT;rfl;omega;simp only[az];rfl)|(apply bk;(·exact EZ rfl (by omega));simp only[az];rfl)|(apply Lq;rfl;rfl;rfl;(·simp only[az,List.zipWith_cons_cons,List.zipWith_nil_left,mT];rfl))|(apply bk;rfl;simp only[az];rfl)|(apply bX;rfl;rfl;exact aeH;rfl;simp only[az];rfl)|(apply gm;rfl)|(apply jm;rfl)|refine aK ?_|(apply aR;rfl;rfl)|refine aF ?_|refine kj rfl ?_|(apply iz;rfl;all_goals (intro hz;(try simp only[gQ] at hz);first|(exact absurd hz (by decide))|(exfalso;omega)|skip))|exact aS rfl rfl|(intro hz;(try simp only[gQ] at hz)))
   exact hR trivial
 ·have iS:decide ((es.length:Int)<(es.length:Int))=false:=by simp
  have e16:wv es es.length=wv es 16:=by rw[h2]
  repeat' (first|(apply eZ;simp only[az];rfl)|(apply bL;rfl;(·first|exact iS|exact rfl))|(apply bk;rfl;simp only[az];rfl)|(apply jm;rfl)|(apply aR;rfl;rfl)|refine aF ?_|(refine bJ (by decide) ?_)|refine kj rfl ?_|(apply aS;rfl;first|exact rfl|(refine oe ?_)|(refine oa ?_)|(refine oc ?_))|(intro hz;(try simp only[gQ] at hz)))
  ·rw[e16]
  ·exact false

theorem c60 (n:Nat):∃m:Nat,aU Tryz.prog 60 (.st bs) [St (txt n),I 16,I 64] (.aM [Uu m,WY]):=by
 obtain⟨m,h⟩:=afr (bs:=bs) n
 refine⟨m,?_⟩
 refine ac1.R rfl rfl ?_
 unfold u60
 simp only[aP,bg,A0q,A0r]
 repeat' (first|(apply bL;rfl;exact rfl)|(apply bk;rfl;simp only[az];rfl)|(apply bX;rfl;rfl;exact h;rfl;simp only[az];rfl)|exact aS rfl rfl)
end

section
open Go.Proofs
set_option maxRecDepth 100000

noncomputable def t34:T:=W' [v' (X' .geq y0 y1),g' y4 (X' .leq y0 y2),v' (.ite y4 y5 (kb false))] (R' y6 y3)
noncomputable def e34:=e' 34 Tryz.f34 true false [] [] [] [true,true,true] t34
theorem acj:ak Tryz.prog e34:=O' Tryz.func34

noncomputable def t66:T:=W' [v' (.bin .neq .ptr y0 (.const (.v (.pointer none)))),g' y2 (.nn y0),g' y2 (p' 14 y3),g' y2 (l' y1 y4),g' y2 (.bD y5),g' y2 (X' .gtr y6 (ki 0)),v' (.ite y2 y7 (kb false))] (R' y8 y1)
noncomputable def e66:=e' 66 Tryz.f66 true false [] [] [] [true] t66
theorem V8:ak Tryz.prog e66:=O' Tryz.func66

noncomputable def t67:T:=W' [v' (.nn y0),v' (p' 6 y4),v' (n' (.iL 2 3) y5 (ki 0)),v' (p' 0 y6),v' (l' y3 y7),v' (N' y8)] (R' y9 y3)
noncomputable def e67:=e' 67 Tryz.f67 true false [] [] [] [true,true,true] t67
theorem abX:ak Tryz.prog e67:=O' Tryz.func67

noncomputable def t71:T:=W' [v' (.dL (j' (z' y0) .nil)),v' (l' y3 y4),v' (.dO 132 .ai (.ah y4 .ai)),c' 131 y3 [y5,y6] [true]] (R' y7 y3)
noncomputable def e71:=e' 71 Tryz.f71 true false [] [] [] [true,true,true] t71
theorem abT:ak Tryz.prog e71:=O' Tryz.func71

noncomputable def t58:T:=W' [v' (.fK 9 1 y1 (j' (z' y0) .nil)),v' (.dO 101 .ai (.ah (.aC y1) .ai))] (R' y3 y2)
noncomputable def e58:=e' 58 Tryz.f58 false false [] [1] [] [true] t58
theorem abZ:ak Tryz.prog e58:=O' Tryz.func58

noncomputable def t22:T:=W' [v' (.br 30 y0),w' 24 y1 [pz 6 y2] [true,true],v' (X' .neq (t' (s' y3)) (ki 0))] (.ite y4 (R' (ki 2) (t' y3)) (W' [w' 25 (t' y3) [j' (q' 6 y2) (j' (q' 7 y2) (j' (q' 8 y2) .nil)),q' 9 y2] [true,true],v' (X' .neq (t' (s' y5)) (ki 0))] (.ite y6 (R' (ki 2) (t' y5)) (W' [c' 48 (t' y5) [j' (q' 10 y2) (j' (q' 11 y2) (j' (q' 12 y2) (j' (q' 13 y2) (j' (q' 14 y2) (j' (q' 15 y2) (j' (q' 16 y2) (j' (q' 17 y2) (j' (q' 18 y2) (j' (q' 19 y2) (j' (q' 20 y2) (j' (q' 21 y2) (j' (q' 22 y2) (j' (q' 23 y2) .nil)))))))))))))] [true],v' (X' .neq y7 (ki 0)),.call [(y8,false)] 49 (t' y5) [j' (q' 24 y2) (j' (q' 25 y2) (j' (q' 26 y2) (j' (q' 27 y2) (j' (q' 28 y2) (j' (q' 29 y2) .nil)))))] [true],f' y8 (X' .neq y9 (ki 0)),v' (.ite y8 (kb true) y10)] (.ite y11 (R' (ki 2) (t' y5)) (W' [v' (X' .neq (q' 5 y2) (q' 6 y2)),f' y12 (q' 24 y2),f' y12 (q' 6 y2),f' y12 (X' .neq y13 y14),v' (.ite y12 (kb true) y15),f' y16 (q' 0 y2),f' y16 (q' 7 y2),f' y16 (X' .neq y17 y18),v' (.ite y16 (kb true) y19),f' y20 (q' 10 y2),.call [(y20,false)] 51 (t' y5) [y21,.const (.fn 50 [] [])] [true],f' y20 (N' y22),v' (.ite y20 (kb true) y23)] (.ite y24 (R' (ki 2) (t' y5)) (R' (ki 0) (t' y5)))))))))
noncomputable def e22:=e' 22 Tryz.f22 false true [24,25] [] [] [false] t22
theorem acs:ak Tryz.prog e22:=O' Tryz.func22

noncomputable def t146:T:=W' [v' (Q' y1 (ki 10))] (.ite y3 (W' [v' (X' .lss y0 (k' 100))] (.ite y4 (W' [v' (.conv .i64 y0),c' 187 y2 [y5] [true]] (R' y6 y2)) (W' [c' 188 y2 [y0] [true]] (.ret (.deref .nil))))) (W' [c' 190 y2 [.const (.a_ []),y0,y1,kb false,kb false] [true,true]] (R' (t' y4) y2)))
noncomputable def Zr:=e' 146 Tryz.f146 true false [] [] [] [true,true] t146
theorem WD:ak Tryz.prog Zr:=O' Tryz.func146

noncomputable def t128:T:=W' [c' 179 y2 [y0,y1] [true],v' (X' .geq y3 (ki 0))] (R' y4 y2)
noncomputable def ZB:=e' 128 Tryz.f128 true false [] [] [] [true,true] t128
theorem WO:ak Tryz.prog ZB:=O' Tryz.func128

noncomputable def t136:T:=W' [v' (.br 5 y0)] (R' (q' 0 y2) y1)
noncomputable def Zw:=e' 136 Tryz.f136 true false [] [] [] [false] t136
theorem WJ:ak Tryz.prog Zw:=O' Tryz.func136

noncomputable def t50:T:=W' [v' (.br 4 y0),v' (Q' (q' 0 y2) (ki 2))] (R' y3 y1)
noncomputable def e50:=e' 50 Tryz.f50 true false [] [] [] [false] t50
theorem ab7:ak Tryz.prog e50:=O' Tryz.func50

noncomputable def t54:T:=.jR y0 false (.ite y2 (R' (.const (.a_ [])) y1) (W' [v' (.const (.a_ [])),v' (.app 4 32 y3 y0)] (R' y4 y1)))
noncomputable def e54:=e' 54 Tryz.f54 true false [] [] [] [true] t54
theorem ab3:ak Tryz.prog e54:=O' Tryz.func54

noncomputable def t93:T:=W' [v' (X' .geq y0 y1),g' y4 (X' .leq y0 y2),v' (.ite y4 y5 (kb false))] (R' y6 y3)
noncomputable def e93:=e' 93 Tryz.f93 true false [] [] [] [true,true,true] t93
theorem abF:ak Tryz.prog e93:=O' Tryz.func93

noncomputable def t96:T:=W' [v' (.bD y0)] (.join 0 2 (.loop 1 [ki 0] (W' [v' (X' .lss y4 y3)] (.ite y5 (.join 2 3 (W' [v' (.av 4 y0 y4),v' (.ld true 4 y2 y6),.ey [] y1 y2 [y7] [true]] (.ite y8 (R' y4 y2) (J' 2 [y6,y7,y8]))) (W' [v' (P' y4 (ki 1))] (J' 1 [y9]))) (J' 0 [y4,y5])))) (R' (ki (-1)) y2))
noncomputable def e96:=e' 96 Tryz.f96 true false [] [] [] [true,true] t96
theorem abD:ak Tryz.prog e96:=O' Tryz.func96

noncomputable def t99:T:=W' [c' 154 y2 [y0,y1] [true],v' (X' .geq y3 (ki 0))] (R' y4 y2)
noncomputable def e99:=e' 99 Tryz.f99 true false [] [] [] [true,true] t99
theorem abA:ak Tryz.prog e99:=O' Tryz.func99

noncomputable def t100:T:=W' [v' (.br 2 y0),v' (X' .lss (q' 0 y2) (ki 1)),f' y3 (q' 0 y2),f' y3 (X' .gtr y4 (ki 3)),v' (.ite y3 (kb true) y5),f' y6 (q' 1 y2),.call [(y6,false)] 97 y1 [y7,ki 0,ki 10000000] [true],f' y6 (N' y8),v' (.ite y6 (kb true) y9)] (R' y10 y1)
noncomputable def ZF:=e' 100 Tryz.f100 true false [] [] [] [false] t100
theorem WT:ak Tryz.prog ZF:=O' Tryz.func100

noncomputable def t59:T:=W' [v' (m' .JN y1),v' (.dO 103 (.ah y0 .ai) .ai),v' (.m4 (.put .str) y2 (m' .gu y1) (Z' #[111,112,101,110]) y3),v' (.dO 103 (.ah y0 .ai) .ai),v' (.m4 (.put .str) y4 (m' .gu y1) (Z' #[99,108,111,115,101]) y5),v' (.dO 103 (.ah y0 .ai) .ai),v' (.m4 (.put .str) y6 (m' .gu y1) (Z' #[99,111,118,101,114,101,100]) y7),v' (.dO 103 (.ah y0 .ai) .ai),v' (.m4 (.put .str) y8 (m' .gu y1) (Z' #[117,110,99,111,118,101,114,101,100]) y9),v' (.dO 103 (.ah y0 .ai) .ai),v' (.m4 (.put .str) y10 (m' .gu y1) (Z' #[112,111,115,116]) y11),v' (.dO 103 (.ah y0 .ai) .ai),v' (.m4 (.put .str) y12 (m' .gu y1) (Z' #[114,101,100]) y13),v' (.dO 103 (.ah y0 .ai) .ai),v' (.m4 (.put .str) y14 (m' .gu y1) (Z' #[103,114,101,101,110]) y15),v' (.dO 104 (.ah y0 .ai) .ai),v' (.m4 (.put .str) y16 (m' .gu y1) (Z' #[115,97,102,101]) y17),v' (.dO 104 (.ah y0 .ai) .ai),v' (.m4 (.put .str) y18 (m' .gu y1) (Z' #[102,111,117,110,100]) y19),v' (.dO 105 (.ah y0 .ai) .ai),v' (.m4 (.put .str) y20 (m' .gu y1) (Z' #[115,116,97,114,116]) y21),v' (.dO 106 (.ah y0 .ai) .ai),v' (.m4 (.put .str) y22 (m' .gu y1) (Z' #[112,97,115,115]) y23),v' (.dO 106 (.ah y0 .ai) .ai),v' (.m4 (.put .str) y24 (m' .gu y1) (Z' #[110,111,116]) y25),v' (.dO 107 (.ah y0 .ai) .ai),v' (.m4 (.put .str) y26 (m' .gu y1) (Z' #[111,117,116]) y27),v' (.dO 108 (.ah y0 .ai) .ai),v' (.m4 (.put .str) y28 (m' .gu y1) (Z' #[118,111,105,100]) y29),v' (.dO 109 (.ah y0 .ai) .ai),v' (.m4 (.put .str) y30 (m' .gu y1) (Z' #[99,108,97,115,115]) y31),v' (.dO 110 (.ah y0 .ai) .ai),v' (.m4 (.put .str) y32 (m' .gu y1) (Z' #[108,101,103]) y33),v' (.dO 111 (.ah y0 .ai) .ai),v' (.m4 (.put .str) y34 (m' .gu y1) (Z' #[108,105,110,101]) y35),v' (.dO 112 (.ah y0 .ai) .ai),v' (.m4 (.put .str) y36 (m' .gu y1) (Z' #[116,97,107,101]) y37),v' (.dO 113 (.ah y0 .ai) .ai),v' (.m4 (.put .str) y38 (m' .gu y1) (Z' #[112,117,98,108,105,115,104]) y39),v' (.dO 114 (.ah y0 .ai) .ai),v' (.m4 (.put .str) y40 (m' .gu y1) (Z' #[112,114,111,116,101,115,116]) y41),v' (.dO 115 (.ah y0 .ai) .ai),v' (.m4 (.put .str) y42 (m' .gu y1) (Z' #[100,101,99,105,100,101]) y43),v' (.dO 115 (.ah y0 .ai) .ai),v' (.m4 (.put .str) y44 (m' .gu y1) (Z' #[114,101,106,101,99,116]) y45),v' (.dO 116 (.ah y0 .ai) .ai),v' (.m4 (.put .str) y46 (m' .gu y1) (Z' #[97,112,112,101,97,108]) y47),v' (.dO 115 (.ah y0 .ai) .ai),v' (.m4 (.put .str) y48 (m' .gu y1) (Z' #[106,117,100,103,101]) y49),v' (.dO 115 (.ah y0 .ai) .ai),v' (.m4 (.put .str) y50 (m' .gu y1) (Z' #[100,105,115,109,105,115,115]) y51),v' (.dO 117 (.ah y0 .ai) .ai),v' (.m4 (.put .str) y52 (m' .gu y1) (Z' #[100,114,111,112]) y53)] (R' (m' .gu y1) y54)
noncomputable def e59:=e' 59 Tryz.f59 false false [] [] [] [true] t59
theorem abY:ak Tryz.prog e59:=O' Tryz.func59

noncomputable def t158:T:=W' [v' (.dL (j' (z' y0) .nil)),v' (.dL (.br 4 y1)),v' (l' y2 y3),c' 66 y2 [y5] [true],v' (N' y6)] (.ite y7 (R' (ki 1) y2) (W' [v' (l' y2 y3),v' (.ld true 4 y2 y4),c' 198 y2 [y8,y9] [true],v' (N' y10)] (.ite y11 (R' (ki 2) y2) (W' [v' (l' y2 y3),v' (.nn y12),v' (p' 14 y13),v' (l' y2 y14),v' (p' 3 y4),v' (l' y2 y16),v' (.av 5 y15 y17),v' (.dO 199 .ai (C' y3 y4)),v' (p' 0 y4),v' (l' y2 y20)] (.join 0 3 (W' [v' (Q' y21 (ki 1))] (.join 1 1 (.ite y22 (J' 1 [y22]) (W' [v' (Q' y21 (ki 2))] (J' 1 [y23]))) (.join 1 1 (.ite y23 (W' [v' (l' y2 y3),v' (.nn y24),v' (p' 6 y25),v' (n' (.iL 2 3) y26 (ki 0)),v' (p' 0 y4),v' (l' y2 y28),v' (Q' y29 (ki 1)),v' (p' 1 y4),v' (l' y2 y31),w' 200 y2 [y27,y30,y32,kb false] []] (J' 1 [t' y33])) (W' [v' (Q' y21 (ki 6))] (.join 2 1 (.ite y24 (J' 2 [y24]) (W' [v' (Q' y21 (ki 7))] (J' 2 [y25]))) (.join 2 1 (.ite y25 (W' [v' (l' y2 y3),v' (.nn y26),v' (p' 6 y27),v' (n' (.iL 2 3) y28 (ki 1)),v' (p' 0 y4),v' (l' y2 y30),v' (Q' y31 (ki 6)),v' (p' 1 y4),v' (l' y2 y33),w' 200 y2 [y29,y32,y34,kb false] []] (J' 2 [t' y35])) (W' [v' (Q' y21 (ki 3))] (.join 3 1 (.ite y26 (W' [.dA [] y19 y2 [] []] (J' 3 [t' y27])) (W' [v' (Q' y21 (ki 4))] (.join 4 1 (.ite y27 (J' 4 [y27]) (W' [v' (Q' y21 (ki 5))] (J' 4 [y28]))) (.join 4 1 (.ite y28 (W' [v' (l' y2 y3),v' (.nn y29),v' (p' 12 y30),v' (l' y2 y31),v' (p' 2 y4),v' (l' y2 y33),v' (.av 3 y32 y34),v' (p' 0 y4),v' (l' y2 y36),v' (Q' y37 (ki 4)),v' (p' 1 y4),v' (l' y2 y39),w' 200 y2 [y35,y38,y40,kb true] [],.dA [] y19 (t' y41) [] []] (J' 4 [t' y42])) (W' [v' (Q' y21 (ki 8))] (.join 5 1 (.ite y29 (W' [v' (.nn y18),v' (p' 0 y30),v' (l' y2 y31)] (.join 6 1 (.ite y32 (W' [v' (.nn y18),v' (p' 2 y33),v' (l' y2 y34),v' (p' 2 y4),v' (l' y2 y36),v' (.mm true y35 y37),v' (.nn y18),v' (p' 2 y39),v' (.eY 1 y2 y40 y38)] (J' 6 [y41])) (J' 6 [y2])) (W' [.dA [] y19 y33 [] []] (J' 5 [t' y34])))) (W' [v' (Q' y21 (ki 9))] (.join 6 1 (.ite y30 (W' [v' (.nn y18),v' (p' 3 y31),v' (l' y2 y32),f' y33 (.nn y18),f' y33 (p' 0 y34),f' y33 (l' y2 y35),v' (.ite y33 (kb true) y36),v' (.nn y18),v' (p' 3 y38),v' (.eY 1 y2 y39 y37)] (J' 6 [y40])) (W' [v' (Q' y21 (ki 10))] (.join 7 1 (.ite y31 (W' [v' (.nn y18),v' (p' 4 y32),v' (l' y2 y33),f' y34 (.nn y18),f' y34 (p' 0 y35),f' y34 (l' y2 y36),v' (.ite y34 (kb true) y37),v' (.nn y18),v' (p' 4 y39),v' (.eY 1 y2 y40 y38)] (J' 7 [y41])) (J' 7 [y2])) (J' 6 [y32])))) (J' 5 [y31])))) (J' 4 [y30])))) (J' 3 [y29]))))) (J' 2 [y27])))) (J' 1 [y26]))))) (J' 0 [y23,y22,y24])))) (R' (ki 0) y24))))))
noncomputable def Zi:=e' 158 Tryz.f158 false false [1000053,1000071,1000089] [] [] [true,false] t158
theorem Wv:ak Tryz.prog Zi:=O' Tryz.func158

noncomputable def t11:T:=.join 0 11 (W' [c' 28 y3 [y0] [true],v' (N' y4)] (.ite y5 (R' (C' (.const (.a_ [])) (ki 1)) y3) (W' [v' (.nn y0),v' (p' 0 y6),v' (p' 6 y7),v' (p' 0 y8),v' (l' y3 y9),c' 34 y3 [y1,ki 1,y10] [true],v' (N' y11)] (.ite y12 (R' (C' (.const (.a_ [])) (ki 2)) y3) (J' 0 [y5,y4,y5,y12,y6,y7,y8,y9,y10,y11,y12]))))) (W' [v' (.nn y0),v' (p' 30 y15),v' (l' y3 y16),v' (M' y1 (ki 1)),c' 35 y3 [y17,y18,y2] [true,true]] (R' (C' (s' y19) (t' y19)) y3))
noncomputable def e11:=e' 11 Tryz.f11 true false [] [] [] [true,true,true] t11
theorem acB:ak Tryz.prog e11:=O' Tryz.func11

noncomputable def t19:T:=W' [v' (.bD y0),v' (.bD y1),v' (X' .neq y3 y4)] (.ite y5 (R' (kb false) y2) (.join 0 4 (.loop 1 [ki 0] (W' [v' (.bD y0),v' (X' .lss y6 y7)] (.ite y8 (.join 2 5 (W' [v' (.av 1 y0 y6),v' (l' y2 y9),v' (.av 1 y1 y6),v' (l' y2 y11),v' (X' .neq y10 y12)] (.ite y13 (R' (kb false) y2) (J' 2 [y9,y10,y11,y12,y13]))) (W' [v' (P' y6 (ki 1))] (J' 1 [y14]))) (J' 0 [y6,y6,y7,y8])))) (R' (kb true) y2)))
noncomputable def e19:=e' 19 Tryz.f19 true false [] [] [] [true,true] t19
theorem acw:ak Tryz.prog e19:=O' Tryz.func19

noncomputable def t20:T:=W' [v' (.bD y0),v' (.bD y1),v' (X' .neq y3 y4)] (.ite y5 (R' (kb false) y2) (.join 0 4 (.loop 1 [ki 0] (W' [v' (.bD y0),v' (X' .lss y6 y7)] (.ite y8 (.join 2 5 (W' [v' (.av 1 y0 y6),v' (l' y2 y9),v' (.av 1 y1 y6),v' (l' y2 y11),v' (.bin .neq .str y10 y12)] (.ite y13 (R' (kb false) y2) (J' 2 [y9,y10,y11,y12,y13]))) (W' [v' (P' y6 (ki 1))] (J' 1 [y14]))) (J' 0 [y6,y6,y7,y8])))) (R' (kb true) y2)))
noncomputable def e20:=e' 20 Tryz.f20 true false [] [] [] [true,true] t20
theorem acv:ak Tryz.prog e20:=O' Tryz.func20

noncomputable def t21:T:=.join 0 6 (.loop 1 [k' 14695981039346656037,.const (.a_ []),ki 0] (W' [v' (.bD y0),v' (X' .lss y4 y5)] (.ite y6 (.join 2 19 (.join 3 7 (.loop 4 [y2,ki 0] (W' [v' (.av 1 y0 y4),v' (l' y1 y9),v' (.fP y10),v' (X' .lss y8 y11)] (.ite y12 (.join 5 7 (W' [v' (.av 1 y0 y4),v' (l' y1 y13),v' (n' .kg y14 y8),v' (.conv .u64 y15),v' (X' .xor y7 y16),v' (X' .mul y17 (k' 1099511628211))] (J' 5 [y18,y13,y14,y15,y16,y17,y18])) (W' [v' (P' y8 (ki 1))] (J' 4 [y13,y20]))) (J' 3 [y7,y8,y8,y9,y10,y11,y12])))) (W' [v' (X' .mul y7 (k' 1099511628211))] (.join 3 5 (.loop 4 [Z' #[],y14,ki 0] (W' [v' (X' .lss y17 (ki 16))] (.ite y18 (.join 5 11 (W' [v' (X' .rem y16 (k' 16)),v' (.conv .i64 y19),v' (P' y20 (ki 1)),v' (o' .mS (Z' #[48,49,50,51,52,53,54,55,56,57,97,98,99,100,101,102]) y20 y21),v' (.bin .add .str y22 y15),v' (X' .quo y16 (k' 16))] (J' 5 [y23,y24,y20,y19,y20,y20,y20,y21,y22,y23,y24])) (W' [v' (P' y17 (ki 1))] (J' 4 [y19,y20,y30]))) (J' 3 [y15,y16,y17,y17,y18])))) (W' [v' (.bP (z' y15) (.const (.a_ []))),v' (.app 1 16 y3 y20)] (J' 2 [y14,y21,y8,y15,y16,y17,y9,y10,y11,y12,y13,y7,y14,y14,y18,y19,y15,y20,y21]))))) (W' [v' (P' y4 (ki 1))] (J' 1 [y7,y8,y26]))) (J' 0 [y2,y3,y4,y4,y5,y6])))) (R' y3 y1)
noncomputable def e21:=e' 21 Tryz.f21 true false [] [] [] [true] t21
theorem acu:ak Tryz.prog e21:=O' Tryz.func21

noncomputable def t44:T:=W' [v' (.bD y0),c' 43 y1 [y2,ki 1,ki 100] [true],.call [(y3,true)] 85 y1 [y0,.const (.fn 86 [] [])] [true],g' y3 (N' y4),v' (.ite y3 y5 (kb false)),.call [(y6,true)] 87 y1 [y0] [true],g' y6 (X' .gtr y7 (ki 0)),v' (.ite y6 y8 (kb false))] (R' y9 y1)
noncomputable def e44:=e' 44 Tryz.f44 true false [] [] [] [true] t44
theorem acf:ak Tryz.prog e44:=O' Tryz.func44

noncomputable def t40:T:=W' [v' (.br 2 y0),c' 41 y1 [q' 0 y2,ki 1,ki 200] [true],v' (N' y3),f' y4 (q' 1 y2),f' y4 (.bD y5),f' y4 (X' .gtr y6 (ki 1000)),v' (.ite y4 (kb true) y7)] (.ite y8 (R' (ki 2) y1) (W' [v' (.bD (q' 1 y2))] (.join 0 2 (.loop 1 [ki 0] (W' [v' (X' .lss y10 y9)] (.ite y11 (.join 2 23 (W' [v' (.av 4 (q' 1 y2) y10),v' (.ld true 4 y1 y12),v' (.br 4 y13),v' (M' (q' 0 y2) (ki 1)),c' 41 y1 [q' 0 y14,ki 0,y15] [true],v' (N' y16),f' y17 (q' 1 y14),f' y17 (q' 0 y2),f' y17 (M' y19 (ki 1)),.call [(y17,false)] 41 y1 [y18,ki 0,y20] [true],f' y17 (N' y21),v' (.ite y17 (kb true) y22),f' y23 (q' 0 y14),f' y23 (q' 1 y14),f' y23 (Q' y24 y25),v' (.ite y23 (kb true) y26),f' y27 (q' 2 y14),.call [(y27,false)] 41 y1 [y28,ki 1,ki 10000] [true],f' y27 (N' y29),v' (.ite y27 (kb true) y30),f' y31 (q' 3 y14),f' y31 (.bD y32),f' y31 (X' .gtr y33 (ki 20)),v' (.ite y31 (kb true) y34)] (.ite y35 (R' (ki 2) y1) (W' [v' (.bD (q' 3 y14))] (.join 3 3 (.loop 4 [ki (-1),ki 0] (W' [v' (X' .lss y38 y36)] (.ite y39 (.join 5 14 (W' [v' (.av 2 (q' 3 y14) y38),v' (.ld true 2 y1 y40),v' (.br 2 y41),v' (X' .leq (q' 0 y42) y37),f' y43 (q' 0 y42),f' y43 (X' .lss y44 (ki 0)),v' (.ite y43 (kb true) y45),f' y46 (q' 0 y42),f' y46 (q' 1 y42),f' y46 (X' .geq y47 y48),v' (.ite y46 (kb true) y49),f' y50 (q' 1 y42),f' y50 (X' .gtr y51 (ki 100000)),v' (.ite y50 (kb true) y52)] (.ite y53 (R' (ki 2) y1) (J' 5 [q' 1 y42,y40,y41,q' 0 y42,y43,y43,y46,y46,y50,y50,y53,q' 1 y42,q' 0 y42,q' 1 y42]))) (W' [v' (P' y38 (ki 1))] (J' 4 [y40,y54]))) (J' 3 [y37,y38,y39])))) (J' 2 [y37,y12,y13,q' 0 y14,y15,y16,y17,y17,y23,y23,y27,y27,y31,y31,y35,q' 3 y14,y36,y38,y39,q' 0 y14,q' 1 y14,q' 2 y14,q' 3 y14]))))) (W' [v' (P' y10 (ki 1))] (J' 1 [y35]))) (J' 0 [y10,y11])))) (R' (ki 0) y1))))
noncomputable def e40:=e' 40 Tryz.f40 true false [] [] [] [false] t40
theorem ach:ak Tryz.prog e40:=O' Tryz.func40

noncomputable def t88:T:=W' [v' (.dL (j' (z' y0) .nil)),v' (.dL (j' (z' y1) .nil)),v' (l' y2 y3),v' (.bD y5),v' (.dR 3 1 y2 (.rep 8 y6 (.v (.int .i64 0)))),v' (.bD (.cY y2 (.rep 8 y6 (.v (.int .i64 0)))))] (.join 0 3 (.loop 1 [ki 0,y7] (W' [v' (X' .lss y9 y8)] (.ite y11 (.join 2 2 (W' [v' (.av 1 (.cY y2 (.rep 8 y6 (.v (.int .i64 0)))) y9),v' (.eY 1 y10 y12 y9)] (J' 2 [y12,y13])) (W' [v' (P' y9 (ki 1))] (J' 1 [y14,y13]))) (J' 0 [y9,y11,y10])))) (W' [v' (.dO 144 .ai (C' y4 y3)),w' 143 y11 [.cY y2 (.rep 8 y6 (.v (.int .i64 0))),y12] []] (R' (.cY y2 (.rep 8 y6 (.v (.int .i64 0)))) (t' y13))))
noncomputable def e88:=e' 88 Tryz.f88 false false [143,186,218,219,259,278] [9] [] [true,true] t88
theorem abJ:ak Tryz.prog e88:=O' Tryz.func88

noncomputable def t305:T:=.join 0 10 (.loop 1 [y1,y3] (.join 2 23 (W' [v' (X' .mul (ki 2) y4),v' (P' y6 (ki 1)),v' (X' .geq y7 y2),f' y8 (X' .lss y7 (ki 0)),v' (.ite y8 (kb true) y9)] (.ite y10 (J' 0 [y4,y7,y4,y6,y7,y7,y8,y8,y10,y5]) (W' [v' (P' y7 (ki 1)),v' (X' .lss y11 y2),.call [(y12,true)] 300 y5 [l' y5 (m' (.ed 248) y0),y11,y7] [true],v' (.ite y12 y13 (kb false))] (.join 3 1 (.ite y14 (J' 3 [y11]) (J' 3 [y7])) (W' [c' 300 y5 [l' y5 (m' (.ed 248) y0),y15,y4] [true],v' (N' y16)] (.ite y17 (J' 0 [y4,y7,y4,y6,y7,y7,y8,y8,y10,y5]) (W' [w' 302 y5 [l' y5 (m' (.ed 248) y0),y4,y15] []] (J' 2 [y15,y7,y15,y11,y6,y7,y7,y8,y8,y10,y7,y7,y11,y11,y12,y12,y14,y15,y16,y17,y15,y15,t' y18])))))))) (J' 1 [y6,y28]))) (W' [v' (X' .gtr y4 y1)] (R' y14 y13))
noncomputable def YZ:Entry:={ f:=305,kn:=.plain,cf:={ (aj false ([141,304,185,305,301,311,302,303]++cI) cJ [] [] Tryz.f305) with aN:=true,cE:=true,yU:=[(32,248),(38,248),(43,248)] },own:=false,aL:=[true,true,true],t:=t305 }
theorem Wa:ak Tryz.prog YZ:=O' Tryz.func305

noncomputable def t301:T:=W' [v' (.nn y0),v' (l' y2 y3),v' (m' (.ed 196) y1),v' (.bP (.br 2 y5) (.const (.a_ []))),v' (.fC 196 2 16 y2 y4 y6),v' (.nn y0),v' (.eY 1 y7 y8 (.apps y2 y4 y6))] (R' .ai y9)
noncomputable def Y3:=e' 301 Tryz.f301 false false [141,304,185,305,301,311,302,303] [] [] [true,true] t301
theorem We:ak Tryz.prog Y3:=O' Tryz.func301

noncomputable def t311:T:=W' [v' (.nn y0),v' (l' y1 y2),v' (.nn y0),v' (l' y1 y4),v' (.bD y5),v' (M' y6 (ki 1)),v' (.av 2 y3 y7),v' (.ld true 2 y1 y8),v' (.br 2 y9),v' (.nn y0),v' (l' y1 y11),v' (.nn y0),v' (l' y1 y13),v' (.bD y14),v' (M' y15 (ki 1)),v' (.sub 2 y12 (ki 0) y16),v' (.nn y0),v' (.eY 1 y1 y18 y17)] (R' (.fq 196 (pz 2 y10)) y19)
noncomputable def YY:=e' 311 Tryz.f311 false false [141,304,185,305,301,311,302,303] [] [] [true] t311
theorem V_:ak Tryz.prog YY:=O' Tryz.func311

noncomputable def t302:T:=W' [v' (.av 2 y0 y2),v' (.ld true 2 y3 y4),v' (.av 2 y0 y1),v' (.ld true 2 y3 y6),v' (.av 2 y0 y1),v' (.eY 2 y3 y8 y5),v' (.av 2 y0 y2),v' (.eY 2 y9 y10 y7)] (R' .ai y11)
noncomputable def Y2:=e' 302 Tryz.f302 false false [141,304,185,305,301,311,302,303] [] [] [true,true,true] t302
theorem Wd:ak Tryz.prog Y2:=O' Tryz.func302

noncomputable def t83:T:=W' [v' (p' 1 y1),v' (l' y4 y5),v' (.bD y6)] (.join 0 3 (.loop 1 [ki 0,y4] (W' [v' (X' .lss y8 y7)] (.ite y10 (.join 2 12 (W' [v' (.av 4 y6 y8),v' (.ld true 4 y9 y11),v' (.br 4 y12),v' (l' y9 y2),v' (Q' (q' 0 y13) y14),g' y15 (q' 1 y13),g' y15 (l' y9 y3),.call [(y15,true)] 84 y9 [pz 4 y13,y17] [true],g' y15 (q' 2 y13),g' y15 (P' y18 y19),g' y15 (j' (z' y16) (j' (z' y20) .nil)),.dA [(y15,true)] y0 y9 [y21] [true],g' y15 (N' (s' y22)),v' (.ite y15 y23 (kb false))] (.ite y24 (R' .ai (t' y22)) (J' 2 [y11,y12,q' 0 y13,y14,y15,y15,y24,q' 0 y13,q' 1 y13,q' 2 y13,q' 3 y13,t' y22]))) (W' [v' (P' y8 (ki 1))] (J' 1 [y23,y22]))) (J' 0 [y8,y10,y9])))) (R' .ai y10))
noncomputable def e83:=e' 83 Tryz.f83 false false [1000029] [] [] [true,true,true,true] t83
theorem abN:ak Tryz.prog e83:=O' Tryz.func83
end

section
open Go.Proofs
set_option maxRecDepth 100000
noncomputable def RI:ug:=[YX,e22,e23,e97,e48,e43,e49,e50,e51,e53,e54,e55,e56,e93,e94,e96,e85,e98,e99,ZF,Zo,Uc,Zm,e25,e26,e52,e24,e6]
theorem YM:∀e,e∈RI→ak Tryz.prog e:=o1' Po<|o1' acs<|o1' acr<|o1' abC<|o1' ab9<|o1' V9<|o1' ab8<|o1' ab7<|o1' ab6<|o1' ab4<|o1' ab3<|o1' ab2<|o1' ab1<|o1' abF<|o1' abE<|o1' abD<|o1' V7<|o1' abB<|o1' abA<|o1' WT<|o1' WA<|o1' Q5<|o1' Wz<|o1' acp<|o1' aco<|o1' ab5<|o1' acq<|o1' ok6<|o0'
def RH:List D:=[.agg [i 2,i 100000,i 2,i 0,i 100000,i 2,i 2,i 2,.a_ [i 0],.a_ [.agg [i 1,i 0],.agg [i 3,i 0]],.a_ [.agg [i 2,i 0,i 0,b false]],i 1,i 0,i 0,i 0,i 0,.a_ [i 0],b false,i 0,i 1,i 100,i 0,.a_ [i 10,i 8,i 6,i 5,i 4,i 3],.a_ [i 2,i 1],i 2,.a_ [.agg [i 1,i 0,i 0,i 36000000]],i 30,i 60,i 0,i 0]]
def Es (c s h lg:D):List D:=b0++[.bh 90 35 [i 2,i 100000,i 2,i 0,i 100000,i 2,i 2,i 2,.a_ [i 0],.a_ [.agg [i 1,i 0],.agg [i 3,i 0]],.a_ [.agg [i 2,i 0,i 0,b false]],i 1,i 0,i 0,i 0,i 0,.a_ [i 0],b false,i 0,i 1,i 100,i 0,.a_ [i 10,i 8,i 6,i 5,i 4,i 3],.a_ [i 2,i 1],i 2,.a_ [.agg [i 1,i 0,i 0,i 36000000]],i 30,i 60,i 0,i 0,.loc 5 0,.loc 7 0,.loc 8 0,.sl 14 0 2,lg],.bh 1000000000 3 [b false,i 0,b false,b false,i 0,b false],.bh 1000000000 3 [b false,i 0,b false,b false,i 0,b false],.bh 1000000000 5 [b false,i 0,i (-1),b false,b false,b false,i 0,i (-1),b false,b false],.bh 1000000000 15 [i 2,i 100000,i 2,i 0,i 100000,i 2,b false,i 0,b false,c,s,h,.sl 2 0 2,.sl 3 0 2,.sl 4 0 2],.fm [],.bh 150 5 [i 2,i 2,.a_ [i 0],.a_ [.agg [i 1,i 0],.agg [i 3,i 0]],.mp 6],.bh 154 9 [i 2,.a_ [.agg [i 1,i 0,i 0,i 36000000]],i 30,i 60,i 0,i 0,b true,.cO,.cO],.bh 1000000000 1 [i 0],.bh 1000000000 4 [i 0,i 0,b false,i 2],.aM [],.bh 1000000000 1 [i 0],.bh 1000000000 4 [i 0,i 0,b false,i 2],.bh 102 3 [i 0,.sl 9 0 1,.sl 10 0 1,i 0,.sl 12 0 1,.sl 13 0 1]]
theorem YN:bC Tryz.prog 6 (.st b0) RH (.ret (.aM [.loc 1 0,i 0])) (.st (Es (b false) (i 0) (b false) .cO)):=Ll (b0:=b0) (gw (b0:=b0) (l:=[]) trivial) ⟨6,b0,RH,.aM [.loc 1 0,i 0],Es (b false) (i 0) (b false) .cO⟩ 200 40 YM (by kernel_rfl)
end

section
open Go.Proofs
set_option maxRecDepth 100000
noncomputable def NU:ug:=[e66,YX,e58,ZD,Zl,Zk,Zj,Y_,Y9,Y8,Y5,e59,ZE,ZC,Zi,Y7,e31,e57]
theorem YR:∀e,e∈NU→ak Tryz.prog e:=o1' V8<|o1' Po<|o1' abZ<|o1' WR<|o1' Wy<|o1' Wx<|o1' Ww<|o1' Wm<|o1' Wl<|o1' Wj<|o1' Wg<|o1' abY<|o1' WS<|o1' WQ<|o1' Wv<|o1' Wi<|o1' ack<|o1' ab0<|o0'
def Py (w:Bool)(t:Nat):List UInt8:=(bif w then[99,111,118,101,114,101,100,32] else[117,110,99,111,118,101,114,101,100,32])++(if t<10 then[48+UInt8.ofNat t] else[48+UInt8.ofNat (t / 10),48+UInt8.ofNat (t % 10)])
def ln (w:Bool)(t:Nat):D:=.v (.string ⟨⟨Py w t⟩⟩)
def lg (t:Nat):D:=if t=0 then .cO else .sl (14+t) 0 t
def Ev (t:Nat)(v:Bool):List D:=if t=0 then Es (b false) (i 0) (b false) .cO else Es (b v) (i (t-1:Nat)) (b true) (lg t)
noncomputable def wA (t:Nat):Bool:=[true,false].all fun v=>[true,false].all fun w=>okU (15+t) (Es (b w) (i (t:Nat)) (b true) (lg t)) (i 0) ((j6 Tryz.prog NU 200 b0 (qC b0 []) 40).W 31 (.st (Ev t v++dead t)) [.loc 1 0,ln w t])
theorem Uk {t:Nat}(h:wA t=true)(v w:Bool){g:List D}(hg:g.length=t):bC Tryz.prog 31 (.st (Ev t v++g)) [.loc 1 0,ln w t] (.ret (i 0)) (.st (Es (b w) (i (t:Nat)) (b true) (lg t)++g)):=by
 subst hg
 have hl:∀c s h l c' s' h' l':D,(Es c s h l).length=(Es c' s' h' l').length:=fun _ _ _ _ _ _ _ _=>rfl
 have h15:(Ev g.length v).length=15:=by unfold Ev;split <;> rfl
 refine Dm (n:=200) (m:=40) (b0:=b0) (gw (b0:=b0) (l:=[]) trivial) YR (by rw[h15];rfl) ?_
 rw[h15]
 simp only[wA,A0z] at h
 exact h v (by cases v <;> simp) w (by cases w <;> simp)
end

section
open Go.Proofs
set_option maxRecDepth 100000
theorem ae9:(List.range' 0 2).all wA=true:=by kernel_rfl
theorem ae8:(List.range' 2 2).all wA=true:=by kernel_rfl
theorem ae7:(List.range' 4 2).all wA=true:=by kernel_rfl
theorem ae6:(List.range' 6 2).all wA=true:=by kernel_rfl
theorem ae5:(List.range' 8 2).all wA=true:=by kernel_rfl
end

section
open Go.Proofs
set_option maxRecDepth 100000
theorem ae4:(List.range' 10 2).all wA=true:=by kernel_rfl
theorem ae3:(List.range' 12 2).all wA=true:=by kernel_rfl
theorem ae2:(List.range' 14 2).all wA=true:=by kernel_rfl
theorem ae1:(List.range' 16 2).all wA=true:=by kernel_rfl
theorem ae0:(List.range' 18 2).all wA=true:=by kernel_rfl
end

section
open Go.Proofs
set_option maxRecDepth 100000
theorem ZS:(List.range' 20 2).all wA=true:=by kernel_rfl
theorem ZQ:(List.range' 22 2).all wA=true:=by kernel_rfl
theorem ZP:(List.range' 24 2).all wA=true:=by kernel_rfl
theorem ZO:(List.range' 26 2).all wA=true:=by kernel_rfl
theorem ZN:(List.range' 28 2).all wA=true:=by kernel_rfl
end

section
open Go.Proofs
set_option maxRecDepth 100000
theorem ZM:(List.range' 30 2).all wA=true:=by kernel_rfl
theorem ZL:(List.range' 32 2).all wA=true:=by kernel_rfl
theorem ZK:(List.range' 34 2).all wA=true:=by kernel_rfl
theorem ZJ:(List.range' 36 2).all wA=true:=by kernel_rfl
theorem ZI:(List.range' 38 2).all wA=true:=by kernel_rfl
end

section
open Go.Proofs Go.Am.Sc
set_option maxRecDepth 100000
set_option maxHeartbeats 4000000

/-! ## all seconds -/

theorem Qx {t:Nat}(ht:t<40):wA t=true:=by
 have h2:∀{j:Nat},(List.range' (2*j) 2).all wA=true→∀i,i<2→wA (2*j+i)=true:=fun {j} h i hi=>A0z.1 h _ (List.mem_range'_1.2 (by omega))
 obtain⟨j,i,hj,hi,rfl⟩:∃j i,j<20∧i<2∧t=2*j+i:=⟨t / 2,t % 2,by omega,by omega,by omega⟩
 refine h2 ?_ i hi
 have hc:j=0∨j=1∨j=2∨j=3∨j=4∨j=5∨j=6∨j=7∨j=8∨j=9∨j=10∨j=11∨j=12∨j=13∨j=14∨j=15∨j=16∨j=17∨j=18∨j=19:=by omega
 rcases hc with rfl | rfl | rfl | rfl | rfl | rfl | rfl | rfl | rfl | rfl | rfl | rfl | rfl | rfl | rfl | rfl | rfl | rfl | rfl | rfl
 ·exact ae9
 ·exact ae8
 ·exact ae7
 ·exact ae6
 ·exact ae5
 ·exact ae4
 ·exact ae3
 ·exact ae2
 ·exact ae1
 ·exact ae0
 ·exact ZS
 ·exact ZQ
 ·exact ZP
 ·exact ZO
 ·exact ZN
 ·exact ZM
 ·exact ZL
 ·exact ZK
 ·exact ZJ
 ·exact ZI

/-! ## the log -/

def ec (p:ByteArray×Nat):List D:=[St p.1,St (txt p.2)]
theorem NZ (p:ByteArray×Nat):(ec p).length=2:=rfl

structure Lg (g:List D)(t:Nat)(es:List (ByteArray×Nat)):Prop where
 len:g.length=t
 els:es.length=t
 bh:0<t→g[t-1]? = some (.bh 117 2 (es.flatMap ec))
 ny:aT g=true

section
variable {c s h vF:D} {g:List D} {es:List (ByteArray×Nat)} {t:Nat}

theorem sr:(Es c s h vF).length=15:=rfl

theorem PA:D.bD (lg t)=some (In t):=by
 unfold lg
 split
 ·rename_i h;subst h;rfl
 ·rfl

def UI (g:List D)(t:Nat)(es:List (ByteArray×Nat))(p:ByteArray×Nat):List D:=(if t=0 then[] else g.set (t-1) (.aM []))++[.bh 117 2 ((es++[p]).flatMap ec)]

theorem Lg.grow (hg:Lg g t es)(p:ByteArray×Nat):Lg (UI g t es p) (t+1) (es++[p]):=by
 obtain⟨h1,h2,h3,h4⟩:=hg
 have hl:(if t=0 then[] else g.set (t-1) (.aM [])).length=t:=by
  split
  ·rename_i e;subst e;rfl
  ·rw[List.length_set];exact h1
 refine⟨by rw[UI,A0t,hl];rfl,by simp[h2],fun _=>?_,?_⟩
 ·rw[UI,A0l (by rw[hl];omega),hl,show t+1-1-t=0 by omega]
  rfl
 ·have hn:∀l:List (ByteArray×Nat),aT (l.flatMap ec)=true:=fun l=>by
   induction l with
   | nil=>rfl
   | cons a l ih=>rw[List.flatMap_cons,e_,ih];rfl
  rw[UI,e_]
  have:aT (if t=0 then[] else g.set (t-1) (.aM []))=true:=by
   split
   ·rfl
   ·exact fE _ _ _ h4 rfl
  rw[this]
  simp only[aT,D.dG,hn,Bool.and_true]

theorem Lg.fC (hg:Lg g t es)(ht:t<1000)(p:ByteArray×Nat):D.fC 117 2 32 (.st (Es c s h vF++g)) (lg t) (.a_ [.agg (ec p)])=some (.st (Es c s h vF++UI g t es p)):=by
 obtain⟨h1,h2,h3,h4⟩:=hg
 have e2:bI [D.agg (ec p)]=ec p:=by simp[bI,D.cells]
 unfold lg UI
 split
 ·rename_i e
  subst e
  have OO:g=[]:=A0w h1
  have he0:es=[]:=A0w h2
  subst OO he0
  simp only[D.fC,D.Dj,List.cons_ne_nil,if_false]
  rw[if_pos ⟨by show 1*32≤_;decide,by show 1≤_;decide,rfl,rfl⟩,e2]
  simp
 ·rename_i e
  obtain⟨m,rfl⟩:∃m,t=m+1:=⟨t-1,by omega⟩
  have hm:=h3 (by omega)
  rw[Nat.add_sub_cancel] at hm
  have hb:(Es c s h vF++g)[14+(m+1)]? = some (.bh 117 2 (es.flatMap ec)):=by
   rw[A0l (by rw[sr];omega),sr,show 14+(m+1)-15=m by omega]
   exact hm
  simp only[D.fC,D.Dj,List.cons_ne_nil,if_false,D.dJ,hb,A0d]
  rw[if_pos ⟨trivial,trivial,trivial,by rw[eF NZ,h2],by simp;omega,by simp[maxLen];omega,rfl,rfl⟩,e2]
  rw[List.set_append_right _ _ (by rw[sr];omega),sr,show 14+(m+1)-15=m by omega,Nat.add_sub_cancel,B0b,List.flatMap_append]
  simp

theorem Lg.apps (hg:Lg g t es)(p:ByteArray×Nat):D.apps (.st (Es c s h vF++g)) (lg t) (.a_ [.agg (ec p)])=some (lg (t+1)):=by
 have h1:=hg.len
 have hl:(Es c s h vF++g).length=15+t:=by rw[A0t,sr,h1]
 unfold lg
 rw[if_neg (Nat.succ_ne_zero t)]
 split
 ·rename_i e
  subst e
  simp only[D.apps,D.cnt,List.length_singleton,hl]
  rfl
 ·simp only[D.apps,D.cnt,List.length_singleton,hl]
  rw[if_neg (by decide),show 15+t=14+(t+1) by omega]

theorem Lg.eY (hg:Lg g t es){lg':D}(ho:lg'.one=true):D.eY 1 (.st (Es c s h vF++g)) (.loc 1 34) lg'=some (.st (Es c s h lg'++g)):=by
 rw[jq (i:=1) (k:=34) (bs:=Es c s h vF++g) rfl (show 34<35 by decide) ho]
 rfl

theorem SM:(lg t).one=true:=by unfold lg;split <;> rfl

theorem c32 (hg:Lg g t es)(ht:t<1000){x:ByteArray}(hx:x.size≤maxLen):∃n:Nat,aU Tryz.prog 32 (.st (Es c s h vF++g)) [lg t,St x] (St (txt n)):=by
 obtain⟨h1,h2,h3,h4⟩:=hg
 cases t with
 | zero=>
  obtain⟨n,hn,hn2⟩:=Ji 14695981039346656037 x
  have h46:=c46 (bs:=Es c s h vF++g) (h:=14695981039346656037) hx
  rw[hn] at h46
  refine⟨n,?_⟩
  refine W6.R rfl rfl ?_
  unfold u32
  simp only[aP,bg,A0q,A0r]
  have hs:Es c s h vF++g=b0++((Es c s h vF).drop 1++g):=rfl
  have Yy:=c47 (bs:=(Es c s h vF).drop 1++g) hn2
  rw[←hs] at Yy
  repeat' (first
  |(apply eZ;simp only[az];rfl)
  |(apply bL;rfl;exact rfl)
  |(apply cw;rfl)
  |(apply cm;rfl;exact bn;simp only[az];rfl)
  |(apply um;rfl;omega;simp only[az];rfl)
  |(apply jl;rfl;rfl;omega;simp only[az];rfl)
  |(apply bk;rfl;simp only[az];rfl)
  |(apply bX;rfl;rfl;(·first|exact h46|exact Yy);rfl;simp only[az];rfl)
  |refine aK ?_
  |(apply aR;rfl;rfl)
  |refine aF ?_
  |(refine bJ (by decide) ?_)
  |refine kj rfl ?_
  |(apply iz;rfl;all_goals (intro hz;(try simp only[gQ] at hz);first|(exact absurd hz (by decide))|(exfalso;omega)|skip))
  |exact aS rfl rfl
  |(apply aS;rfl;first|exact rfl|(refine oe ?_)|(refine oa ?_)|(refine oc ?_)))
 | succ m=>
  have hm:=h3 (by omega)
  rw[Nat.add_sub_cancel] at hm
  have hb:(Es c s h vF++g)[14+(m+1)]? = some (.bh 117 2 (es.flatMap ec)):=by
   rw[A0l (by rw[sr];omega),sr,show 14+(m+1)-15=m by omega]
   exact hm
  have hem:es[m]? = some (es.getD m default):=by
   rw[A0i,A0f (by omega)]
   rfl
  have OK:=Co (k:=1) hb NZ hem rfl
  obtain⟨q,h60⟩:=c60 (bs:=Es c s h vF++g) (es.getD m default).2
  obtain⟨n,hn,hn2⟩:=Ji q x
  have h46:=c46 (bs:=Es c s h vF++g) (h:=q) hx
  rw[hn] at h46
  refine⟨n,?_⟩
  have hs:Es c s h vF++g=b0++((Es c s h vF).drop 1++g):=rfl
  have Yy:=c47 (bs:=(Es c s h vF).drop 1++g) hn2
  rw[←hs] at Yy
  have hbd:-9223372036854775808≤((m+1:Nat):Int)-1∧((m+1:Nat):Int)-1<9223372036854775808:=by omega
  have wm:D.av 2 (lg (m+1)) (I (((m+1:Nat):Int)-1))=some (.loc (14+(m+1)) (m*2)):=by
   rw[show((m+1:Nat):Int)-1=(m:Int) by omega]
   exact fy (Nat.lt_succ_self m)
  have hgt:decide (((m+1:Nat):Int) > 0)=true:=decide_eq_true (by omega)
  have M8:D.bD (lg (m+1))=some (In (m+1)):=rfl
  refine W6.R rfl rfl ?_
  unfold u32
  simp only[aP,bg,A0q,A0r]
  repeat' (first|(apply eZ;simp only[az];rfl)|(apply bK;rfl;exact hgt)|(apply cw;rfl)|(apply kP;rfl;rfl;exact OK;simp only[az];rfl)|(apply bG;rfl;rfl;exact wm;simp only[az];rfl)|(apply cm;rfl;exact M8;simp only[az];rfl)|(apply jl;rfl;rfl;omega;simp only[az];rfl)|(apply bk;rfl;simp only[az];rfl)|(apply bX;rfl;rfl;(·first|exact h60|exact h46|exact Yy);rfl;simp only[az];rfl)|refine aK ?_|(apply aR;rfl;rfl)|refine aF ?_|refine kj rfl ?_|exact aS rfl rfl)


/-! ## Do -/

theorem c28:aU Tryz.prog 28 (.st (Es c s h vF++g)) [.loc 1 0] (B true):=by
 have hl:D.ld false 1 (.st (Es c s h vF++g)) (.loc 1 30)=some (.loc 5 0):=cj (bs:=Es c s h vF++g) rfl rfl
 refine adb.R rfl rfl ?_
 unfold u28
 simp only[aP,bg,A0q,A0r]
 repeat' (first|(apply eZ;simp only[az];rfl)|(apply cw;rfl)|(apply kP;rfl;rfl;exact hl;simp only[az];rfl)|(apply bk;rfl;simp only[az];rfl)|(apply jm;rfl)|exact aS rfl rfl|(intro hz;(try simp only[gQ] at hz)))

theorem RT (t:Nat)(v:Bool):∃c s h,Ev t v=Es c s h (lg t):=by
 unfold Ev
 split
 ·rename_i e;subst e;exact⟨_,_,_,rfl⟩
 ·exact⟨_,_,_,rfl⟩

theorem SJ (w:Bool)(t:Nat):(⟨⟨Py w t⟩⟩:ByteArray).size≤maxLen:=by
 have h:(Py w t).length≤20:=by
  unfold Py
  rw[A0t]
  have h1:(bif w then[99,111,118,101,114,101,100,32] else[117,110,99,111,118,101,114,101,100,32]:List UInt8).length≤10:=by cases w <;> decide
  have h2:(if t<10 then[48+UInt8.ofNat t] else[48+UInt8.ofNat (t / 10),48+UInt8.ofNat (t % 10)]:List UInt8).length≤2:=by split <;> simp
  omega
 have:(⟨⟨Py w t⟩⟩:ByteArray).size=(Py w t).length:=rfl
 rw[this]
 have:maxLen=9223372036854775807:=rfl
 omega

theorem c9 (hg:Lg g t es)(ht:t<40)(v w:Bool):∃g' es',Lg g' (t+1) es'∧bt Tryz.prog 9 (.st (Ev t v++g)) [.loc 1 0,ln w t] (i 0) (.st (Ev (t+1) w++g')):=by
 have hA:=Uk (Qx ht) v w hg.len
 obtain⟨n,h32⟩:=c32 (c:=b w) (s:=i (t:Nat)) (h:=b true) (vF:=lg t) hg (by omega) (SJ w t)
 have pq:=hg.grow (⟨⟨Py w t⟩⟩,n)
 refine⟨_,_,pq,?_⟩
 have e1:Ev (t+1) w=Es (b w) (i (t:Nat)) (b true) (lg (t+1)):=by unfold Ev;rw[if_neg (Nat.succ_ne_zero t)];rfl
 rw[e1]
 obtain⟨c0,s0,h0,e0⟩:=RT t v
 rw[e0] at hA ⊢
 have q1:=hg.fC (c:=b w) (s:=i (t:Nat)) (h:=b true) (vF:=lg t) (by omega) (⟨⟨Py w t⟩⟩,n)
 have q2:=hg.apps (c:=b w) (s:=i (t:Nat)) (h:=b true) (vF:=lg t) (⟨⟨Py w t⟩⟩,n)
 have q3:=pq.eY (c:=b w) (s:=i (t:Nat)) (h:=b true) (vF:=lg t) (lg':=lg (t+1)) SM
 have l0:D.ld false 1 (.st (Es c0 s0 h0 (lg t)++g)) (.loc 1 34)=some (lg t):=cj (bs:=Es c0 s0 h0 (lg t)++g) rfl rfl
 have l1:D.ld false 1 (.st (Es (b w) (i (t:Nat)) (b true) (lg t)++g)) (.loc 1 34)=some (lg t):=cj (bs:=Es (b w) (i (t:Nat)) (b true) (lg t)++g) rfl rfl
 have f1:decide ((t:Int)≥5000)=false:=decide_eq_false (by omega)
 refine ku9.W rfl ?_
 unfold u9
 simp only[aP,bg,A0q,A0r]
 repeat' (first|(apply bL;rfl;(·first|exact rfl|exact f1))|(apply cw;rfl)|(apply FT;rfl;rfl;rfl;rfl;rfl;exact q2;exact q3;simp only[az];rfl)|(apply kP;rfl;rfl;exact l0;simp only[az];rfl)|(apply cm;rfl;exact PA;simp only[az];rfl)|(apply FV;rfl;rfl;rfl;exact q1;simp only[az];rfl)|(apply bk;rfl;simp only[az];rfl)|(apply bX;rfl;rfl;(·first|exact c28|exact h32);rfl;simp only[az];rfl)|(apply gL;rfl;rfl;exact hA;rfl;simp only[az];rfl)|exact aS rfl rfl)

end
end

section
open Go.Proofs
set_option maxRecDepth 100000
noncomputable def NT:ug:=[e8,e27]
theorem YP:∀e,e∈NT→ak Tryz.prog e:=o1' ok8<|o1' acn<|o0'
def wd (w:Bool):D:=.v (.string ⟨⟨bif w then[99,111,118,101,114,101,100] else[117,110,99,111,118,101,114,101,100]⟩⟩)
noncomputable def ckL (t:Nat):Bool:=[true,false].all fun w=>L4 (ln w t) ((j6 Tryz.prog NT 200 b0 (qC b0 []) 40).R 8 (.st b0) [wd w,.a_ [i (t:Nat)]])
theorem Ui {t:Nat}(h:ckL t=true)(w:Bool)(g:List D):aU Tryz.prog 8 (.st (b0++g)) [wd w,.a_ [i (t:Nat)]] (ln w t):=by
 have h1:aU Tryz.prog 8 (.st (b0++[])) [wd w,.a_ [i (t:Nat)]] (ln w t):=by
  refine pL (g:=[]) (n:=200) (m:=40) (b0:=b0) (gw (b0:=b0) (l:=[]) trivial) YP ?_
  simp only[ckL,A0z] at h
  exact h w (by cases w <;> simp)
 exact eD.ofA z8 (b0:=b0) (by simpa using h1) (by cases w <;> rfl) rfl g
theorem Qw:(List.range 40).all ckL=true:=by kernel_rfl
end

section
open Go.Proofs
set_option maxRecDepth 100000
def fKn:Fact:=⟨5,[],b true⟩
noncomputable def RJ:ug:=[YX,e90,e46,e47,e91,e92,Zr,Zs,e43,Zc,e85,Ub,Ua,Uc,T_,e5,e17,e16,e18,e19,e20,e21,e44,e40,e86,e87,e45,e88,Zu,Zd,Y6,e89,Zt,e82,e84,e81,e42,Zv,Ze,Y0,YZ,Y3,YY,Y2,Y1,Y4,e83]
theorem YQ:∀e,e∈RJ→ak Tryz.prog e:=o1' Po<|o1' abH<|o1' acd<|o1' ab_<|o1' abG<|o1' V6<|o1' WD<|o1' WE<|o1' V9<|o1' Wp<|o1' V7<|o1' Q4<|o1' Q3<|o1' Q5<|o1' Q0<|o1' ok5<|o1' acz<|o1' acA<|o1' acy<|o1' acw<|o1' acv<|o1' acu<|o1' acf<|o1' ach<|o1' abL<|o1' abK<|o1' ace<|o1' abJ<|o1' WH<|o1' Wq<|o1' Wh<|o1' abI<|o1' WG<|o1' abO<|o1' abM<|o1' abP<|o1' acg<|o1' WI<|o1' Wr<|o1' Wb<|o1' Wa<|o1' We<|o1' V_<|o1' Wd<|o1' Wc<|o1' Wf<|o1' abN<|o0'
theorem RK:(fKn:Fact).ok Tryz.prog b0:=w5 (l:=[]) trivial (gw (b0:=b0) (l:=[]) trivial) fKn 200 40 (by kernel_rfl) z8 (by kernel_rfl) YQ (by kernel_rfl)
end

section
open Go.Proofs
set_option maxRecDepth 100000
def fPl:Fact:=⟨7,[i 2,i 2],.agg [i 2,i 100000,i 2,i 0,i 100000,i 2,i 2,i 2,.a_ [i 0],.a_ [.agg [i 1,i 0],.agg [i 3,i 0]],.a_ [.agg [i 2,i 0,i 0,b false]],i 1,i 0,i 0,i 0,i 0,.a_ [i 0],b false,i 0,i 1,i 100,i 0,.a_ [i 10,i 8,i 6,i 5,i 4,i 3],.a_ [i 2,i 1],i 2,.a_ [.agg [i 1,i 0,i 0,i 36000000]],i 30,i 60,i 0,i 0]⟩
noncomputable def RG:ug:=[e7]
theorem YJ:∀e,e∈RG→ak Tryz.prog e:=o1' ok7<|o0'
theorem YK:(fPl:Fact).ok Tryz.prog b0:=w5 (l:=[]) trivial (gw (b0:=b0) (l:=[]) trivial) fPl 200 40 (by kernel_rfl) z8 (by kernel_rfl) YJ (by kernel_rfl)
end

section
open Go.Proofs
set_option maxRecDepth 100000
noncomputable def NS:ug:=[e34,e35,e66,YX,e67,e68,e69,e70,e71,e72,e73,e74,e28,ZB,ZA,Zz,Zy,Zx,Zw,Zh,Zg,Zf,e11]
theorem YO:∀e,e∈NS→ak Tryz.prog e:=o1' acj<|o1' aci<|o1' V8<|o1' Po<|o1' abX<|o1' abW<|o1' abV<|o1' abU<|o1' abT<|o1' abS<|o1' abR<|o1' abQ<|o1' acm<|o1' WO<|o1' WN<|o1' WM<|o1' WL<|o1' WK<|o1' WJ<|o1' Wu<|o1' Wt<|o1' Ws<|o1' acB<|o0'
def rls (v:Bool):D:=.a_ (bif v then[i 1,i 3] else[i 1,i 3,i 4])
noncomputable def Qv (t:Nat):Bool:=[true,false].all fun v=>L4 (.aM [rls v,i 0]) ((j6 Tryz.prog NS 200 b0 (qC b0 []) 40).R 11 (.st (Ev (t+1) v++dead (t+1))) [.loc 1 0,i 1,i (t:Nat)])
theorem Uh {t:Nat}(h:Qv t=true)(v:Bool){g:List D}(hg:g.length=t+1):aU Tryz.prog 11 (.st (Ev (t+1) v++g)) [.loc 1 0,i 1,i (t:Nat)] (.aM [rls v,i 0]):=by
 refine pL (n:=200) (m:=40) (b0:=b0) (gw (b0:=b0) (l:=[]) trivial) YO ?_
 rw[hg]
 simp only[Qv,A0z] at h
 exact h v (by cases v <;> simp)
end

section
open Go.Proofs
set_option maxRecDepth 100000
theorem aeZ:(List.range' 0 10).all Qv=true:=by kernel_rfl
end

section
open Go.Proofs
set_option maxRecDepth 100000
theorem aeY:(List.range' 10 10).all Qv=true:=by kernel_rfl
end

section
open Go.Proofs
set_option maxRecDepth 100000
theorem aeX:(List.range' 20 10).all Qv=true:=by kernel_rfl
end

section
open Go.Proofs
set_option maxRecDepth 100000
theorem aeW:(List.range' 30 10).all Qv=true:=by kernel_rfl
end

section
open Go.Proofs Go.Am.Sc
set_option maxRecDepth 100000
set_option maxHeartbeats 4000000

attribute [local irreducible] gY Gh Ou

theorem Qu {t:Nat}(ht:t<40):Qv t=true:=by
 have h2:∀{j:Nat},(List.range' (10*j) 10).all Qv=true→∀i,i<10→Qv (10*j+i)=true:=fun {j} h i hi=>A0z.1 h _ (List.mem_range'_1.2 (by omega))
 obtain⟨j,i,hj,hi,rfl⟩:∃j i,j<4∧i<10∧t=10*j+i:=⟨t / 10,t % 10,by omega,by omega,by omega⟩
 refine h2 ?_ i hi
 have hc:j=0∨j=1∨j=2∨j=3:=by omega
 rcases hc with rfl | rfl | rfl | rfl
 ·exact aeZ
 ·exact aeY
 ·exact aeX
 ·exact aeW

theorem Uj {t:Nat}(ht:t<40):ckL t=true:=A0z.1 Qw t (List.mem_range.2 ht)

variable {n:Nat} {rs:List Rd} {vs:List Vh} {zs:List Zn}

theorem secs (w:Nat→Bool){m:Nat}(hm:m≤40):∃S:Nat→List D,S 0=Es (b false) (i 0) (b false) .cO∧(∀t,t≤m→∃r,S t=b0++r)∧∀t,t<m→bt Tryz.prog 9 (.st (S t)) [.loc 1 0,ln (w t) t] (i 0) (.st (S (t+1)))∧∃g:List D,g.length=t+1∧S (t+1)=Ev (t+1) (w t)++g:=by
 obtain⟨S,S0,S1,S2⟩:=Iv (N:=m) (s0:=Es (b false) (i 0) (b false) .cO) (J:=fun t st=>∃v g es,Lg g t es∧st=Ev t v++g)
  (R:=fun t st cG=>bt Tryz.prog 9 (.st st) [.loc 1 0,ln (w t) t] (i 0) (.st cG)∧∃g:List D,g.length=t+1∧cG=Ev (t+1) (w t)++g) ⟨false,[],[],⟨rfl,rfl,fun h=>absurd h (by decide),rfl⟩,rfl⟩ (fun t st ht hJ=>by
   obtain⟨v,g,es,hg,rfl⟩:=hJ
   obtain⟨g',es',h1,h2⟩:=c9 hg (by omega) v (w t)
   exact⟨_,⟨h2,g',h1.len,rfl⟩,w t,g',es',h1,rfl⟩)
 refine⟨S,S0,fun t ht=>?_,fun t ht=>S2 t ht⟩
 obtain⟨v,g,es,_,h⟩:=S1 t ht
 obtain⟨c,s,h',e⟩:=RT t v
 rw[h,e]
 exact⟨(Es c s h' (lg t)).drop 1++g,rfl⟩

def Ja (gl:List Gp)(t:Nat)(k:Nat):Bool:=(gl.take k).any fun g=>decide (g.2.1≤(t:Int))&&decide ((t:Int)<g.2.2)
theorem ND {gl:List Gp}{t k:Nat}(h:k<gl.length):Ja gl t (k+1)=(Ja gl t k||(decide (gl[k].2.1≤(t:Int))&&decide ((t:Int)<gl[k].2.2))):=by
 unfold Ja
 rw[B0a h,List.any_append]
 simp
theorem Qc {gl:List Gp}{t:Nat}:Ja gl t gl.length=true↔J2 gl t:=by
 unfold Ja J2
 rw[List.take_length,List.any_eq_true]
 simp only[A0g,decide_eq_true_eq]

def rl (v:Bool):List Int:=bif v then[1,3] else[1,3,4]
theorem Sj (v:Bool):rls v=Is (rl v):=by cases v <;> rfl
def YG (v:Bool)(k:Nat):Bool:=((rl v).take k).any (·==4)
theorem NO {v:Bool}{k:Nat}(h:k<(rl v).length):YG v (k+1)=(YG v k||(rl v)[k]==4):=by
 unfold YG
 rw[B0a h,List.any_append]
 simp
theorem Qi (v:Bool):YG v (rl v).length=!v:=by cases v <;> rfl

open Classical in
noncomputable def UD (rs:List Rd)(vs:List Vh)(z:Zn)(t:Int)(k:Nat):Bool:=(vs.take k).any fun v=>decide (CW rs z t v)
open Classical in
theorem LM {z:Zn}{t:Int}{k:Nat}(h:k<vs.length):UD rs vs z t (k+1)=(UD rs vs z t k||decide (CW rs z t vs[k])):=by
 unfold UD
 rw[B0a h,List.any_append]
 simp
open Classical in
theorem O8 {z:Zn}{t:Int}:UD rs vs z t vs.length=decide (Lb rs vs z t):=by
 unfold UD
 rw[List.take_length,Bool.eq_iff_iff,List.any_eq_true,decide_eq_true_eq]
 simp only[decide_eq_true_eq]
 rfl
open Classical in
noncomputable def Pf (rs:List Rd)(vs:List Vh)(zs:List Zn)(t:Int)(k:Nat):Bool:=(zs.take k).all fun z=>decide (Lb rs vs z t)
open Classical in
theorem LU {t:Int}{k:Nat}(h:k<zs.length):Pf rs vs zs t (k+1)=(Pf rs vs zs t k&&decide (Lb rs vs zs[k] t)):=by
 unfold Pf
 rw[B0a h,List.all_append]
 simp
open Classical in
theorem Pe {t:Int}:Pf rs vs zs t zs.length=true↔¬∃z∈zs,¬Lb rs vs z t:=by
 unfold Pf
 rw[List.take_length,A0z]
 simp only[decide_eq_true_eq,not_exists,not_and,Classical.not_not]

structure RU (rs:List Rd)(vs:List Vh)(zs:List Zn):Prop where
 r:rs.length≤maxLen
 c:∀r∈rs,r.cls.length≤maxLen
 v:vs.length≤maxLen
 z:zs.length≤maxLen

theorem afk (h:kO n rs){p t:Int}(hp:0≤p∧p<n)(ht:0≤t∧t≤100000):∃out:List Int,out.length=n∧(∀v:Int,0≤v→v<n→Z4 rs (p,t) v (gt out v))∧∀bs,aU Tryz.prog 16 (.st bs) [Nt n rs,I p,I t] (.aM [Is out,I 0]):=by
 obtain⟨k,hk⟩:∃k:Nat,p=k:=⟨p.toNat,by omega⟩
 obtain⟨out,h1,h2,h3⟩:=c16 h (k:=k) (t:=t) (by omega) ht
 rw[←hk] at h2
 exact⟨out,h1,h2,fun bs=>by rw[hk];exact h3 bs⟩

open Classical in
theorem c4 {N s:Int}(ha:RU rs vs zs):∃r,bC Tryz.prog 4 (.st b0) [Nt N rs,.a_ (vs.map Vh.d),.a_ (zs.map Zn.d),I s] (.ret (B true)) (.st (b0++r)):=by
 have Dg:rs.length≤9223372036854775807:=ha.r
 have hv1:vs.length≤9223372036854775807:=ha.v
 have uU:zs.length≤9223372036854775807:=ha.z
 have h12:=c12 (bs:=b0) (n:=N) ha.r ha.c
 have Aq:aU Tryz.prog 5 (.st b0) [] (B true):=RK []
 cases hA:(!sV N rs||decide (N > 8)||decide ((rs.length:Int) > 16)||decide ((vs.length:Int) > 6)||decide ((zs.length:Int) > 5))
 ·have PZ:sV N rs=true:=by
   cases e:sV N rs
   ·rw[e] at hA;cases hA
   ·rfl
  have Yg:1≤N∧N≤200:=by
   unfold sV at PZ
   simp only[A0g] at PZ
   exact gq.1 PZ.1.1
  obtain⟨n,rfl⟩:∃n:Nat,N=n:=⟨N.toNat,by omega⟩
  have Yt:=Ps PZ
  obtain⟨⟨⟨⟨_,a1⟩,a2⟩,a3⟩,a4⟩:(((sV n rs=true∧¬(n:Int) > 8)∧¬(rs.length:Int) > 16)∧¬(vs.length:Int) > 6)∧¬(zs.length:Int) > 5:=by
   simpa only[Bool.or_eq_false_iff,Bool.not_eq_false',decide_eq_false_iff_not] using hA
  have h13:=c13 (bs:=b0) (n:=n) Yg (vs:=vs) ha.v
  have h14:=c14 (bs:=b0) (n:=n) Yg (zs:=zs) (by omega)
  cases hB:(!sV n rs||decide ((n:Int) > 8)||decide ((rs.length:Int) > 16)||decide ((vs.length:Int) > 6)||decide ((zs.length:Int) > 5)||!vs.all (Jo n)||!zs.all (Jn n)||decide (s<1)||decide (s > 40))
  ·simp only[Bool.or_eq_false_iff,Bool.not_eq_false',decide_eq_false_iff_not] at hB
   obtain⟨⟨⟨⟨_,hva⟩,hza⟩,hs1⟩,jH⟩:=hB
   obtain⟨m,rfl⟩:∃m:Nat,s=m:=⟨s.toNat,by omega⟩
   have hB:(!sV n rs||decide ((n:Int) > 8)||decide ((rs.length:Int) > 16)||decide ((vs.length:Int) > 6)||decide ((zs.length:Int) > 5)||!vs.all (Jo n)||!zs.all (Jn n)||decide ((m:Int)<1)||decide ((m:Int) > 40))=false:=by
    rw[hA,hva,hza,decide_eq_false hs1,decide_eq_false jH];rfl
   have hvb:∀v∈vs,Jo n v=true:=A0z.1 hva
   have hzb:∀z∈zs,Jn n z=true:=A0z.1 hza
   obtain⟨gl,I6,hin,h15⟩:=c15 (rs:=rs) (vs:=vs) (zs:=zs) Yt hzb hvb (by omega) (by omega) (H:=m) (by omega)
   obtain⟨S,S0,Sb,Sw⟩:=secs (fun t=>!Ja gl t gl.length) (m:=m) (by omega)
   obtain⟨r,hr⟩:=Sb m (A0m _)
   refine⟨r,?_⟩
   rw[←hr]
   have hkm:aU Tryz.prog 5 (.st (S m)) [] (B true):=by rw[hr];exact RK r
   have h7:=YK []
   refine ku4.W rfl ?_
   unfold u4
   simp only[aP,bg,A0q,A0r]
   repeat' (first|(apply eZ;simp only[az];rfl)|(apply bL;rfl;(·first|exact hB|exact rfl))|(apply cw;rfl)|(apply cm;rfl;exact bn;simp only[az];rfl)|(apply bk;rfl;simp only[az];rfl)|(apply bX;rfl;rfl;(·first|exact h12|exact h13|exact h14|exact h15 _|exact h7);rfl;simp only[az];rfl)|(apply gL;rfl;rfl;exact YN;rfl;simp only[az];rfl)|(apply gm;rfl)|refine aK ?_|exact aS rfl rfl|(intro hz;(try simp only[gQ] at hz)))
   refine dX (fun t=>[In t,.st (S t)]) (fun _=>True) m (by rw[S0];rfl) (fun _=>rfl) trivial (fun t ht hJ R hR=>?_) (fun hJ R=>?_)
   ·have iS:decide ((t:Int)<(m:Int))=true:=by simp;omega
    obtain⟨h9,g,hg,jF⟩:=Sw t ht
    obtain⟨rt,hrt⟩:=Sb t (by omega)
    have h9:bt Tryz.prog 9 (.st (S t)) [.loc 1 0,ln (!Ja gl t gl.length) t] (i 0) (.st (S (t+1))):=h9
    have jF:S (t+1)=Ev (t+1) (!Ja gl t gl.length)++g:=jF
    have hwt:(!Ja gl t gl.length)=true↔¬∃z∈zs,¬Lb rs vs z t:=by
     rw[Bool.not_eq_true',←B0h,Qc,hin]
     exact⟨fun h1 h2=>h1 ⟨by omega,by omega,h2⟩,fun h1 h2=>h1 h2.2.2⟩
    have h8:aU Tryz.prog 8 (.st (S t)) [wd (!Ja gl t gl.length),.a_ [i (t:Nat)]] (ln (!Ja gl t gl.length) t):=by rw[hrt];exact Ui (Uj (by omega)) _ rt
    have h11:aU Tryz.prog 11 (.st (S (t+1))) [.loc 1 0,i 1,i (t:Nat)] (.aM [Is (rl (!Ja gl t gl.length)),i 0]):=by rw[jF,←Sj];exact Uh (Qu (by omega)) _ hg
    clear jF
    repeat' (first|(apply eZ;simp only[az];rfl)|(apply bK;rfl;exact iS)|(apply bk;rfl;simp only[az];rfl)|refine aK ?_)
    refine dX (fun i=>[wd (!Ja gl t i),In i]) (fun _=>True) gl.length rfl (fun _=>rfl) trivial (fun i hi _ R2 vM=>?_) (fun _ R2=>?_)
    ·have wk:decide ((i:Int)<(gl.length:Int))=true:=by simp;omega
     have wm:=bR (xs:=gl) (enc:=gD) (sz:=3) hi rfl
     rw[ND hi] at vM
     repeat' (first|(apply eZ;simp only[az];rfl)|(apply bK;rfl;exact wk)|(apply cw;rfl)|(apply bG;rfl;rfl;exact wm;simp only[az];rfl)|(apply cm;rfl;exact bn;simp only[az];rfl)|(apply eT;rfl;omega;simp only[az];rfl)|(apply bk;rfl;simp only[az];rfl)|(apply jm;rfl)|refine aK ?_|(apply aR;rfl;rfl)|refine aF ?_|refine kj rfl ?_|(apply Ds;rfl;(·intro hz;rfl);(·intro hz;rfl);rfl;(·simp only[az,List.zipWith_cons_cons,List.zipWith_nil_left,mT];rfl))|exact aS rfl rfl|(intro hz;(try simp only[gQ] at hz)))
     cases hc:(decide (gl[i].2.1≤(t:Int))&&decide ((t:Int)<gl[i].2.2))
     ·rw[hc,Bool.or_false] at vM
      exact vM trivial
     ·rw[hc,Bool.or_true] at vM
      exact vM trivial
    ·have wk:decide ((gl.length:Int)<(gl.length:Int))=false:=by simp
     generalize(!Ja gl t gl.length)=wt at h8 h9 h11 hwt ⊢
     have hrl:(rl wt).length≤3:=by cases wt <;> decide
     repeat' (first|(apply eZ;simp only[az];rfl)|(apply bL;rfl;(·first|exact wk|exact rfl))|(apply cm;rfl;exact bn;simp only[az];rfl)|(apply bk;rfl;simp only[az];rfl)|(apply bX;rfl;rfl;(·first|exact h8|exact h11);rfl;simp only[az];rfl)|(apply gL;rfl;rfl;exact h9;rfl;simp only[az];rfl)|refine aK ?_|(apply aR;rfl;rfl)|refine aF ?_|(refine bJ (by decide) ?_)|refine kj rfl ?_)
     refine dX (fun i=>[B (YG wt i),In i]) (fun _=>True) (rl wt).length rfl (fun _=>rfl) trivial (fun i hi _ R3 hR3=>?_) (fun _ R3=>?_)
     ·have Tn:decide ((i:Int)<((rl wt).length:Int))=true:=by simp;omega
      have wm:=bR (xs:=rl wt) (enc:=I) (sz:=1) hi rfl
      rw[NO hi] at hR3
      repeat' (first|(apply eZ;simp only[az];rfl)|(apply bK;rfl;exact Tn)|(apply cw;rfl)|(apply bG;rfl;rfl;exact wm;simp only[az];rfl)|(apply cm;rfl;exact bn;simp only[az];rfl)|(apply eT;rfl;omega;simp only[az];rfl)|(apply bk;rfl;simp only[az];rfl)|(apply gm;rfl)|refine aK ?_|(apply aR;rfl;rfl)|refine aF ?_|refine kj rfl ?_|exact aS rfl rfl|(intro hz;(try simp only[gQ] at hz)))
      exact hR3 trivial
     ·have Tn:decide (((rl wt).length:Int)<((rl wt).length:Int))=false:=by simp
      rw[Qi]
      repeat' (first|(apply eZ;simp only[az];rfl)|(apply bL;rfl;exact Tn)|(apply cm;rfl;exact bn;simp only[az];rfl)|(apply bk;rfl;simp only[az];rfl)|refine aK ?_|(apply aR;rfl;rfl)|refine aF ?_|(refine bJ (by decide) ?_)|refine kj rfl ?_)
      refine dX (fun i=>[B (Pf rs vs zs t i),In i]) (fun _=>True) zs.length rfl (fun _=>rfl) trivial (fun i hi _ R4 US=>?_) (fun _ R4=>?_)
      ·have Tm:decide ((i:Int)<(zs.length:Int))=true:=by simp;omega
       have hez:=bR (xs:=zs) (enc:=Zn.d) (sz:=3) hi rfl
       have hzk:=Lf (hzb _ (List.getElem_mem hi))
       have PF:=hzk.pos
       have hzw:=hzk.win
       rw[LU hi] at US
       generalize zs[i]=z at hez PF hzw US
       repeat' (first|(apply eZ;simp only[az];rfl)|(apply bK;rfl;exact Tm)|(apply cm;rfl;exact bn;simp only[az];rfl)|(apply bk;rfl;simp only[az];rfl)|refine aK ?_)
       refine dX (fun k=>[B (UD rs vs z t k),In k]) (fun _=>True) vs.length rfl (fun _=>rfl) trivial (fun k hk _ R5 UR=>?_) (fun _ R5=>?_)
       ·have P2:decide ((k:Int)<(vs.length:Int))=true:=by simp;omega
        have bz:=bR (xs:=vs) (enc:=Vh.d) (sz:=4) hk rfl
        have hvk:=Ln (hvb _ (List.getElem_mem hk))
        have MM:=hvk.pos
        rw[LM hk] at UR
        generalize vs[k]=v at bz MM UR
        cases Rl:(decide ((t:Int)<v.lo)||decide ((t:Int)≥v.hi)||!(Ou v.C_ z.kL==z.kL))
        ·obtain⟨out,ol,oA,h16⟩:=afk (rs:=rs) Yt (p:=v.pos) (t:=t) MM (by omega)
         have aea:=zG (out:=out) PF.1 (by omega)
         have hn2:(!((0:Int)==0)||!((out.length:Int)==(n:Int)))=false:=by rw[ol];simp
         simp only[Bool.or_eq_false_iff,decide_eq_false_iff_not,Bool.not_eq_false'] at Rl
         have qB:decide (CW rs z t v)=(decide (gt out z.pos≥0)&&decide (gt out z.pos≤(t:Int)+z.win)):=by
          rw[Bool.eq_iff_iff,A0g,decide_eq_true_eq,decide_eq_true_eq,decide_eq_true_eq]
          rcases oA z.pos PF.1 PF.2 with⟨g1,g2⟩ | ⟨g1,g2,g3,g4⟩
          ·refine⟨fun h=>?_,fun h=>by omega⟩
           obtain⟨_,_,_,a,k1,_⟩:=h
           exact absurd k1 (g2 a)
          ·refine⟨fun h=>?_,fun h=>⟨by omega,by omega,Rl.2,_,g3,h.2⟩⟩
           obtain⟨_,_,_,a,k1,k2⟩:=h
           have:=g4 a k1
           exact⟨g1,by omega⟩
         rw[qB] at UR
         have adJ:(decide ((t:Int)<v.lo)||decide ((t:Int)≥v.hi)||!(Ou v.C_ z.kL==z.kL))=false:=by
          rw[decide_eq_false Rl.1.1,decide_eq_false Rl.1.2,Rl.2];rfl
         repeat' (first|(apply eZ;simp only[az];rfl)|(apply bK;rfl;exact P2)|(apply bL;rfl;(·first|exact adJ|exact hn2))|(apply cw;rfl)|(apply bG;rfl;rfl;(·first|exact bz|exact hez|exact aea);simp only[az];rfl)|(apply cm;rfl;exact bn;simp only[az];rfl)|(apply jI;rfl;rfl;exact sj _ _;simp only[az];rfl)|(apply eT;rfl;omega;simp only[az];rfl)|(apply mR;rfl;rfl;omega;simp only[az];rfl)|(apply bk;rfl;simp only[az];rfl)|(apply bX;rfl;rfl;exact h16 _;rfl;simp only[az];rfl)|(apply gm;rfl)|(apply jm;rfl)|refine aK ?_|(apply aR;rfl;rfl)|refine aF ?_|refine kj rfl ?_|exact aS rfl rfl|(intro hz;(try simp only[gQ] at hz)))
         exact UR trivial
        ·have qB:decide (CW rs z t v)=false:=by
          rw[decide_eq_false_iff_not]
          rintro⟨h1,h2,h3,_⟩
          have h3:(Ou v.C_ z.kL==z.kL)=true:=h3
          rw[decide_eq_false (by omega),decide_eq_false (by omega),h3] at Rl
          cases Rl
         rw[qB,Bool.or_false] at UR
         repeat' (first|(apply eZ;simp only[az];rfl)|(apply bK;rfl;(·first|exact P2|exact Rl))|(apply cw;rfl)|(apply bG;rfl;rfl;(·first|exact bz|exact hez);simp only[az];rfl)|(apply cm;rfl;exact bn;simp only[az];rfl)|(apply jI;rfl;rfl;exact sj _ _;simp only[az];rfl)|(apply eT;rfl;omega;simp only[az];rfl)|(apply bk;rfl;simp only[az];rfl)|(apply gm;rfl)|refine aK ?_|(apply aR;rfl;rfl)|refine aF ?_|refine kj rfl ?_|exact aS rfl rfl|(intro hz;(try simp only[gQ] at hz)))
         exact UR trivial
       ·have P2:decide ((vs.length:Int)<(vs.length:Int))=false:=by simp
        rw[O8]
        repeat' (first|(apply eZ;simp only[az];rfl)|(apply bL;rfl;exact P2)|(apply cm;rfl;exact bn;simp only[az];rfl)|(apply eT;rfl;omega;simp only[az];rfl)|(apply Lq;rfl;rfl;rfl;(·simp only[az,List.zipWith_cons_cons,List.zipWith_nil_left,mT];rfl))|(apply bk;rfl;simp only[az];rfl)|(apply aR;rfl;rfl)|refine aF ?_|(refine bJ (by decide) ?_)|refine kj rfl ?_)
        cases hc:Pf rs vs zs t i
        ·rw[hc] at US
         exact US trivial
        ·rw[hc,Bool.true_and] at US
         exact US trivial
      ·have Tm:decide ((zs.length:Int)<(zs.length:Int))=false:=by simp
       have P5:((!wt)==Pf rs vs zs t zs.length)=false:=by
        have h1:=Pe (rs:=rs) (vs:=vs) (zs:=zs) (t:=t)
        rw[←hwt] at h1
        cases e1:wt <;> cases e2:Pf rs vs zs t zs.length <;> simp_all
       repeat' (first|(apply eZ;simp only[az];rfl)|(apply bL;rfl;(·first|exact Tm|exact P5))|(apply cm;rfl;exact bn;simp only[az];rfl)|(apply eT;rfl;omega;simp only[az];rfl)|(apply bk;rfl;simp only[az];rfl)|(apply aR;rfl;rfl)|refine aF ?_|(refine bJ (by decide) ?_)|refine kj rfl ?_)
       exact hR trivial
   ·have iS:decide ((m:Int)<(m:Int))=false:=by simp
    repeat' (first|(apply eZ;simp only[az];rfl)|(apply bL;rfl;exact iS)|(apply bk;rfl;simp only[az];rfl)|(apply bX;rfl;rfl;exact hkm;rfl;simp only[az];rfl)|(apply aR;rfl;rfl)|refine aF ?_|(refine bJ (by decide) ?_)|refine kj rfl ?_|exact aS rfl rfl)
  ·refine⟨[],?_⟩
   rw[List.append_nil]
   refine ku4.W rfl ?_
   unfold u4
   simp only[aP,bg,A0q,A0r]
   repeat' (first|(apply eZ;simp only[az];rfl)|(apply bK;rfl;exact hB)|(apply cw;rfl)|(apply cm;rfl;exact bn;simp only[az];rfl)|(apply bk;rfl;simp only[az];rfl)|(apply bX;rfl;rfl;(·first|exact h12|exact h13|exact h14|exact Aq);rfl;simp only[az];rfl)|(apply gm;rfl)|exact aS rfl rfl|(intro hz;(try simp only[gQ] at hz)))
 ·refine⟨[],?_⟩
  rw[List.append_nil]
  refine ku4.W rfl ?_
  unfold u4
  simp only[aP,bg,A0q,A0r]
  repeat' (first|(apply eZ;simp only[az];rfl)|(apply Va;rfl;(·first|exact hA|exact rfl))|(apply bK;rfl;exact rfl)|(apply cw;rfl)|(apply cm;rfl;exact bn;simp only[az];rfl)|(apply bk;rfl;simp only[az];rfl)|(apply bX;rfl;rfl;(·first|exact h12|exact Aq);rfl;simp only[az];rfl)|(apply gm;rfl)|exact aS rfl rfl|(intro hz;(try simp only[gQ] at hz)))
end
end Go.Am.To
