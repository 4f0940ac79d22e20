/- Texts. -/
import Derived.Test.YtjnipnanfjglpaaGreatDoorAmTabWtoAmUnder
import Derived.Test.YtjnipnanfjglpaaGreatDoorToG7toToRep
import Derived.Test.YtjnipnanfjglpaaGreatDoorToC1toTwShelf
import Derived.Test.YtjnipnanfjglpaaGreatDoorToBasetoScAct
import Derived.Test.YtjnipnanfjglpaaGreatDoorAmUtoAmTabK
import Derived.Test.YtjnipnanfjglpaaGreatDoorAmSoundtoAmUT
import Derived.Test.YtjnipnanfjglpaaGreatDoorAmKilltoAmOut
import Derived.Test.YtjnipnanfjglpaaGreatDoorTwC5toTwG1
set_option linter.unusedSimpArgs false
set_option linter.unusedVariables false
namespace Go.Am.To
section
open Go.Proofs
set_option maxRecDepth 100000
noncomputable def aap:List Spec:=[Sq 92 Tryz.f92 true false,Sq 147 Tryz.f147 true false,Sq 148 Tryz.f148 true false,Sq 192 Tryz.f192 true false,Sq 193 Tryz.f193 true false]
theorem ac8:pK Tryz.prog aap:=⟨Tryz.func92,Tryz.func147,Tryz.func148,Tryz.func192,Tryz.func193,trivial⟩
def zs (k:Nat):D:=.v (.string ⟨⟨List.replicate k 48⟩⟩)
noncomputable def ckZ (tt:vY)(k:Nat):Bool:=Xt (zs k) ((kV Tryz.prog tt 200 b0 (rN b0 []) 40).R 92 (.st b0) [zs 1,i (k:Nat)])
theorem YW:lG Tryz.prog (fun tt=>(List.range 16).all (ckZ tt)) aap []=true:=by kernel_rfl
theorem adu {k:Nat}(h:k<16)(g:List D):aQ Tryz.prog 92 (.st (b0++g)) [zs 1,i (k:Nat)] (zs k):=by
 obtain⟨tt,ht,hk⟩:=sS ac8 tU YW;have h1:aQ Tryz.prog 92 (.st (b0++[])) [zs 1,i (k:Nat)] (zs k):=by refine zU (g:=[]) (n:=200) (m:=40) (b0:=b0) (iR (b0:=b0) (l:=[]) trivial) ht ?_;exact A0C.1 hk k (A0X.2 h)
 exact eS.ofA FX (b0:=b0) (by simpa using h1) rfl rfl g
end
section
open Go.Proofs Go.Am.Sc
set_option maxRecDepth 100000
set_option maxHeartbeats 4000000
abbrev Uu (n:Int):D:=.v (.int .u64 n)
abbrev St (s:ByteArray):D:=.v (.string s)
variable {bs:List D}
def stp (h:Int)(c:UInt8):Int:=IntKind.u64.wrap (IntKind.u64.wrap (BitVec.ofInt 64 h ^^^ BitVec.ofInt 64 (IntKind.u64.wrap (c.toNat:Int))).toNat*1099511628211)
def chK (h:Int)(s:ByteArray):Nat→Int
 | 0=>h
 | k+1=>match s[k]? with | some c=>stp (chK h s k) c | none=>chK h s k
def chF (h:Int)(s:ByteArray):Int:=IntKind.u64.wrap (chK h s s.size*1099511628211)
theorem VU {h:Int}{s:ByteArray}{k:Nat}(hk:k<s.size):chK h s (k+1)=stp (chK h s k) s[k]:=by rw[chK,getElem?_pos s k hk]
theorem W_ {s:ByteArray}{k:Nat}(hk:k<s.size):D.m4 .kN (St s) (I k) (.agg []) (.agg [])=some (.v (.int .u8 s[k].toNat)):=by simp[D.m4,D.kN,getElem?_pos s k hk]
theorem c46 {h:Int}{s:ByteArray}(hs:s.size≤maxLen):aQ Tryz.prog 46 (.st bs) [Uu h,St s] (Uu (chF h s)):=by
 have Ae:s.size≤9223372036854775807:=hs;refine am8.R rfl rfl ?_;unfold u46;simp only[aB,aI,A0i,A0j]
 repeat' (first|(apply aU;rfl;simp only[au];rfl)|refine aO ?_)
 refine ew (fun i=>[Uu (chK h s i),I i]) (fun _=>True) s.size rfl (fun _=>rfl) trivial (fun i hi _ R hR=>?_) (fun _ R=>?_)
 ·have gA:decide ((i:Int)<(s.size:Int))=true:=by simp;omega
  repeat' (first|(apply dX;simp only[au];rfl)|(apply bF;rfl;exact gA)|(apply kT;rfl;rfl;rfl;rfl;exact W_ hi;simp only[au];rfl)|(apply jf;rfl;rfl;omega;simp only[au];rfl)|(apply aU;rfl;simp only[au];rfl)|refine aO ?_|(apply aL;rfl;rfl)|refine aC ?_|refine kj rfl ?_)
  refine(VU hi ▸ hR trivial:_)
 ·repeat' (first|(apply dX;simp only[au];rfl)|(apply aU;rfl;simp only[au];rfl)|(apply aL;rfl;rfl)|refine aC ?_|(refine aT (by decide) ?_)|refine kj rfl ?_|(apply eN;rfl;all_goals (intro hz;(try simp only[gq] at hz);first|(exact absurd hz (by decide))|(exfalso;omega)|skip))|exact aH rfl rfl)
theorem xY (h:Int)(s:ByteArray):∃n:Nat,chF h s=n∧n<18446744073709551616:=by unfold chF;exact RW _
def K_ (n:Nat):ByteArray:=⟨(dg 16 n).toArray⟩
abbrev Rg (c:UInt8):D:=.v (.int .u8 (c.toNat:Int))
def ar (n k:Nat):List D:=List.replicate (65-k) (.v (.int .u8 0))++(dg k n).map Rg
def sK (n k:Nat):List D:=b0++[.blk 346 65 (ar n k)]
theorem V_ {n k:Nat}(h:k≤65):(ar n k).length=65:=by simp[ar,qw];omega
theorem adG {n k:Nat}(h:k<65):(ar n k).set (64-k) (Rg (Nc (qk n k % 16)))=ar n (k+1):=by unfold ar;rw[show 65-k=(64-k)+1 from by omega,List.replicate_succ',A0A,C0q _ _ (by simp),C0H,B0R,List.singleton_append,List.set_cons_zero,YU,B0p,show 65-(k+1)=64-k from by omega]
theorem SF (n k:Nat):(sK n k)[b0.length]? = some (.blk 346 65 (ar n k)):=by simp[sK]
theorem Su {n k:Nat}(h:k<65):D.eL 1 (.st (sK n k)) (.loc b0.length (64-k)) (Rg (Nc (qk n k % 16)))=some (.st (sK n (k+1))):=by rw[gW (SF n k) (by rw[V_ (by omega)];omega) rfl,adG h];simp[sK]
theorem adH (x:Nat):D.bin .and .int (Uu x) (Uu 15)=some (Uu ((x % 16:Nat):Int)):=by
 have h1:D.bin .and .int (Uu x) (Uu 15)=some (Uu (IntKind.u64.wrap (BitVec.ofInt 64 (x:Int) &&& BitVec.ofInt 64 15).toNat)):=rfl;have h2:(BitVec.ofInt 64 (x:Int) &&& BitVec.ofInt 64 15).toNat=x % 16:=by
  rw[BitVec.toNat_and];have e1:(BitVec.ofInt 64 (x:Int)).toNat=x % 2 ^ 64:=by simp[BitVec.toNat_ofInt]
  have e2:(BitVec.ofInt 64 (15:Int)).toNat=2 ^ 4-1:=rfl;rw[e1,e2,Nat.and_two_pow_sub_one_eq_mod];omega
 rw[h1,h2,IntKind.wrap_u64];congr 3;omega
theorem aa7 (x:Nat):D.bin .shr .int (Uu x) (Uu 4)=some (Uu ((x / 16:Nat):Int)):=by have h1:D.bin .shr .int (Uu x) (Uu 4)=some (Uu ((x:Int).fdiv 16)):=rfl;rw[h1,Int.fdiv_eq_ediv_of_nonneg _ (by omega)];rfl
theorem T8 {d:Nat}(hd:d<16):D.m4 .kN (.v (.string ⟨#[48,49,50,51,52,53,54,55,56,57,97,98,99,100,101,102,103,104,105,106,107,108,109,110,111,112,113,114,115,116,117,118,119,120,121,122]⟩)) (Uu d) (.agg []) (.agg [])=some (Rg (Nc d)):=by
 have h:d=0∨d=1∨d=2∨d=3∨d=4∨d=5∨d=6∨d=7∨d=8∨d=9∨d=10∨d=11∨d=12∨d=13∨d=14∨d=15:=by omega
 rcases h with rfl | rfl | rfl | rfl | rfl | rfl | rfl | rfl | rfl | rfl | rfl | rfl | rfl | rfl | rfl | rfl <;> (show _=some _;kernel_rfl)
theorem aav {m:Nat}(h:m<65):D.m4 (.iJ 65 1) (.loc b0.length 0) (I m) (.agg []) (.agg [])=some (.loc b0.length m):=by
 have:((0:Int)≤(m:Int)∧(m:Int)<65):=by omega
 simp[D.m4,D.iJ,this,D.aj]
theorem Sm {m:Nat}(h:m<1000):D.bin .sub .int (I ((m+1:Nat):Int)) (I 1)=some (I (m:Int)):=by have h1:D.bin .sub .int (I ((m+1:Nat):Int)) (I 1)=some (I (IntKind.i64.wrap (((m+1:Nat):Int)-1))):=rfl;rw[h1,IntKind.wrap_i64];congr 3;omega
theorem FT:∀l:List UInt8,bytesOf (l.map Rg)=some (l.map fun c=>(c.toNat:Int))
 | []=>rfl
 | c :: l=>by have h:bytesOf ((c :: l).map Rg)=(bytesOf (l.map Rg)).map fun ns=>(c.toNat:Int) :: ns:=rfl;rw[h,FT l];rfl
theorem W0 (l:List UInt8):strOfNums (l.map fun c=>(c.toNat:Int))=⟨l.toArray⟩:=by simp[strOfNums,Function.comp_def]
theorem adE {m:Nat}(h:m<65)(h0:0<m):D.m4 (.V8 65 1) (.loc b0.length 0) (I m) (.agg []) (.agg [])=some (.sl b0.length m (65-m)):=by
 have:((0:Int)≤(m:Int)∧(m:Int)<(65:Nat)∧0<0+(m:Int).toNat*1):=by omega
 simp only[D.m4,D.V8,A0z this];congr 2 <;> omega
theorem adD {n k:Nat}(h:k<65)(h0:0<k):D.m4 .uZ (.st (sK n k)) (.sl b0.length (65-k) k) (.agg []) (.agg [])=some (St ⟨(dg k n).toArray⟩):=by
 have hc:D.eG (.st (sK n k)) b0.length=some (346,65,ar n k):=by simp only[D.eG,SF]
 have hd:((ar n k).drop (65-k)).take k=(dg k n).map Rg:=by unfold ar;rw[List.drop_append_of_le_length (by simp),List.drop_replicate,B0R,List.replicate_zero,A0j,C0B (by simp[qw])]
 have hl:65-k+k≤(ar n k).length∧0<k:=by rw[V_ (by omega)];omega
 simp only[D.m4,D.uZ,hc,A0d,A0z hl,hd,FT,A0y,W0]
theorem aql {n:Nat}(hn:n<18446744073709551616):aZ Tryz.prog 190 (.st b0) [.bk [],Uu n,I 16,B false,B false] (.a_ [.bk [],St ⟨(xI n).toArray⟩]) (.st (sK n (jn n+1))):=by
 have hj:jn n≤15:=TS (k:=15) (by omega);have Db:qk n (jn n)<16:=by rw[IL];exact OG n n (A0m _)
 refine agF.W rfl ?_;unfold aeN;simp only[aB,aI,A0i,A0j]
 repeat' (first|(apply dX;simp only[au];rfl)|(apply aU;rfl;simp only[au];rfl)|(apply bC;rfl;rfl;(·first|exact ac_ _|exact ac7 _);rfl;simp only[au];rfl)|(apply iP;rfl)|refine aO ?_|(apply aL;rfl;rfl)|refine aC ?_|refine kj rfl ?_|(apply eN;rfl;all_goals (intro hz;(try simp only[gq] at hz);first|(exact absurd hz (by decide))|(exfalso;omega)|skip))|exact aH rfl rfl|(intro hz;(try simp only[gq] at hz)))
 refine ew (fun k=>[Uu (qk n k),I ((65-k:Nat):Int),.st (sK n k)]) (fun _=>True) (jn n) rfl (fun _=>rfl) trivial (fun k hk _ R hR=>?_) (fun _ R=>?_)
 ·have hge:decide ((qk n k:Int)≥16)=true:=by have:=TT n n (A0m _) k hk;rw[←IL] at this;simp;omega
  have hd:qk n k % 16<16:=C0D _ (by omega);have hs:D.bin .sub .int (I ((65-k:Nat):Int)) (I 1)=some (I ((64-k:Nat):Int)):=by have:=Sm (m:=64-k) (by omega);rwa [show 64-k+1=65-k from by omega] at this
  have he:=aav (m:=64-k) (by omega);have ht:=Su (n:=n) (k:=k) (by omega)
  repeat' (first|(apply dX;simp only[au];rfl)|(apply bF;rfl;exact hge)|(apply je;rfl;rfl;rfl;exact ht;simp only[au];rfl)|(apply jl;rfl;rfl;(·first|exact hs|exact adH _|exact aa7 _);simp only[au];rfl)|(apply kT;rfl;rfl;rfl;rfl;(·first|exact T8 hd|exact he);simp only[au];rfl)|(apply aU;rfl;simp only[au];rfl)|refine aO ?_|(apply aL;rfl;rfl)|refine aC ?_|refine kj rfl ?_)
  have h5:=hR trivial;simp only[show 65-(k+1)=64-k from by omega] at h5;exact h5
 ·have hlt:decide ((qk n (jn n):Int)≥16)=false:=by simp;omega
  have hs:D.bin .sub .int (I ((65-jn n:Nat):Int)) (I 1)=some (I ((64-jn n:Nat):Int)):=by have:=Sm (m:=64-jn n) (by omega);rwa [show 64-jn n+1=65-jn n from by omega] at this
  have he:=aav (m:=64-jn n) (by omega);have ht:=Su (n:=n) (k:=jn n) (by omega);rw[C0C Db] at ht;have ha:=adE (m:=64-jn n) (by omega) (by omega);rw[show 65-(64-jn n)=jn n+1 from by omega] at ha;have hb:=adD (n:=n) (k:=jn n+1) (by omega) (by omega);rw[show 65-(jn n+1)=64-jn n from by omega] at hb
  repeat' (first|(apply dX;simp only[au];rfl)|(apply bf;rfl;(·first|exact hlt|exact rfl))|(apply je;rfl;rfl;rfl;exact ht;simp only[au];rfl)|(apply jl;rfl;rfl;exact hs;simp only[au];rfl)|(apply kT;rfl;rfl;rfl;rfl;(·first|exact T8 Db|exact he|exact ha|exact hb);simp only[au];rfl)|(apply aU;rfl;simp only[au];rfl)|refine aO ?_|(apply aL;rfl;rfl)|refine aC ?_|(refine aT (by decide) ?_)|refine kj rfl ?_|exact aH rfl rfl)
theorem alZ {n:Nat}(hn:n<18446744073709551616):aQ Tryz.prog 190 (.st (b0++bs)) [.bk [],Uu n,I 16,B false,B false] (.a_ [.bk [],St ⟨(xI n).toArray⟩]):=
 bu.ZK (n:=9) FX (aql hn) rfl rfl bs
theorem aqy {n:Nat}(hn:n<18446744073709551616):aQ Tryz.prog 146 (.st (b0++bs)) [Uu n,I 16] (St ⟨(xI n).toArray⟩):=by
 refine agQ.R rfl rfl ?_;unfold aeY;simp only[aB,aI,A0i,A0j]
 repeat' (first|(apply aU;rfl;simp only[au];rfl)|(apply bC;rfl;rfl;exact alZ hn;rfl;simp only[au];rfl)|(apply eN;rfl;all_goals (intro hz;(try simp only[gq] at hz);first|(exact absurd hz (by decide))|(exfalso;omega)|skip))|exact aH rfl rfl)
theorem c91 {n:Nat}(hn:n<18446744073709551616):aQ Tryz.prog 91 (.st (b0++bs)) [Uu n,I 16] (St ⟨(xI n).toArray⟩):=by
 refine amM.R rfl rfl ?_;unfold u91;simp only[aB,aI,A0i,A0j]
 repeat' (first|(apply bC;rfl;rfl;exact aqy hn;rfl;simp only[au];rfl)|exact aH rfl rfl)
theorem JY (n:Nat):(xI n).length=jn n+1:=qw _ _
theorem c47 {n:Nat}(hn:n<18446744073709551616):aQ Tryz.prog 47 (.st (b0++bs)) [Uu n] (St (K_ n)):=by
 have hj:jn n≤15:=TS (k:=15) (by omega);have hz:(⟨(xI n).toArray⟩:ByteArray).size=jn n+1:=by simp[ByteArray.size,JY]
 have hs:D.bin .sub .int (I 16) (I (((⟨(xI n).toArray⟩:ByteArray).size:Nat):Int))=some (I ((15-jn n:Nat):Int)):=by rw[hz];have h1:D.bin .sub .int (I 16) (I ((jn n+1:Nat):Int))=some (I (IntKind.i64.wrap (16-((jn n+1:Nat):Int)))):=rfl;rw[h1,IntKind.wrap_i64];congr 3;omega
 have hc:D.bin .add .str (St ⟨(List.replicate (15-jn n) 48).toArray⟩) (St ⟨(xI n).toArray⟩)=some (St (K_ n)):=by
  have h1:¬((((⟨(List.replicate (15-jn n) (48:UInt8)).toArray⟩:ByteArray).size+(⟨(xI n).toArray⟩:ByteArray).size:Nat):Int) > IntKind.i64.max):=by
   have e1:(⟨(List.replicate (15-jn n) (48:UInt8)).toArray⟩:ByteArray).size=15-jn n:=by simp[ByteArray.size]
   rw[e1,hz];have:IntKind.i64.max=9223372036854775807:=rfl;omega
  simp only[D.bin,A0B h1];rw[V6,K_,←UR (n:=n) (by omega),JY,show 16-(jn n+1)=15-jn n from by omega]
 refine am7.R rfl rfl ?_;unfold u47;simp only[aB,aI,A0i,A0j]
 repeat' (first|(apply jl;rfl;rfl;(·first|exact hs|exact hc);simp only[au];rfl)|(apply aU;rfl;simp only[au];rfl)|(apply bC;rfl;rfl;(·first|exact c91 hn|exact adu (k:=15-jn n) (by omega) _);rfl;simp only[au];rfl)|exact aH rfl rfl)
end
section
open Go.Proofs Go.Am.Sc
set_option maxRecDepth 100000
set_option maxHeartbeats 4000000
variable {bs:List D}
theorem VD:∀k n,∃es:List Nat,dg k n=es.map Nc∧es.length=k∧∀d,d∈es→d<16
 | 0,n=>⟨[],rfl,rfl,fun _ h=>by cases h⟩
 | k+1,n=>by
  obtain⟨es,h1,h2,h3⟩:=VD k (n / 16);refine⟨es++[n % 16],by rw[dg,h1];simp,by simp[h2],fun d hd=>?_⟩;rcases A0K.1 hd with h | h
  ·exact h3 d h
  ·simp only[A0Y] at h;subst h;exact C0D _ (by omega)
theorem ado {d:Nat}(hd:d<10):((Nc d).toNat:Int)=48+d:=by
 have h:d=0∨d=1∨d=2∨d=3∨d=4∨d=5∨d=6∨d=7∨d=8∨d=9:=by omega
 rcases h with rfl | rfl | rfl | rfl | rfl | rfl | rfl | rfl | rfl | rfl <;> rfl
theorem adp {d:Nat}(h0:10≤d)(hd:d<16):((Nc d).toNat:Int)=87+d:=by
 have h:d=10∨d=11∨d=12∨d=13∨d=14∨d=15:=by omega
 rcases h with rfl | rfl | rfl | rfl | rfl | rfl <;> rfl
abbrev U8 (n:Int):D:=.v (.int .u8 n)
theorem afQ {d:Nat}(h0:10≤d)(hd:d<16):D.bin .or .int (U8 (87+d)) (U8 32)=some (U8 (87+d)):=by
 have h:d=10∨d=11∨d=12∨d=13∨d=14∨d=15:=by omega
 rcases h with rfl | rfl | rfl | rfl | rfl | rfl <;> rfl
theorem aqt {d:Nat}(h0:10≤d)(hd:d<16):aQ Tryz.prog 169 (.st bs) [U8 (87+d)] (U8 (87+d)):=by
 refine agM.R rfl rfl ?_;unfold aeU;simp only[aB,aI,A0i,A0j]
 repeat' (first|(apply jl;rfl;rfl;exact afQ h0 hd;simp only[au];rfl)|exact aH rfl rfl)
theorem Zi {m:Int}(h:0≤m∧m<256):IntKind.u8.wrap m=m:=by rw[IntKind.wrap_u8];omega
theorem RX {m:Int}(h:0≤m∧m<18446744073709551616):IntKind.u64.wrap m=m:=by rw[IntKind.wrap_u64];omega
theorem afl {a c m:Int}(h:0≤m∧m<256)(e:a-c=m):D.bin .sub .int (U8 a) (U8 c)=some (U8 m):=by have h1:D.bin .sub .int (U8 a) (U8 c)=some (U8 (IntKind.u8.wrap (a-c))):=rfl;rw[h1,Zi (by omega),e]
theorem aq1 {a c m:Int}(h:0≤m∧m<256)(e:a+c=m):D.bin .add .int (U8 a) (U8 c)=some (U8 m):=by have h1:D.bin .add .int (U8 a) (U8 c)=some (U8 (IntKind.u8.wrap (a+c))):=rfl;rw[h1,Zi (by omega),e]
theorem aqY {a c:Int}(h:0≤a+c∧a+c<18446744073709551616):D.bin .add .int (Uu a) (Uu c)=some (Uu (a+c)):=by have h1:D.bin .add .int (Uu a) (Uu c)=some (Uu (IntKind.u64.wrap (a+c))):=rfl;rw[h1,RX h]
theorem amA {a c:Int}(h:0≤a*c∧a*c<18446744073709551616):D.bin .mul .int (Uu a) (Uu c)=some (Uu (a*c)):=by have h1:D.bin .mul .int (Uu a) (Uu c)=some (Uu (IntKind.u64.wrap (a*c))):=rfl;rw[h1,RX h]
theorem Kj {env:List D}{x:E}{d:Nat}(hx:x.eval env=some (U8 d))(hd:d<256):(E.conv .u64 x).eval env=some (Uu d):=by have:IntKind.u64.wrap (d:Int)=d:=RX (by omega);simp only[E.eval,hx,A0d,D.conv,this]
def wv (es:List Nat)(i:Nat):Nat:=(es.take i).foldl (fun a d=>a*16+d) 0
theorem NL {es:List Nat}{i:Nat}(hi:i<es.length):wv es (i+1)=wv es i*16+es[i]:=by unfold wv;rw[A0O hi,B0z];rfl
theorem Zh {es:List Nat}(h:∀d,d∈es→d<16):∀i,i≤es.length→wv es i<16 ^ i
 | 0,_=>by simp[wv]
 | i+1,hi=>by have:=Zh h i (by omega);have hd:=h _ (A0T (show i<es.length by omega));rw[NL (by omega),D0g];omega
abbrev agh:D:=.v .nilIface
theorem aqN (n:Nat):∃m:Nat,aQ Tryz.prog 118 (.st bs) [St (K_ n),I 16,I 64] (.a_ [Uu m,agh]):=by
 obtain⟨es,h1,h2,h3⟩:=VD 16 n;refine⟨wv es 16,?_⟩;have hb:D.m4 .jO (St (K_ n)) (.agg []) (.agg []) (.agg [])=some (.bk (es.map fun d=>Rg (Nc d))):=by
  have hz:(K_ n).size≤maxLen:=by
   have:(K_ n).size=16:=by simp[K_,ByteArray.size,h1,h2]
   rw[this];decide
  have hbd:fH (K_ n)=es.map fun d=>Rg (Nc d):=by simp only[fH,K_,h1,E0A];rfl
  simp only[D.m4,D.jO,A0z hz,hbd]
 have bQ:((K_ n).toList==(⟨#[]⟩:ByteArray).toList)=false:=by
  rw[B0N,B0N];cases es with
  | nil=>cases h2
  | cons d r=>simp[K_,h1]
 refine ag6.R rfl rfl ?_;unfold afd;simp only[aB,aI,A0i,A0j]
 repeat' (first|(apply dX;simp only[au];rfl)|(apply bf;rfl;exact bQ)|(apply kT;rfl;rfl;rfl;rfl;exact hb;simp only[au];rfl)|(apply cM;rfl;exact bR;simp only[au];rfl)|(apply aU;rfl;simp only[au];rfl)|(apply iP;rfl)|(apply fp;rfl)|refine aO ?_|(apply aL;rfl;rfl)|refine aC ?_|refine kj rfl ?_|(apply eN;rfl;all_goals (intro hz;(try simp only[gq] at hz);first|(exact absurd hz (by decide))|(exfalso;omega)|skip))|exact aH rfl rfl|(intro hz;(try simp only[gq] at hz)))
 refine ew (fun i=>[B false,Uu (wv es i),In i]) (fun _=>True) es.length rfl (fun _=>rfl) trivial (fun i hi hJ R hR=>?_) (fun hJ R=>?_)
 ·have gA:decide ((i:Int)<(es.length:Int))=true:=by simp;omega
  have qE:=c_ (xs:=es) (enc:=fun d=>Rg (Nc d)) (sz:=1) hi rfl;have hd:=h3 _ (A0T hi);have hw:=Zh h3 i (by omega);have anC:wv es i<1152921504606846976:=A0v hw (A0J (Nat.pow_le_pow_right (by omega) (show i≤15 by omega)) (by decide));rw[NL hi] at hR;generalize es[i]=d at qE hd hR;generalize wv es i=w at anC hR ⊢;have RK:((w*16+d:Nat):Int)=(w:Int)*16+(d:Int):=by omega
  have k1:decide ((d:Int)≥16)=false:=B0V (by omega);have k2:decide ((w:Int)≥1152921504606846976)=false:=B0V (by omega);have k3:(decide ((w:Int)*16+(d:Int)<(w:Int)*16)||decide ((w:Int)*16+(d:Int) > 18446744073709551615))=false:=by rw[B0V (by omega),B0V (by omega)];rfl
  have m1:=amA (a:=w) (c:=16) (by omega);have m2:=aqY (a:=(w:Int)*16) (c:=d) (by omega);rw[RK] at hR
  by_cases su:d<10
  ·have acC:D.ax 1 (.bk (es.map fun d=>Rg (Nc d))) (In i)=some (.ptr [U8 (48+d)]):=by rw[←ado su];exact qE
   have q1:((48+(d:Int))==95)=false:=by simp;omega
   have q2:(decide ((48:Int)≤48+d)&&decide ((48+(d:Int))≤57))=true:=by rw[C0T (by omega),C0T (by omega)];rfl
   have s1:=afl (a:=48+d) (c:=48) (m:=d) (by omega) (by omega)
   repeat' (first|(apply dX;simp only[au];rfl)|(apply bF;rfl;(·first|exact gA|exact q2))|(apply bf;rfl;(·first|exact k1|exact k2|exact k3|(simp[vk,q1])))|(apply bH;rfl;rfl;exact acC;simp only[au];rfl)|(apply jl;rfl;rfl;(·first|exact s1|exact m1|exact m2);simp only[au];rfl)|(apply eo;rfl;omega;simp only[au];rfl)|(apply aU;(·exact Kj rfl (by omega));simp only[au];rfl)|(apply NO;rfl;rfl;rfl;(·simp only[au,C0A,List.zipWith_nil_left,vk];rfl))|(apply aU;rfl;simp only[au];rfl)|(apply iP;rfl)|(apply fp;rfl)|refine aO ?_|(apply aL;rfl;rfl)|refine aC ?_|refine kj rfl ?_|exact aH rfl rfl|(intro hz;(try simp only[gq] at hz)))
   exact hR trivial
  ·have acC:D.ax 1 (.bk (es.map fun d=>Rg (Nc d))) (In i)=some (.ptr [U8 (87+d)]):=by rw[←adp (by omega) hd];exact qE
   have q1:((87+(d:Int))==95)=false:=by simp;omega
   have q2:(decide ((48:Int)≤87+d)&&decide ((87+(d:Int))≤57))=false:=by rw[B0V (show¬(87+(d:Int))≤57 by omega),E0F]
   have q3:(decide ((97:Int)≤87+d)&&decide ((87+(d:Int))≤122))=true:=by rw[C0T (by omega),C0T (by omega)];rfl
   have s1:=afl (a:=87+d) (c:=97) (m:=d-10) (by omega) (by omega);have s2:=aq1 (a:=(d:Int)-10) (c:=10) (m:=d) (by omega) (by omega);have ao0:=aqt (bs:=bs) (d:=d) (by omega) hd
   repeat' (first|(apply dX;simp only[au];rfl)|(apply bF;rfl;(·first|exact gA|exact q3))|(apply bf;rfl;(·first|exact q2|exact k1|exact k2|exact k3))|(apply bH;rfl;rfl;exact acC;simp only[au];rfl)|(apply jl;rfl;rfl;(·first|exact s1|exact s2|exact m1|exact m2);simp only[au];rfl)|(apply eo;rfl;omega;simp only[au];rfl)|(apply aU;(·exact Kj rfl (by omega));simp only[au];rfl)|(apply NO;rfl;rfl;rfl;(·simp only[au,C0A,List.zipWith_nil_left,vk];rfl))|(apply aU;rfl;simp only[au];rfl)|(apply bC;rfl;rfl;exact ao0;rfl;simp only[au];rfl)|(apply iP;rfl)|(apply fp;rfl)|refine aO ?_|(apply aL;rfl;rfl)|refine aC ?_|refine kj rfl ?_|(apply eN;rfl;all_goals (intro hz;(try simp only[gq] at hz);first|(exact absurd hz (by decide))|(exfalso;omega)|skip))|exact aH rfl rfl|(intro hz;(try simp only[gq] at hz)))
   exact hR trivial
 ·have gA:decide ((es.length:Int)<(es.length:Int))=false:=by simp
  have e16:wv es es.length=wv es 16:=by rw[h2]
  repeat' (first|(apply dX;simp only[au];rfl)|(apply bf;rfl;(·first|exact gA|exact rfl))|(apply aU;rfl;simp only[au];rfl)|(apply fp;rfl)|(apply aL;rfl;rfl)|refine aC ?_|(refine aT (by decide) ?_)|refine kj rfl ?_|(apply aH;rfl;first|exact rfl|(refine eX ?_)|(refine eV ?_)|(refine eW ?_))|(intro hz;(try simp only[gq] at hz)))
  ·rw[e16]
  ·exact false
theorem c60 (n:Nat):∃m:Nat,aQ Tryz.prog 60 (.st bs) [St (K_ n),I 16,I 64] (.a_ [Uu m,agh]):=by
 obtain⟨m,h⟩:=aqN (bs:=bs) n;refine⟨m,?_⟩;refine am4.R rfl rfl ?_;unfold u60;simp only[aB,aI,A0i,A0j]
 repeat' (first|(apply bf;rfl;exact rfl)|(apply aU;rfl;simp only[au];rfl)|(apply bC;rfl;rfl;exact h;rfl;simp only[au];rfl)|exact aH rfl rfl)
end
section
open Go.Proofs
set_option maxRecDepth 100000
def lg (t:Nat):D:=if t=0 then .bS else .sl (14+t) 0 t
end
section
open Go.Proofs Go.Am.Sc
set_option maxRecDepth 100000
set_option maxHeartbeats 4000000
def ec (p:ByteArray×Nat):List D:=[St p.1,St (K_ p.2)]
theorem HE (p:ByteArray×Nat):(ec p).length=2:=rfl
structure Lg (g:List D)(t:Nat)(es:List (ByteArray×Nat)):Prop where
 len:g.length=t
 els:es.length=t
 blk:0<t→g[t-1]? = some (.blk 117 2 (es.flatMap ec))
 ny:aN g=true
section
variable {c s h jB:D} {g:List D} {es:List (ByteArray×Nat)} {t:Nat}
end
end
section
open Go.Proofs Go.Am.Sc
set_option maxRecDepth 100000
set_option maxHeartbeats 4000000
attribute [local irreducible] fK Tw.fK
variable {bs bs':List D} {p:Nat} {T:Int} {cs:List Cr} {ps:List Int} {rs:List Rp} {jB:D} {es:List (ByteArray×Nat)}
theorem AJ.grow (h:AJ bs p T cs ps rs jB)(ho:∀i,i<bs.length→bs'[i]? = bs[i]?)(hn:aN bs'=true):AJ bs' p T cs ps rs jB:=by have h5:=(A0c.1 h.gi.wj).1;obtain⟨cl,e1,e2⟩:=h.ev;obtain⟨m,hm,_⟩:=h.wl.log;have h7:=(A0c.1 hm).1;exact⟨⟨cl,by rw[ho 1 (by omega)];exact e1,e2⟩,h.gi.keep fun i h1 h2=>ho i (by omega),za h.wl (ho 7 h7) (fun i bU hi=>ho i (A0c.1 hi).1) hn⟩
theorem AJ.alP (h:AJ bs p T cs ps rs jB){i:Nat}{x:D}(hi:bs[i]? = some (.blk 25 1 [x])){y:D}(hy:y.bZ=true):AJ (bs.set i (.blk 25 1 [y])) p T cs ps rs jB:=by
 obtain⟨cl,e1,e2⟩:=h.ev;obtain⟨m,hm,hm2⟩:=h.wl.log;have bQ:∀{j:Nat} {z:D},bs[j]? = some z→z≠.blk 25 1 [x]→(bs.set i (.blk 25 1 [y]))[j]? = bs[j]?:=fun {j z} hj hz=>by rw[A0q];intro e;subst e;rw[hi] at hj;exact hz (B0M hj).symm
 refine⟨⟨cl,by rw[bQ e1 (by intro e;injection e with e;cases e)];exact e1,e2⟩,⟨?_,?_,?_,?_,h.gi.FM,h.gi.Sj,h.gi.ZA,h.gi.YV⟩,za h.wl (bQ hm (by intro e;injection e with e;cases e)) (fun k bU hk=>bQ hk (by intro e;cases e)) (e_ _ _ _ h.wl.ny (by simp[D.bZ,aN,hy]))⟩
 ·rw[bQ h.gi.wj (by intro e;injection e with e;cases e)];exact h.gi.wj
 ·rw[bQ h.gi.red (by intro e;injection e with e;cases e)];exact h.gi.red
 ·rw[bQ h.gi.Lc (by intro e;injection e with e;cases e)];exact h.gi.Lc
 ·rw[bQ h.gi.dV (by intro e;injection e with e;cases e)];exact h.gi.dV
theorem YZ {cl:List D}(e1:bs[1]? = some (.blk 90 35 cl))(H_:cl[30]? = some (.loc 5 0)):aQ Tryz.prog 28 (.st bs) [.loc 1 0] (B true):=by
 refine agr.R rfl rfl ?_;unfold u28;simp only[aB,aI,A0i,A0j]
 repeat' (first|(apply dX;simp only[au];rfl)|(apply bG;rfl)|(apply dS;rfl;rfl;exact aW e1 H_;simp only[au];rfl)|(apply aU;rfl;simp only[au];rfl)|(apply fp;rfl)|exact aH rfl rfl|(intro hz;(try simp only[gq] at hz)))
theorem aqa (hs:jI bs 117 2 ec jB es)(hb:∃r,bs=b0++r)(hl:es.length<1000){x:ByteArray}(hx:x.size≤maxLen):∃n:Nat,aQ Tryz.prog 32 (.st bs) [jB,St x] (St (K_ n)):=by
 obtain⟨r,hr⟩:=hb;have Hs:=hs.len;rcases hs with⟨he,rfl⟩ | ⟨b,rfl,hblk⟩
 ·obtain⟨n,hn,Ee⟩:=xY 14695981039346656037 x;have O4:=c46 (bs:=bs) (h:=14695981039346656037) hx;rw[hn] at O4;have O3:=c47 (bs:=r) Ee;rw[←hr] at O3;refine⟨n,?_⟩;refine TG.R rfl rfl ?_;unfold u32;simp only[aB,aI,A0i,A0j]
  repeat' (first|(apply dX;simp only[au];rfl)|(apply bf;rfl;exact rfl)|(apply aU;rfl;simp only[au];rfl)|(apply bC;rfl;rfl;(·first|exact O4|exact O3);rfl;simp only[au];rfl)|refine aO ?_|(apply aL;rfl;rfl)|refine aC ?_|refine kj rfl ?_|exact aH rfl rfl)
 ·by_cases h0:es.length=0
  ·obtain⟨n,hn,Ee⟩:=xY 14695981039346656037 x;have O4:=c46 (bs:=bs) (h:=14695981039346656037) hx;rw[hn] at O4;have O3:=c47 (bs:=r) Ee;rw[←hr] at O3;rw[h0] at Hs ⊢;refine⟨n,?_⟩;refine TG.R rfl rfl ?_;unfold u32;simp only[aB,aI,A0i,A0j]
   repeat' (first|(apply dX;simp only[au];rfl)|(apply bf;rfl;exact rfl)|(apply cM;rfl;exact Hs;simp only[au];rfl)|(apply aU;rfl;simp only[au];rfl)|(apply bC;rfl;rfl;(·first|exact O4|exact O3);rfl;simp only[au];rfl)|refine aO ?_|(apply aL;rfl;rfl)|refine aC ?_|refine kj rfl ?_|exact aH rfl rfl)
  ·obtain⟨m,hm⟩:∃m,es.length=m+1:=⟨es.length-1,by omega⟩;have H6:es[m]? = some (es.getD m default):=by rw[A0k,A0e (by omega)];rfl
   have QA:=mG (k:=1) hblk HE H6 rfl;obtain⟨q,h60⟩:=c60 (bs:=bs) (es.getD m default).2;obtain⟨n,hn,Ee⟩:=xY q x;have O4:=c46 (bs:=bs) (h:=q) hx;rw[hn] at O4;have O3:=c47 (bs:=r) Ee;rw[←hr] at O3;rw[hm] at Hs ⊢;have hbd:-9223372036854775808≤((m+1:Nat):Int)-1∧((m+1:Nat):Int)-1<9223372036854775808:=by omega
   have qE:D.ax 2 (.sl b 0 (m+1)) (I (((m+1:Nat):Int)-1))=some (.loc b (m*2)):=by rw[show((m+1:Nat):Int)-1=(m:Int) by omega];exact fA (Nat.lt_succ_self m)
   have OV:decide (((m+1:Nat):Int) > 0)=true:=C0T (by omega);refine⟨n,?_⟩;refine TG.R rfl rfl ?_;unfold u32;simp only[aB,aI,A0i,A0j]
   repeat' (first|(apply dX;simp only[au];rfl)|(apply bF;rfl;exact OV)|(apply bG;rfl)|(apply dS;rfl;rfl;exact QA;simp only[au];rfl)|(apply bH;rfl;rfl;exact qE;simp only[au];rfl)|(apply cM;rfl;exact Hs;simp only[au];rfl)|(apply fP;rfl;rfl;omega;simp only[au];rfl)|(apply aU;rfl;simp only[au];rfl)|(apply bC;rfl;rfl;(·first|exact h60|exact O4|exact O3);rfl;simp only[au];rfl)|refine aO ?_|(apply aL;rfl;rfl)|refine aC ?_|refine kj rfl ?_|exact aH rfl rfl)
structure Lr (bs:List D)(p:Nat)(T:Int)(cs:List Cr)(rs:List Rp)(m:Nat):Prop where
 ex:∃ps jB es,AJ bs p T cs ps rs jB∧jI bs 117 2 ec jB es∧es.length=m
 b0:∃r,bs=b0++r
theorem Xk (h:∃r,bs=b0++r)(hf:bs'[0]? = bs[0]?):∃r,bs'=b0++r:=by
 obtain⟨r,rfl⟩:=h;cases bs' with
 | nil=>cases hf
 | cons x l=>exact⟨l,by rw[show x :: l=[x]++l from rfl];congr 1;have:=B0M hf;rw[this];rfl⟩
theorem ai9 {x:List UInt8}{oK:List D}{e:Int}(h:AJ bs p T cs ps rs jB)(hs:jI bs 117 2 ec jB es)(hl:es.length<1000)(he:(!(e==0))=true)(QL:bu Tryz.prog 31 (.st bs) [.loc 1 0,sB x] (.ret (I e)) (.st oK)):aZ Tryz.prog 9 (.st bs) [.loc 1 0,sB x] (I e) (.st oK):=by
 obtain⟨cl,e1,e6,e9,H_,WK,VB,el⟩:=h.ev;have f1:decide ((es.length:Int)≥5000)=false:=B0V (by omega);refine ku9.W rfl ?_;unfold u9;simp only[aB,aI,A0i,A0j]
 repeat' (first|(apply bF;rfl;exact he)|(apply bf;rfl;(·first|exact rfl|exact f1))|(apply bG;rfl)|(apply dS;rfl;rfl;exact aW e1 VB;simp only[au];rfl)|(apply cM;rfl;exact hs.len;simp only[au];rfl)|(apply aU;rfl;simp only[au];rfl)|(apply bC;rfl;rfl;exact YZ e1 H_;rfl;simp only[au];rfl)|(apply dZ;rfl;rfl;exact QL;rfl;simp only[au];rfl)|exact aH rfl rfl)
theorem VC {x:List UInt8}{oK:List D}{cl WM:List D}(e1:bs[1]? = some (.blk 90 35 cl))(H_:cl[30]? = some (.loc 5 0))(VB:cl[34]? = some jB)(hs:jI bs 117 2 ec jB es)(f1:oK[1]? = some (.blk 90 35 WM))(f34:WM[34]? = some jB)(fl:WM.length=35)(Bo:jI oK 117 2 ec jB es)(RN:∃r,oK=b0++r)(Ag:aN oK=true)(hl:es.length<1000)(hx:x.length≤300)(QL:bu Tryz.prog 31 (.st bs) [.loc 1 0,sB x] (.ret (I 0)) (.st oK)) :
  ∃(n:Nat) (fN:List D),fN.length=oK.length+1∧(∀{j:Nat} {z:D},oK[j]? = some z→(∀cs:List D,z≠.blk 117 2 cs)→fN[j]? = some z)∧fN[oK.length]? = some (.blk 117 2 ((es++[((⟨⟨x⟩⟩,n):ByteArray×Nat)]).flatMap ec))∧aN (fN.set 1 (.blk 90 35 (WM.set 34 (.sl oK.length 0 (es.length+1)))))=true∧aZ Tryz.prog 9 (.st bs) [.loc 1 0,sB x] (I 0) (.st (fN.set 1 (.blk 90 35 (WM.set 34 (.sl oK.length 0 (es.length+1)))))):=by
 have Hi:(⟨⟨x⟩⟩:ByteArray).size≤maxLen:=by have h1:(⟨⟨x⟩⟩:ByteArray).size=x.length:=rfl;have h2:maxLen=9223372036854775807:=rfl;omega
 obtain⟨n,h32⟩:=aqa Bo RN hl Hi;obtain⟨fN,a1,a2,a3,a4,a5⟩:=Bo.append (bytes:=32) (x:=(⟨⟨x⟩⟩,n)) (y:=.agg (ec (⟨⟨x⟩⟩,n))) HE rfl rfl (by omega) (by simp[maxLen];omega);have C9:∀{j:Nat} {z:D},oK[j]? = some z→(∀cs:List D,z≠.blk 117 2 cs)→fN[j]? = some z:=fun {j z} hj hz=>by rw[a5 j (A0c.1 hj).1 (fun anN=>?_),hj];have:=Bo.blk anN;rw[hj] at this;exact hz _ (B0M this)
 have g1:=C9 f1 (fun _ e=>by injection e with e;cases e);have hst:=gW (k:=34) (d:=D.sl oK.length 0 (es.length+1)) g1 (by omega) rfl;have k1:decide ((es.length:Int)≥5000)=false:=B0V (by omega);have ab8:aN fN=true:=by
  rcases Bo with⟨e1,rfl⟩ | ⟨i,rfl,hi⟩
  ·simp only[D.gM,D.Ic,C0w,B0n] at a1;split at a1
   ·cases a1;rw[bT,Ag];rfl
   ·cases a1
  ·simp only[D.gM,D.Ic,C0w,B0n] at a1;simp only[D.eG,hi,A0d] at a1;split at a1
   ·cases a1;have nh:=dH Ag hi;rw[bT,e_ oK i (.a_ []) Ag rfl];simp only[D.bZ] at nh;simp[aN,D.bZ,bT,nh,cH,D.cells,ec]
   ·split at a1
    ·cases a1;have nh:=dH Ag hi;rw[bT,e_ oK i (.a_ []) Ag rfl];simp only[D.bZ] at nh;simp[aN,D.bZ,bT,q7 _ _ nh,cH,D.cells,ec]
    ·cases a1
 refine⟨n,fN,a4,fun {j z}=>C9,a3,?_,?_⟩
 ·refine e_ _ _ _ ab8 ?_;have dU:=dH Ag f1;simp only[D.bZ] at dU ⊢;exact e_ _ _ _ dU rfl
 ·refine ku9.W rfl ?_;unfold u9;simp only[aB,aI,A0i,A0j]
  repeat' (first|(apply bf;rfl;(·first|exact rfl|exact k1))|(apply bG;rfl)|(apply BF;rfl;rfl;rfl;rfl;rfl;exact a2;exact hst;simp only[au];rfl)|(apply dS;rfl;rfl;(·first|exact aW e1 VB|exact aW f1 f34);simp only[au];rfl)|(apply cM;rfl;exact hs.len;simp only[au];rfl)|(apply yC;rfl;rfl;rfl;exact a1;simp only[au];rfl)|(apply aU;rfl;simp only[au];rfl)|(apply bC;rfl;rfl;(·first|exact YZ e1 H_|exact h32);rfl;simp only[au];rfl)|(apply dZ;rfl;rfl;exact QL;rfl;simp only[au];rfl)|exact aH rfl rfl)
theorem aaC {x:List UInt8}{oK:List D}{vR:List Cr}{ps':List Int}{yS:List Rp}(h:AJ bs p T cs ps rs jB)(hs:jI bs 117 2 ec jB es)(hb:∃r,bs=b0++r)(hl:es.length<1000)(hx:x.length≤300)(QL:bu Tryz.prog 31 (.st bs) [.loc 1 0,sB x] (.ret (I 0)) (.st oK))(h3:AJ oK p T vR ps' yS jB)(hF:Ie bs oK) :
  ∃bs',aZ Tryz.prog 9 (.st bs) [.loc 1 0,sB x] (I 0) (.st bs')∧Lr bs' p T vR yS (es.length+1):=by
 obtain⟨cl,e1,e6,e9,H_,WK,VB,el⟩:=h.ev;obtain⟨WM,f1,f6,f9,f30,f31,f34,fl⟩:=h3.ev;have h5:=(A0c.1 h.gi.wj).1;have RN:=Xk hb (hF.old 0 (by omega) (by omega) (by omega) (by omega));have Bo:jI oK 117 2 ec jB es:=hs.keep fun i hi=>by
  have EF:=hs.blk hi;obtain⟨m,hm,_⟩:=h.wl.log;refine hF.old i (A0c.1 EF).1 (fun e=>?_) (fun e=>?_) fun e=>?_
  ·subst e;rw[h.gi.Lc] at EF;injection EF with EF;injection EF with EF;cases EF
  ·subst e;rw[h.gi.dV] at EF;injection EF with EF;injection EF with EF;cases EF
  ·subst e;rw[hm] at EF;injection EF with EF;injection EF with EF;cases EF
 obtain⟨n,fN,a4,C9,a3,an2,hW⟩:=VC e1 H_ VB hs f1 f34 fl Bo RN h3.wl.ny hl hx QL;obtain⟨m,hm,hm2⟩:=h3.wl.log;have h35:=(A0c.1 h3.gi.wj).1;have g1:=C9 f1 (fun _ e=>by injection e with e;cases e);have gT:∀{j:Nat} {z:D},fN[j]? = some z→j≠1→(fN.set 1 (.blk 90 35 (WM.set 34 (.sl oK.length 0 (es.length+1)))))[j]? = some z:=fun {j z} hj h1=>by rw[A0q (B0O h1)];exact hj
 refine⟨fN.set 1 (.blk 90 35 (WM.set 34 (.sl oK.length 0 (es.length+1)))),hW,⟨ps',.sl oK.length 0 (es.length+1),es++[(⟨⟨x⟩⟩,n)],⟨⟨WM.set 34 (.sl oK.length 0 (es.length+1)),?_,?_,?_,?_,?_,?_,by simp[fl]⟩,⟨?_,?_,?_,?_,h3.gi.FM,h3.gi.Sj,h3.gi.ZA,h3.gi.YV⟩,?_⟩,.inr ⟨oK.length,by simp,?_⟩,by simp⟩,?_⟩
 ·rw[A0M (A0c.1 g1).1]
 ·rw[A0q (by omega)];exact f6
 ·rw[A0q (by omega)];exact f9
 ·rw[A0q (by omega)];exact f30
 ·rw[A0q (by omega)];exact f31
 ·rw[A0M (by omega)]
 ·exact gT (C9 h3.gi.wj (fun _ e=>by injection e with e;cases e)) (by omega)
 ·exact gT (C9 h3.gi.red (fun _ e=>by injection e with e;cases e)) (by omega)
 ·exact gT (C9 h3.gi.Lc (fun _ e=>by injection e with e;cases e)) (by omega)
 ·exact gT (C9 h3.gi.dV (fun _ e=>by injection e with e;cases e)) (by omega)
 ·refine za h3.wl ?_ (fun i bU hi=>?_) an2
  ·rw[gT (C9 hm (fun _ e=>by injection e with e;cases e)) (by omega),hm]
  ·rw[gT (C9 hi (fun _ e=>by cases e)) (fun e=>by subst e;rw[f1] at hi;cases hi),hi]
 ·rw[A0q (by omega)];exact a3
 ·refine Xk RN ?_;have U_:oK[0]? = some (oK[0]'(by omega)):=A0e (by omega);obtain⟨r,hr⟩:=RN;rw[A0q (by omega),C9 U_ (fun _ e=>?_),U_];have:oK[0]? = b0[0]?:=by rw[hr];rfl
  rw[U_,e] at this;cases this
end
section
open Go.Proofs Go.Am.Sc
set_option maxRecDepth 100000
set_option maxHeartbeats 4000000
attribute [local irreducible] fK Tw.fK
variable {bs bs':List D} {p:Nat} {T:Int} {cs:List Cr} {rs:List Rp} {m:Nat}
theorem abB (a:List UInt8){b:List UInt8}{r:List (List UInt8)}:jw ((a++32 :: b) :: r)=a++32 :: jw (b :: r):=by
 cases r with
 | nil=>rfl
 | cons c r=>simp[jw]
theorem GV:∀(ns:List Nat) (w:List UInt8),Ed w ns=jw (w :: ns.map dd)
 | [],w=>rfl
 | n :: ns,w=>by have e:Ed w (n :: ns)=Ed (w++(32 :: dd n)) ns:=rfl;rw[e,GV ns,abB,B0p];rfl
theorem ajb (n:Nat):dd n≠[]∧(32:UInt8)∉dd n:=by
 refine⟨fun e=>?_,fun h=>?_⟩
 ·by_cases h:n<10
  ·rw[Au h] at e;cases e
  ·rw[FN h] at e;simp at e
 ·obtain⟨d,hd,e⟩:=VO n n (A0m _) _ h;have:=Pe hd;rw[←e] at this;have h32:(32:UInt8).toNat=32:=rfl;omega
theorem R1 {w:List UInt8}{ns:List Nat}(hw:w≠[]∧(32:UInt8)∉w)(hl:w.length≤10)(jP:ns.length≤6)(hn:∀n∈ns,n<1000000000000):Wds (w :: ns.map dd):=by
 refine⟨by simp,fun x hx=>?_,?_⟩
 ·rcases A0E.1 hx with rfl | hx
  ·exact hw
  ·obtain⟨n,_,rfl⟩:=A0F.1 hx;exact ajb n
 ·rw[←GV];have:=xb (w:=w) hn;omega
theorem RV {st:List D}{b:Nat}{w:List UInt8}{ns:List Nat}(hb:st[b]? = some (.blk 9 1 ((w :: ns.map dd).flatMap wc))):Wrd st b 1 ns:=by
 intro i hi X;have fI:(st++X)[b]? = some (.blk 9 1 ((w :: ns.map dd).flatMap wc)):=by rw[A0g (A0c.1 hb).1];exact hb
 have hx:(w :: ns.map dd)[i+1]? = some (dd ns[i]):=by simp[hi]
 have:=mG (k:=0) fI F_ hx rfl;rw[show 1+i*1=(i+1)*1+0 by omega];exact this
theorem Xq (h:Lr bs p T cs rs m){k Tn:Nat}(hT:T=Tn)(hk:k<cs.length)(hm:m<1000) :
  ∃bs' e,aZ Tryz.prog 9 (.st bs) [.loc 1 0,sB (Ed pO [k+1,Tn])] (I e) (.st bs')∧((mw p cs k 8=[]∧e=0∧Lr bs' p T (H9 cs k) rs (m+1))∨(mw p cs k 8≠[]∧e=7∧Lr bs' p T cs rs m)):=by
 obtain⟨⟨ps,jB,es,hE,hs,oe⟩,hb⟩:=h;have hd:=hE.gi.FM;have ht:=hE.gi.Sj;have jP:∀n∈[k+1,Tn],n<1000000000000:=by simp;omega
 have hw:=R1 (w:=pO) (ns:=[k+1,Tn]) ⟨by decide,by decide⟩ (by decide) (by show 2≤6;decide) jP;have Hs:=xb (w:=pO) jP;have hl3:(Ed pO [k+1,Tn]).length≤100:=A0J Hs (by show 5+13*2≤100;decide);rw[GV] at hl3 ⊢;obtain⟨st,b,hA,h1,h2⟩:=c31 (w:=pO) hE.wl.ny hw (by show 3≤20;decide) (by show 2≤3;decide) (by omega) rfl R8 (by kernel_rfl);have hEs:=hE.grow hA.old hA.ny;have Yz:=aqP hEs hT hk (vb:=pO) (RV (w:=pO) hA.blk);have hF1:Ie bs st:=⟨hA.le,fun i hi _ _ _=>hA.old i hi⟩;have RH:=(A0c.1 hE.gi.wj).1;have acx:(st++qN [k+1,Tn])[bs.length]? = some (.blk 25 1 [I 0]):=by rw[A0g (A0c.1 hA.err).1];exact hA.err
 by_cases ho:mw p cs k 8=[]
 ·rw[A0z ho,A0z ho] at Yz;obtain⟨g1,g2⟩:=aaX hEs hk (p6 [k+1,Tn]);have US:(mN (st++qN [k+1,Tn]) T (H9 cs k))[bs.length]? = some (.blk 25 1 [I 0]):=by rw[mN,A0q (by omega)];exact acx
  have QL:=h1 _ Yz US;obtain⟨bs',d1,d2⟩:=aaC hE hs hb (by omega) (by omega) QL g1 (hF1.trans g2);exact⟨bs',0,d1,.inl ⟨ho,rfl,by rw[←oe];exact d2⟩⟩
 ·rw[A0B ho,A0B ho] at Yz;have QL:=h2 _ 7 Yz acx;have d1:=ai9 hE hs (by omega) (by decide) QL;have g1:=(hEs.app (p6 [k+1,Tn])).alP acx (y:=I 7) rfl;refine⟨_,7,d1,.inr ⟨ho,rfl,⟨ps,jB,es,g1,?_,oe⟩,?_⟩⟩
  ·refine hs.keep fun i hi=>?_;have EF:=(A0c.1 (hs.blk hi)).1;rw[A0q (by omega),A0g (by have:=hA.le;omega)];exact hA.old i EF
  ·refine Xk hb ?_;rw[A0q (by omega),A0g (by have:=hA.le;omega)];exact hA.old 0 (by omega)
theorem abh (h:Lr bs p T cs rs m){num k q tm ar:Nat}(hk:k<cs.length)(hq:q<p)(hst:(cs.getD k default).st=true)(hn:num≤1000)(ht:tm≤3000000)(ha:ar≤2000000)(hr:rs.length<100)(hm:m<1000) :
  ∃bs',aZ Tryz.prog 9 (.st bs) [.loc 1 0,sB (Ed o6 [0,num,k+1,q,tm,ar])] (I 0) (.st bs')∧Lr bs' p T (zY cs k q) (rs++[Rv num k q tm ar]) (m+1):=by
 obtain⟨⟨ps,jB,es,hE,hs,oe⟩,hb⟩:=h;have hd:=hE.gi.FM;have jP:∀n∈[0,num,k+1,q,tm,ar],n<1000000000000:=by simp;omega
 have hw:=R1 (w:=o6) (ns:=[0,num,k+1,q,tm,ar]) ⟨by decide,by decide⟩ (by decide) (by show 6≤6;decide) jP;have Hs:=xb (w:=o6) jP;have hl3:(Ed o6 [0,num,k+1,q,tm,ar]).length≤100:=A0J Hs (by show 4+13*6≤100;decide);rw[GV] at hl3 ⊢;obtain⟨st,b,hA,h1,_⟩:=c31 (w:=o6) hE.wl.ny hw (by show 7≤20;decide) (by show 2≤7;decide) (by omega) rfl WQ (by kernel_rfl);have hEs:=hE.grow hA.old hA.ny;obtain⟨oK,ale,g1,g2⟩:=aqO hEs hk hq hst hn ht ha hr (RV (w:=o6) hA.blk);have hF1:Ie bs st:=⟨hA.le,fun i hi _ _ _=>hA.old i hi⟩;have RH:=(A0c.1 hE.gi.wj).1;obtain⟨m0,hm0,_⟩:=hE.wl.log;have h7:=(A0c.1 hm0).1;have US:oK[bs.length]? = some (.blk 25 1 [I 0]):=by rw[g2.old bs.length (A0c.1 hA.err).1 (by omega) (by omega) (by omega)];exact hA.err
 have QL:=h1 _ ale US;obtain⟨bs',d1,d2⟩:=aaC hE hs hb (by omega) (by omega) QL g1 (hF1.trans g2);exact⟨bs',d1,by rw[←oe];exact d2⟩
end
section
open Go.Proofs Go.Am.Sc
set_option maxRecDepth 100000
set_option maxHeartbeats 4000000
attribute [local irreducible] fK Tw.fK
variable {bs bs':List D} {p:Nat} {T:Int} {cs:List Cr} {rs:List Rp} {m:Nat}
theorem afT (h:Lr bs p T cs rs m){k:Nat}(hk:k<cs.length):aQ Tryz.prog 11 (.st bs) [.loc 1 0,I ((k:Int)+1),I T] (.a_ [Is (mw p cs k 8),I 0]):=by
 obtain⟨⟨ps,jB,es,hE,hs,oe⟩,hb⟩:=h;obtain⟨cl,e1,e6,e9,H_,WK,VB,el⟩:=hE.ev;have hd:=hE.gi.FM;have hi:fK ((k:Int)+1) 1 (cs.length:Int)=true:=by unfold fK;simp;omega
 have h34:=c34 (bs:=bs) ((k:Int)+1) 1 cs.length;rw[hi] at h34;have h35:=c35 hE.gi hk;have e0:(k:Int)=(k:Int)+1-1:=by omega
 have aoY:aQ Tryz.prog 35 (.st bs) [.loc 5 0,I ((k:Int)+1-1),I T] (.a_ [Is (mw p cs k 8),I 0]):=by rw[←e0];exact h35
 refine ang.R rfl rfl ?_;unfold u11;simp only[aB,aI,A0i,A0j]
 repeat' (first|(apply dX;simp only[au];rfl)|(apply bf;rfl;exact rfl)|(apply bG;rfl)|(apply dS;rfl;rfl;(·first|exact aW e1 e6|exact aW e1 H_);simp only[au];rfl)|(apply fP;rfl;rfl;omega;simp only[au];rfl)|(apply aU;rfl;simp only[au];rfl)|(apply bC;rfl;rfl;(·first|exact YZ e1 H_|exact h34|exact aoY);rfl;simp only[au];rfl)|refine aO ?_|(apply aL;rfl;rfl)|refine aC ?_|refine kj rfl ?_|exact aH rfl rfl)
theorem al3 (h:Lr bs p T cs rs m){t:Int}(ht:Tw.fK t 0 1000000000000=true)(hp:2≤p) :
  ∃bs',aZ Tryz.prog 10 (.st bs) [.loc 1 0,I 0,I ((p:Int)-1),I t] (.a_ [Is (Tw.P6 (tv cs.length p) vi p (Tw.ef rs) t 0 ((p:Int)-1) (tv cs.length p).iV.toNat),I 0]) (.st bs')∧Lr bs' p T cs rs m:=by
 obtain⟨⟨ps,jB,es,hE,hs,oe⟩,hb⟩:=h;obtain⟨cl,e1,e6,e9,H_,WK,VB,el⟩:=hE.ev;obtain⟨bs',h33,hg⟩:=Tw.c33 hE.wl (from_:=0) (to:=(p:Int)-1) ht (by omega);refine⟨bs',?_,⟨ps,jB,es,hE.grow hg.old ?_,?_,oe⟩,?_⟩
 ·refine anh.W rfl ?_;unfold u10;simp only[aB,aI,A0i,A0j]
  repeat' (first|(apply bG;rfl)|(apply dS;rfl;rfl;exact aW e1 WK;simp only[au];rfl)|(apply aU;rfl;simp only[au];rfl)|(apply bC;rfl;rfl;exact YZ e1 H_;rfl;simp only[au];rfl)|(apply dZ;rfl;rfl;exact h33;rfl;simp only[au];rfl)|(apply eN;rfl;all_goals (intro hz;(try simp only[gq] at hz);first|(exact absurd hz (by decide))|(exfalso;omega)|skip))|exact aH rfl rfl)
 ·exact hg.ny hE.wl.ny
 ·exact hs.keep fun i hi=>hg.old i (A0c.1 (hs.blk hi)).1
 ·exact Xk hb (hg.old 0 (by have:=(A0c.1 hE.gi.wj).1;omega))
end
section
open Go.Proofs
set_option maxRecDepth 100000
noncomputable def aas:List Spec:=[Sr 7 Tryz.f7 false true [] [13] []]
theorem ada:pK Tryz.prog aas:=⟨Tryz.func7,trivial⟩
noncomputable def Kh:List Spec:=[Sq 41 Tryz.f41 true false,Sr 22 Tryz.f22 false true [24,25] [] [],Sq 23 Tryz.f23 true false,Sq 97 Tryz.f97 true false,Sq 48 Tryz.f48 true false,Sq 43 Tryz.f43 true false,Sq 49 Tryz.f49 true false,Sq 50 Tryz.f50 true false,Sq 51 Tryz.f51 true false,Sq 53 Tryz.f53 true false,Sq 54 Tryz.f54 true false,Sq 55 Tryz.f55 true false,Sq 56 Tryz.f56 true false,Sq 93 Tryz.f93 true false,Sq 94 Tryz.f94 true false,Sq 96 Tryz.f96 true false,Sq 85 Tryz.f85 true false,Sq 98 Tryz.f98 true false,Sq 99 Tryz.f99 true false,Sq 100 Tryz.f100 true false,Sq 153 Tryz.f153 true false,Sq 142 Tryz.f142 true false,Sq 154 Tryz.f154 true false,⟨25,Tryz.f25,{ (aq false ([]++ct) cu [19] [] Tryz.f25) with aS:=true,cn:=true,XK:=[53] },false,.plain,false⟩,Sr 26 Tryz.f26 false false [] [16] [],Sq 52 Tryz.f52 true false,Sr 24 Tryz.f24 false false [] [] [(4,1000045),(4,1000048),(4,1000051),(4,1000053)],Sr 6 Tryz.f6 false false [24,25,26] [17] [(17,1000086),(17,1000088)]]
theorem adb:pK Tryz.prog Kh:=⟨Tryz.func41,Tryz.func22,Tryz.func23,Tryz.func97,Tryz.func48,Tryz.func43,Tryz.func49,Tryz.func50,Tryz.func51,Tryz.func53,Tryz.func54,Tryz.func55,Tryz.func56,Tryz.func93,Tryz.func94,Tryz.func96,Tryz.func85,Tryz.func98,Tryz.func99,Tryz.func100,Tryz.func153,Tryz.func142,Tryz.func154,Tryz.func25,Tryz.func26,Tryz.func52,Tryz.func24,Tryz.func6,trivial⟩
noncomputable def Ki:List Spec:=[Sq 66 Tryz.f66 true false,Sq 41 Tryz.f41 true false,Sr 58 Tryz.f58 false false [] [1] [],Sq 102 Tryz.f102 true false,Sq 155 Tryz.f155 true false,Sr 156 Tryz.f156 false false [197] [] [],Sq 157 Tryz.f157 true false,Sq 196 Tryz.f196 true false,Sq 197 Tryz.f197 false false,Sq 198 Tryz.f198 true false,Sq 227 Tryz.f227 true false,Sq 59 Tryz.f59 false false,Sr 101 Tryz.f101 false false [1000014] [] [],Sr 103 Tryz.f103 false false [156] [] [],Sr 158 Tryz.f158 false false [1000053,1000071,1000089] [] [],Sq 199 Tryz.f199 false false,Sq 200 Tryz.f200 false false,⟨31,Tryz.f31,{ (aq false ([58]++ct) cu [] [] Tryz.f31) with aS:=true,cn:=true },false,(.defers [4]),false⟩,⟨57,Tryz.f57,{ (aq false ([]++ct) cu [] [] Tryz.f57) with aS:=true,cn:=true },false,.gK,false⟩]
theorem ade:pK Tryz.prog Ki:=⟨Tryz.func66,Tryz.func41,Tryz.func58,Tryz.func102,Tryz.func155,Tryz.func156,Tryz.func157,Tryz.func196,Tryz.func197,Tryz.func198,Tryz.func227,Tryz.func59,Tryz.func101,Tryz.func103,Tryz.func158,Tryz.func199,Tryz.func200,Tryz.func31,Tryz.func57,trivial⟩
def plS (c p:Nat):List D:=[i p,i 100000,i p,i 0,i 100000,i c,i c,i p,.bk (List.replicate (p-1) (i 0)),.bk [.agg [i 1,i 0],.agg [i 3,i 0]],.bk [.agg [i 2,i 0,i 0,b false]],i 1,i 0,i 0,i 0,i 0,.bk [i 0],b false,i 0,i 1,i 100,i 0,.bk [i 10,i 8,i 6,i 5,i 4,i 3],.bk [i 2,i 1],i c,.bk [.agg [i 1,i 0,i 0,i 36000000]],i 30,i 60,i 0,i 0]
def plD (c p:Nat):D:=.agg (plS c p)
def Mk:Nat→List UInt8
 | 0=>[111,112,101,110,32,48]
 | 1=>[99,111,118,101,114,101,100,32,48]
 | t+2=>[112,111,115,116,32,48+UInt8.ofNat t,32,48]
def r9 (c t:Nat):D:=if t=0 then .bS else .sl (8+3*c+t) 0 t
def cdS:Nat→List D
 | 0=>[]
 | 1=>[.blk 1000000000 1 [i 0],.blk 1000000000 4 [i 0,i 0,b false,i 2]]
 | n+1=>.blk 1000000000 1 [i 0] :: .blk 1000000000 4 [i 0,i 0,b false,i 2] :: .a_ [] :: cdS n
def Sc (c p t:Nat)(lg:D):List D:=b0++[.blk 90 35 (plS c p++[.loc 5 0,.loc 7 0,.loc 8 0,.sl (8+3*c) 0 c,lg]),
 .blk 1000000000 3 ((List.replicate p [b false,i 0,b false]).flatten),
 .blk 1000000000 3 ((List.range p).flatMap fun j=>[b (Nat.blt (j+2) t),i 0,b (Nat.blt (j+2) t)]),
 .blk 1000000000 5 ((List.replicate c [b false,i 0,i (-1),b false,b false]).flatten),
 .blk 1000000000 15 [i p,i 100000,i p,i 0,i 100000,i c,b (Nat.blt 0 t),i 0,b (Nat.blt 0 t),b (Nat.blt 1 t),i 0,b (Nat.blt 1 t),.sl 2 0 p,.sl 3 0 p,.sl 4 0 c],
 .cg [],.blk 150 5 [i c,i p,.bk (List.replicate (p-1) (i 0)),.bk [.agg [i 1,i 0],.agg [i 3,i 0]],.mp 6],
 .blk 154 9 [i c,.bk [.agg [i 1,i 0,i 0,i 36000000]],i 30,i 60,i 0,i 0,b true,.bS,.bS]]++cdS c++[.blk 102 3 ((List.range c).flatMap fun k=>[i 0,.sl (9+3*k) 0 1,.sl (10+3*k) 0 1])]
noncomputable def ckP (tt:vY)(c p:Nat):Bool:=(Out.ret (plD c p)).gL&&Xt (plD c p) ((kV Tryz.prog tt 200 b0 (rN b0 []) 40).R 7 (.st b0) [i c,i p])
noncomputable def ckO (tt:vY)(c p:Nat):Bool:=Out.G9 (.a_ [.loc 1 0,i 0]) (Sc c p 0 .bS) ((kV Tryz.prog tt 200 b0 (rN b0 []) 40).W 6 (.st b0) [plD c p])
noncomputable def ckS (tt:vY)(c p t:Nat):Bool:=okU ((Sc c p t (r9 c t)).length+t) (Sc c p (t+1) (r9 c t)) (i 0) ((kV Tryz.prog tt 200 b0 (rN b0 []) 40).W 31 (.st (Sc c p t (r9 c t)++dead t)) [.loc 1 0,.v (.string ⟨⟨Mk t⟩⟩)])
theorem adw {tt:vY}(ht:∀e,e∈tt→ay Tryz.prog e){c p:Nat}(h:ckP tt c p=true)(g:List D):aQ Tryz.prog 7 (.st (b0++g)) [i c,i p] (plD c p):=by simp only[ckP,A0f] at h;have h1:aQ Tryz.prog 7 (.st (b0++[])) [i c,i p] (plD c p):=zU (g:=[]) (n:=200) (m:=40) (b0:=b0) (iR (b0:=b0) (l:=[]) trivial) ht h.2;exact eS.ofA FX (b0:=b0) (by simpa using h1) rfl h.1 g
theorem adx {tt:vY}(ht:∀e,e∈tt→ay Tryz.prog e){c p:Nat}(h:ckO tt c p=true):bu Tryz.prog 6 (.st b0) [plD c p] (.ret (.a_ [.loc 1 0,i 0])) (.st (Sc c p 0 .bS)):=Ii (b0:=b0) (iR (b0:=b0) (l:=[]) trivial) ⟨6,b0,[plD c p],.a_ [.loc 1 0,i 0],Sc c p 0 .bS⟩ 200 40 ht h
theorem adv {tt:vY}(ht:∀e,e∈tt→ay Tryz.prog e){c p t:Nat}(h:ckS tt c p t=true){g:List D}(hg:g.length=t):bu Tryz.prog 31 (.st (Sc c p t (r9 c t)++g)) [.loc 1 0,.v (.string ⟨⟨Mk t⟩⟩)] (.ret (i 0)) (.st (Sc c p (t+1) (r9 c t)++g)):=by subst hg;exact zK (n:=200) (m:=40) (b0:=b0) (iR (b0:=b0) (l:=[]) trivial) ht rfl h
theorem apP:lG Tryz.prog (fun tt=>[2,3,4,5].all fun c=>[2,3,4].all (ckP tt c)) aas []=true:=by kernel_rfl
end
end Go.Am.To
