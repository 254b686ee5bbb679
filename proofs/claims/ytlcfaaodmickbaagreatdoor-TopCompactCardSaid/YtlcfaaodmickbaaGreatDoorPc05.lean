/- Part 5 of the proof: texts merged and shortened by a program. No conditions. -/
import Derived.Test.YtlcfaaodmickbaaGreatDoorPc04
set_option linter.unusedSimpArgs false
set_option linter.unusedVariables false
set_option maxRecDepth 100000
set_option maxHeartbeats 8000000
namespace Go.Proofs.YtlcfaaodmickbaaGreatDoor
open Go.RowKit Go.Proofs.Tryz
section
theorem EH:(prog.info? 39).map (fun i=>(i.zero,i.size,i.bytes))=some (some (.slice none 0 0),1,24):=kr
theorem Ps.vals{w:World}{ad:Option Addr}{n c:Nat}{L:List (List UInt8)}(h:Ps w ad n c L)(h0:0 < n):
  ∃ (b o:Nat) (xs:List Value),ad=some ⟨b,o,none⟩∧xs.length=n∧(∀ (j:Nat) (u:Value),xs[j]? = some u→w.cell? ((⟨b,o,none⟩ : Addr).add j)=some u)∧(∀ u ∈ xs,u.oneCell'=true)∧∀ i,i < n→∃ ai ni ci,xs[i]? = some (.slice ai ni ci)∧Bs w ai ni ci (L.getD i []):=by
 obtain⟨b,o,_,_,_,e,_,_⟩:=h.at 0 h0;refine⟨b,o,(List.range n).map fun j=>(w.cell? ⟨b,o+j,none⟩).getD undef,e,sm,?_,?_,?_⟩
 ·intro j u hj;simp only[List.getElem?_map,Option.map_eq_some_iff] at hj;obtain⟨k,hk,rfl⟩:=hj;obtain⟨hk1,rfl⟩ : j < n∧j=k:=by
   rcases Nat.lt_or_ge j n with h1 | h1
   ·rw[List.getElem?_range h1] at hk;cases hk;exact⟨h1,rfl⟩
   ·rw[List.getElem?_eq_none (by simpa using h1)] at hk;cases hk
  obtain⟨b',o',ai,ni,ci,e',hc,_⟩:=h.at j hk1;rw[e] at e';cases e';rw[hc]
  by_cases hj0:j=0
  ·subst hj0;simpa [Addr.add] using hc
  ·simpa [Addr.add,hj0] using hc
 ·intro u hu;simp only[List.mem_map,List.mem_range] at hu;obtain⟨j,hj,rfl⟩:=hu;obtain⟨b',o',ai,ni,ci,e',hc,_⟩:=h.at j hj;rw[e] at e';cases e';rw[hc];rfl
 ·intro i hi;obtain⟨b',o',ai,ni,ci,e',hc,hb⟩:=h.at i hi;rw[e] at e';cases e';exact⟨ai,ni,ci,by simp[hi,hc],hb⟩
theorem Ps.of_own{w:World}{base:Nat}{v:Value}{n:Nat}{xs:List Value}{L:List (List UInt8)}(h:w.ownsRow base 39 1 v n xs)(h0:0 < n)(hl:L.length=n)
  (hx:∀ i,i < n→∃ ai ni ci,xs[i]? = some (.slice ai ni ci)∧Bs w ai ni ci (L.getD i [])):∃ ad c,v = .slice ad n c∧Ps w ad n c L:=by
 obtain⟨g,cap,hv,hb,hc,hm,hr,_⟩:=eP h h0;refine⟨_,cap,hv,hl,hc,hm,fun i hi=>?_⟩;obtain⟨ai,ni,ci,h1,h2⟩:=hx i hi;refine⟨g,0,ai,ni,ci,rfl,?_,h2⟩;rw[Nat.mul_one] at hr;rw[aB hr (0+i) 1 om om]
 congr 1
 apply Array.ext_getElem?
 intro j;rw[cO _ _ _ _ (by have:=h.1;simp;omega)]
 by_cases hj:j < 1
 ·obtain rfl:j=0:=om;simp[h1]
 ·simp[hj]
def yh(x:Sj)(c:UInt8)(k:Nat):Sj:=Vector.ofFn fun i=>if i.val < k then x[i] ^^^ c else x[i]
def nU(x:Sj)(c:UInt8):Sj:=x.map (· ^^^ c)
theorem EP(x:Sj)(c:UInt8):yh x c 0=x:=by apply Vector.ext;intro i hi;simp[yh]
theorem IQ(x:Sj)(c:UInt8):yh x c 64=nU x c:=by apply Vector.ext;intro i hi;simp[yh,nU,hi]
theorem EO(x:Sj)(c:UInt8)(k:Nat)(hk:k < 64):(yh x c k).set k ((yh x c k)[k] ^^^ c)=yh x c (k+1):=by
 apply Vector.ext;intro i hi
 by_cases e:i=k
 ·subst e;simp[yh]
 ·rw[Vector.getElem_set_ne _ _ (Ne.symm e)];simp only[yh,Vector.getElem_ofFn]
  by_cases h1:i < k
  ·rw[if_pos h1,if_pos om]
  ·rw[if_neg h1,if_neg om]
theorem Row.bs{w:World}{b n:Nat}{x:Vector UInt8 n}(h:Row B8 w b x)(hm:n≤9223372036854775807):Bs w (some ⟨b,0,none⟩) n n x.toList :=
 ⟨sm,Nat.le_refl _,hm,fun e=>(by cases e),fun _=>⟨b,0,rfl,by rw[h.r];congr 1;apply Array.ext';simp[fw,bv,Vector.toList]⟩⟩
theorem mS(P:Nat)(pd:Sj)(x:UInt8)(ad:Option Addr)(n c:Nat)(L:List (List UInt8))(w:World)(hP:Row B8 w P pd)(hg:GK w)(hL:Ps w ad n c L)(h0:0 < n)(hn1:n≤1000000)(hne:∀ l ∈ L,0 < l.length)(ht:L.flatten.length < 999999999000):
  Calls prog 223 #[.int .u8 (bI x),.slice ad n c,.pointer (some ⟨P,0,none⟩)] w fun e w'=>e = .returned (.agg (fw B8 (d9 ((nU pd x).toList ++ L.flatten))))∧Below w.heap.size w w':=by
 obtain⟨i0,hi,hz,hsz,hby⟩:=info_parts EH;have HL:=SM hL;have HG:=SM hg;have hP1:=SM hP;clear hL hg hP
 go_in
 go_upto_region 1 with fail
 have hr:=Row.made (f:=B8) w 35 bO;have hb:=ba (.cells (fw B8 bO) 35) (Sy w);have Hr:=SM hr;have Hb:=SM hb;have HP2:=SM (hP1.o.below (ba (.cells (fw B8 bO) 35) (Below.refl _ w)));clear hr hb;generalize w.alloc (.cells (fw B8 bO) 35)=w1 at *;have q1:readAt w1 P 0 64=some (av pd):=HP2.o.r
 go_upto_region 2 with fail
 clear q1;have hf:=Row.made (f:=B8) w1 201 pd;have hb2:=ba (.cells (av pd) 201) (Below.refl _ w1);have HR2:=SM (Hr.o.below hb2);have HB2:=SM (bt Hb.o hb2);have hFlt:w.heap.size < w1.heap.size:=Hr.o.lt;have hf0:Row B8 (w1.alloc (.cells (av pd) 201)) w1.heap.size (yh pd x 0):=by rw[EP];exact hf
 have HF:=SM hf0;clear hf hb2 Hr Hb hf0 HP2;generalize w1.alloc (.cells (av pd) 201)=w2 at *;generalize w1.heap.size=F at *
 go_wp2
 go_loopw [9] (fun i wr=>∃ k:Nat,k≤64∧i = .int .i64 k∧Row B8 wr F (yh pd x k)∧Row B8 wr w.heap.size bO∧Below w.heap.size w wr) (fun i _=>64 - (intOf i).toNat)
 case atStart=>exact⟨0,om,rfl,HF.o,HR2.o,HB2.o⟩
 case round =>
  obtain⟨k,hk,rfl,hf,hr,hb⟩:=hrel;have HF':=SM hf;have HR:=SM hr;have HB:=SM hb;clear hf hr hb HF HR2 HB2
  by_cases hlt:k < 64
  ·have hb5:(0:Int)≤(k:Int):=om;have hb6:(k:Int) < 64:=om;have q1:=HF'.o.cell k hlt;have q2:=HF'.o.free k;have hs:=HF'.o.set k hlt ((yh pd x k)[k] ^^^ x);rw[EO pd x k hlt] at hs;have Hs:=SM hs;have HR':Hd (Row B8 (wr.setCell ⟨F,k,none⟩ (B8 ((yh pd x k)[k] ^^^ x))) w.heap.size bO):=HR.o.other _ _ (by show F≠_;omega)
   have HB':Hd (Below w.heap.size w (wr.setCell ⟨F,k,none⟩ (B8 ((yh pd x k)[k] ^^^ x)))):=HB.o.setCell (p:=⟨F,k,none⟩) (by show _≤F;omega) _
   clear hs
   go_wp2
   go_roundw
   case rel=>exact⟨k+1,om,by go_num,Hs.o,HR'.o,HB'.o⟩
   case measure=>simp[intOf];omega
  ·obtain rfl:k=64:=om;have HF2:Hd (Row B8 wr F (nU pd x)):=by rw[← IQ];exact HF'.o
   clear HF';generalize hpx:nU pd x=px at *;have Hpx:=SM hpx;clear hpx;obtain⟨b,o,xs,rfl,hxl,hxc,hx1,hxs⟩:=HL.o.vals h0;have Hxc:=SM hxc;have Hx1:=SM hx1;have Hxs:=SM hxs;clear hxc hx1 hxs;have HA:=SM (ba (.cells #[.slice (some ⟨F,0,none⟩) 64 64] 39) (Sy wr));have hown0:(wr.alloc (.cells #[.slice (some ⟨F,0,none⟩) 64 64] 39)).ownsRow wr.heap.size 39 1 (.slice (some ⟨wr.heap.size,0,none⟩) 1 1) 1 [.slice (some ⟨F,0,none⟩) 64 64]:=World.ownsRow_lit (size:=1) wr #[.slice (some ⟨F,0,none⟩) 64 64] 1 (Nat.le_refl _) (by simp[maxLen]) sm
   have Hown:=SM hown0;have hsrc:∀ (j:Nat) (u:Value),xs[j]? = some u→(wr.alloc (.cells #[.slice (some ⟨F,0,none⟩) 64 64] 39)).cell? ((⟨b,o,none⟩ : Addr).add j)=some u:=fun j u hu=>by
    have h1:=Hxc.o j u hu;have hlt:((⟨b,o,none⟩ : Addr).add j).block < w.heap.size:=by
     rcases Nat.lt_or_ge ((⟨b,o,none⟩ : Addr).add j).block w.heap.size with h | h
     ·exact h
     ·simp[World.cell?,h] at h1
    rw[← h1];exact (ba _ HB.o).cell hlt
   have Hsrc:=SM hsrc;clear hown0 hsrc
   go_upto_region 7 with fail
   go_wp2_with (at_builtin;refine wpList_append_own _ rfl _ _ 193 rfl wr.heap.size 39 i0 _ 1 24 underlying193 hi hz hsz hby rfl dc _ 1 _ rfl Hown.o ⟨b,o,none⟩ n c xs rfl ?c1 Hsrc.o Hx1.o ?c3 ?c4 ?c5 ?_)
   case c1=>rw[hxl,Nat.mul_one]
   case c3=>simp only[maxLen];omega
   case c4=>omega
   case c5=>simp[go_sem]
   intro v' w4 hown4 hgr4 _;have hb4:Below wr.heap.size wr w4:=HA.o.grown hgr4 (by simp[go_sem]) (fun k hk=>by cases hk;exact Nat.le_refl _)
   have hps:∃ ad' c',v' = .slice ad' (1+n) c'∧Ps w4 ad' (1+n) c' (px.toList :: L):=by
    refine Ps.of_own hown4 om (by simp[HL.o.1];omega) (fun i hi=>?_)
    cases i with
    | zero=>exact⟨_,_,_,rfl,by have:=((HF2.o.below hb4).bs om);simpa using this⟩
    | succ i =>
     obtain⟨ai,ni,ci,h1,h2⟩:=Hxs.o i om;exact⟨ai,ni,ci,by simpa using h1,by simpa using h2.below (bt HB.o hb4)⟩
   obtain⟨ad',c',rfl,hps'⟩:=hps;have Hps:=SM hps';have HR4:=SM (HR.o.below hb4);have HB4:=SM (bt HB.o hb4);clear hps' hown4 hgr4 hb4 Hown Hsrc HA
   go_wp2_with fail
   have e:(px.toList :: L).flatten=px.toList ++ L.flatten:=rfl;refine (pu ad' (1+n) c' (px.toList :: L) w4 (HG.o.below HG.o.1 HB4.o) Hps.o (fun l hl=>by rcases List.mem_cons.1 hl with rfl | h;(simp);exact hne l h) (by rw[e,List.length_append,Vector.length_toList];omega)).mono ?_
   rintro _ w5 ⟨rfl,hb5⟩;rw[e];generalize hout:d9 (px.toList ++ L.flatten)=out at *;have Hout:=SM hout;clear hout;have HR5:=SM (HR4.o.below hb5);have HB5:=SM (bt HB4.o hb5);have hk:=HR5.o.k
   go_wp2
   refine bodyPost_ret (fK rfl _ _ w.heap.size 0 (fw B8 out) rfl (HR5.o.all out).r) rfl ⟨by rw[← Hout.o,← Hpx.o],aa HB5.o (Nat.le_refl _) _ _⟩
end
section
def dA(k:List UInt8):Sj:=eX cB 0 k
def xA(k m:List UInt8):RU:=d9 ((nU (dA k) 0x5c).toList ++ (d9 ((nU (dA k) 0x36).toList ++ m)).toList)
theorem CU(ka:Option Addr)(kn kc:Nat)(kl:List UInt8)(ad:Option Addr)(n c:Nat)(L:List (List UInt8))(w:World)(hk:Bs w ka kn kc kl)(hk1:0 < kn)(hk2:kn≤64)(hg:GK w)(hL:Ps w ad n c L)(h0:0 < n)(hn1:n≤1000000)(hne:∀ l ∈ L,0 < l.length)(ht:L.flatten.length < 999999999000):
  Calls prog 211 #[.slice ka kn kc,.slice ad n c] w fun e w'=>e = .returned (.agg (fw B8 (xA kl L.flatten)))∧Below w.heap.size w w':=by
 obtain⟨hkl,hkcap,hkmax,_,hkr⟩:=hk;obtain⟨b,o,rfl,hr⟩:=hkr hk1;have HG:=SM hg;have HL:=SM hL;have HK:=SM hr;clear hg hL hkr hr;have hd:decide ((64:Int) < (kn:Int))=false:=df
 go_in
 go_upto_region 2 with fail
 have hA:=ba (.cells (av cB) 201) (ba (.cells (fw B8 bO) 35) (Sy w));have hR:=(Row.made (f:=B8) w 35 bO).below (ba (.cells (av cB) 201) (Below.refl _ (w.alloc (.cells (fw B8 bO) 35))));have hP:=Row.made (f:=B8) (w.alloc (.cells (fw B8 bO) 35)) 201 cB;have e1:(w.alloc (.cells (fw B8 bO) 35)).heap.size=w.heap.size+1:=sm;rw[e1] at hP;have hP':Row B8 ((w.alloc (.cells (fw B8 bO) 35)).alloc (.cells (av cB) 201)) (w.heap.size+1) cB:=hP
 have HA:=SM hA;have HR:=SM hR;have HP:=SM hP';clear hA hR hP e1 hP';generalize (w.alloc (.cells (fw B8 bO) 35)).alloc (.cells (av cB) 201)=w1 at *;obtain⟨P,hPe⟩:=eY (w.heap.size+1);rw[hPe] at HP ⊢;have hcp:=dP w1 3 P 0 64 64 b o kn kc kn (Nat.min_eq_left hk2).symm (bv kl) (aC HP.o.k 0 kn om) (by rw[ak HA.o (ac HK.o)];exact HK.o) (oG _)
 have hpk:=HP.o.fill 0 kl om;have HPK:Hd (Row B8 (setAt w1 P 0 (bv kl)) P (dA kl)):=hpk;have HRK:Hd (Row B8 (setAt w1 P 0 (bv kl)) w.heap.size bO):=HR.o.apart _ _ _ om;have HBK:Hd (Below w.heap.size w (setAt w1 P 0 (bv kl))):=aa HA.o om _ _;clear hpk
 go_upto_region 6 with fail
 clear hcp HP HR HA HK;generalize setAt w1 P 0 (bv kl)=w2 at *;have hpl:=HL.o.below HBK.o;have Hpl:=SM (show Ps w2 ad n c L from (HL.o.below HBK.o))
 clear hpl;have hc1:=mS P (dA kl) 54 ad n c L w2 HPK.o (HG.o.below HG.o.1 HBK.o) Hpl.o h0 hn1 hne ht;rw[show bI 54=54 from rfl] at hc1
 obtain⟨inn,hinn⟩:=eY (d9 ((nU (dA kl) 54).toList ++ L.flatten));rw[hinn] at hc1;have Hinn:=SM hinn;have HC1:=SM hc1;clear hc1 hinn
 go_wp2_with fail
 refine HC1.o.mono ?_;rintro _ w3 ⟨rfl,hb3⟩;have HPK3:=SM (HPK.o.below hb3);have HRK3:=SM (HRK.o.below hb3);have HBK3:=SM (bt HBK.o hb3);clear HC1 HPK HRK HBK Hpl hb3
 go_upto_region 8 with fail
 have hI:=Row.made (f:=B8) w3 35 inn;have hb4:=ba (.cells (fw B8 inn) 35) (Sy w3);have HI:=SM hI;have HPK4:=SM (HPK3.o.below hb4);have HRK4:=SM (HRK3.o.below hb4);have HBK4:=SM (bt HBK3.o hb4);clear hI hb4 HPK3 HRK3 HBK3;generalize w3.alloc (.cells (fw B8 inn) 35)=w4 at *;generalize w3.heap.size=I at *;have hb5:=ba (.cells #[.slice (some ⟨I,0,none⟩) 32 32] 39) (Sy w4);have hps:Ps (w4.alloc (.cells #[.slice (some ⟨I,0,none⟩) 32 32] 39)) (some ⟨w4.heap.size,0,none⟩) 1 1 [inn.toList]:=by
  refine⟨rfl,Nat.le_refl _,om,fun i hi=>?_⟩;obtain rfl:i=0:=om;exact⟨_,0,_,_,_,rfl,by rw[aj _ _ _ _ _ _ _ rfl sm];rfl,((HI.o.below hb5).bs om)⟩
 have Hps:=SM hps;have HPK5:=SM (HPK4.o.below hb5);have HRK5:=SM (HRK4.o.below hb5);have HBK5:=SM (bt HBK4.o hb5);clear hps hb5 HPK4 HRK4 HBK4;have hc1:=mS P (dA kl) 92 _ 1 1 [inn.toList] _ HPK5.o (HG.o.below HG.o.1 HBK5.o) Hps.o om om (fun l hl=>by simp at hl;subst hl;simp) sm
 rw[show bI 92=92 from rfl] at hc1
 obtain⟨out,hout⟩:=eY (d9 ((nU (dA kl) 92).toList ++ [inn.toList].flatten));rw[hout] at hc1;have Hout:=SM hout;have HC1:=SM hc1;clear hc1 hout Hps
 go_wp2_with fail
 refine HC1.o.mono ?_;rintro _ w5 ⟨rfl,hb6⟩;have HR6:=SM (HRK5.o.below hb6);have HB6:=SM (bt HBK5.o hb6);clear HC1 HRK5 HBK5 hb6 HPK5;have hk:=HR6.o.k
 go_wp2
 refine bodyPost_ret (fK rfl _ _ w.heap.size 0 (fw B8 out) rfl (HR6.o.all out).r) rfl ⟨?_,aa HB6.o (Nat.le_refl _) _ _⟩;unfold xA;rw[← Hout.o,← Hinn.o];simp
end
section
def gd{n:Nat}(x:Vector UInt8 n)(i:Nat):UInt8:=x.toArray.getD i 0
theorem eO{n:Nat}(x:Vector UInt8 n)(i:Nat)(h:i < n):gd x i=x[i]:=by simp[gd,Array.getD,h]
def xt(a:UInt8):UInt8:=if (a >>> 7).toNat=0 then a <<< 1 else (a <<< 1) ^^^ 27
def Tg:Nat→UInt8→UInt8→UInt8→UInt8
 | 0,_,_,p=>p
 | n+1,a,b,p=>if b.toNat=0 then p else Tg n (xt a) (b >>> 1) (if (b &&& 1).toNat=0 then p else p ^^^ a)
def pm(a b:UInt8):UInt8:=Tg 8 a b 0
theorem Q7(a:UInt8):pm a 1=a:=by simp[pm,Tg]
theorem Q8(a:UInt8):pm a 2=xt a:=by simp[pm,Tg]
theorem Rt(a:UInt8):pm a 3=a ^^^ xt a:=by simp[pm,Tg]
def Pl:List UInt8:=[
 0x63,0x7c,0x77,0x7b,0xf2,0x6b,0x6f,0xc5,0x30,0x01,0x67,0x2b,0xfe,0xd7,0xab,0x76,
 0xca,0x82,0xc9,0x7d,0xfa,0x59,0x47,0xf0,0xad,0xd4,0xa2,0xaf,0x9c,0xa4,0x72,0xc0,
 0xb7,0xfd,0x93,0x26,0x36,0x3f,0xf7,0xcc,0x34,0xa5,0xe5,0xf1,0x71,0xd8,0x31,0x15,
 0x04,0xc7,0x23,0xc3,0x18,0x96,0x05,0x9a,0x07,0x12,0x80,0xe2,0xeb,0x27,0xb2,0x75,
 0x09,0x83,0x2c,0x1a,0x1b,0x6e,0x5a,0xa0,0x52,0x3b,0xd6,0xb3,0x29,0xe3,0x2f,0x84,
 0x53,0xd1,0x00,0xed,0x20,0xfc,0xb1,0x5b,0x6a,0xcb,0xbe,0x39,0x4a,0x4c,0x58,0xcf,
 0xd0,0xef,0xaa,0xfb,0x43,0x4d,0x33,0x85,0x45,0xf9,0x02,0x7f,0x50,0x3c,0x9f,0xa8,
 0x51,0xa3,0x40,0x8f,0x92,0x9d,0x38,0xf5,0xbc,0xb6,0xda,0x21,0x10,0xff,0xf3,0xd2,
 0xcd,0x0c,0x13,0xec,0x5f,0x97,0x44,0x17,0xc4,0xa7,0x7e,0x3d,0x64,0x5d,0x19,0x73,
 0x60,0x81,0x4f,0xdc,0x22,0x2a,0x90,0x88,0x46,0xee,0xb8,0x14,0xde,0x5e,0x0b,0xdb,
 0xe0,0x32,0x3a,0x0a,0x49,0x06,0x24,0x5c,0xc2,0xd3,0xac,0x62,0x91,0x95,0xe4,0x79,
 0xe7,0xc8,0x37,0x6d,0x8d,0xd5,0x4e,0xa9,0x6c,0x56,0xf4,0xea,0x65,0x7a,0xae,0x08,
 0xba,0x78,0x25,0x2e,0x1c,0xa6,0xb4,0xc6,0xe8,0xdd,0x74,0x1f,0x4b,0xbd,0x8b,0x8a,
 0x70,0x3e,0xb5,0x66,0x48,0x03,0xf6,0x0e,0x61,0x35,0x57,0xb9,0x86,0xc1,0x1d,0x9e,
 0xe1,0xf8,0x98,0x11,0x69,0xd9,0x8e,0x94,0x9b,0x1e,0x87,0xe9,0xce,0x55,0x28,0xdf,
 0x8c,0xa1,0x89,0x0d,0xbf,0xe6,0x42,0x68,0x41,0x99,0x2d,0x0f,0xb0,0x54,0xbb,0x16]
def sb(a:UInt8):UInt8:=Pl.toArray.getD a.toNat 0
def yj(a b:RW):RW:=Vector.ofFn fun i=>a[i] ^^^ b[i]
def S7(b:RW)(p:UInt8)(r:Nat):Nat→UInt8
 | 0=>if r=0 then sb (gd b 13) ^^^ p else sb (gd b (12+(r+1) % 4))
 | c+1=>S7 b p r c ^^^ gd b (4 * c+r)
def mW(b:RW)(p:UInt8):RW:=Vector.ofFn fun i=>S7 b p (i.val % 4) (i.val / 4+1)
def mO(key:RW):Nat→RW × UInt8
 | 0=>(key,1)
 | i+1=>(mW (mO key i).1 (mO key i).2,xt (mO key i).2)
def rk(key:RW)(i:Nat):RW:=(mO key i).1
def cz(b:RW):RW:=Vector.ofFn fun i=>sb (gd b (i.val % 4+4 * ((i.val / 4+i.val % 4) % 4)))
def OX(b:RW)(i:Nat):UInt8 :=
 xt (gd b (i % 4+4 * (i / 4))) ^^^ (gd b ((i % 4+1) % 4+4 * (i / 4)) ^^^ xt (gd b ((i % 4+1) % 4+4 * (i / 4)))) ^^^ gd b ((i % 4+2) % 4+4 * (i / 4)) ^^^ gd b ((i % 4+3) % 4+4 * (i / 4))
def EZ(b:RW):RW:=Vector.ofFn fun i=>OX b i.val
def fN(b k:RW)(last:Bool):RW:=yj (if last then cz b else EZ (cz b)) k
def rx(key b:RW):Nat→RW
 | 0=>yj b (rk key 0)
 | i+1=>fN (rx key b i) (rk key (i+1)) (decide (i+1=10))
def enc(key b:RW):RW:=rx key b 10
def rR(nonce:N8)(i:Nat):RW:=Vector.ofFn fun j=>if j.val < 8 then gd nonce j.val else UInt8.ofNat (i / 256 ^ (15 - j.val))
def cI(key:RW)(nonce:N8)(i:Nat):RW:=enc key (rR nonce i)
def ji(key:RW)(nonce:N8)(i:Nat):UInt8:=gd (cI key nonce (i / 16)) (i % 16)
def fm(key:RW)(nonce:N8)(b:List UInt8):List UInt8:=b.mapIdx fun i x=>x ^^^ ji key nonce i
@[simp] theorem dx(key:RW)(nonce:N8)(b:List UInt8):(fm key nonce b).length=b.length:=by simp[fm]
theorem uN(key:RW)(nonce:N8)(b:List UInt8):fm key nonce (fm key nonce b)=b:=by
 apply List.ext_getElem
 ·simp
 ·intro i h1 h2;simp[fm,UInt8.xor_assoc]
def cF(k label:List UInt8):RU:=xA k (1 :: label)
def QC:List UInt8:=[112,114,111,116,101,99,116]
def QB:List UInt8:=[101,110,99,114,121,112,116]
def AE(key:RW):RU:=cF key.toList QC
def AD(key:RW):RW:=Vector.ofFn fun i=>gd (cF key.toList QB) i.val
def dO(key:RW)(nonce:N8)(b:List UInt8):List UInt8:=nonce.toList ++ fm (AD key) nonce b
def fq(key:RW)(usage:UInt8)(front:List UInt8):List UInt8:=(xA (AE key).toList (usage :: front)).toList.take 16
def lz(key:RW)(usage:UInt8)(nonce:N8)(b:List UInt8):List UInt8:=dO key nonce b ++ fq key usage (dO key nonce b)
def fb(s:List UInt8):N8:=Vector.ofFn fun i=>s.getD i.val 0
def kO(key:RW)(usage:UInt8)(s:List UInt8):Option (List UInt8) :=
 if s.length < 24 then none
 else if s.drop (s.length - 16)=fq key usage (s.take (s.length - 16)) then some (fm (AD key) (fb s) ((s.take (s.length - 16)).drop 8))
 else none
theorem zA(key:RW)(usage:UInt8)(f c:List UInt8)(hf:8≤f.length)(hc:c.length=16)(he:c=fq key usage f):
  kO key usage (f ++ c)=some (fm (AD key) (fb (f ++ c)) (f.drop 8)):=by
 have hl:(f ++ c).length - 16=f.length:=by rw[List.length_append,hc];omega
 unfold kO;rw[if_neg (by rw[List.length_append];omega),hl,List.take_left,List.drop_left,if_pos he]
theorem vm(nonce:N8)(l:List UInt8):fb (nonce.toList ++ l)=nonce:=by
 apply Vector.ext;intro i hi
 simp only[fb,Vector.getElem_ofFn];rw[List.getD_eq_getElem?_getD,List.getElem?_append_left (by simpa using hi)]
 simp[hi]
theorem ly(key:RW)(nonce:N8)(b:List UInt8):(dO key nonce b).length=8+b.length:=by
 unfold dO;rw[List.length_append,dx,Vector.length_toList]
theorem ny(key:RW)(usage:UInt8)(f:List UInt8):(fq key usage f).length=16:=by
 unfold fq;rw[List.length_take,Vector.length_toList];rfl
theorem Di(key:RW)(usage:UInt8)(nonce:N8)(b:List UInt8):kO key usage (lz key usage nonce b)=some b:=by
 unfold lz;rw[zA _ _ _ _ (by rw[ly];omega) (ny _ _ _) rfl]
 congr 1
 have h1:fb (dO key nonce b ++ fq key usage (dO key nonce b))=nonce:=by
  generalize fq key usage (dO key nonce b)=c;unfold dO;rw[List.append_assoc];exact vm _ _
 rw[h1];unfold dO;rw[List.drop_left' sm,uN]
end
section
section
variable (a b:UInt8)
@[go_sem] theorem QU:bits .and .u8 (bI a) (1:Int)=bI (a &&& 1):=by
 show bits .and .u8 (bI a) (bI 1)=_
 unfold bI;rw[u8_and_nat _ _ a.toNat_lt (UInt8.toNat_lt _),UInt8.toNat_and]
@[go_sem] theorem Qs:bits .xor .u8 (bI a) (27:Int)=bI (a ^^^ 27):=Kn a 27
theorem Og(n:Nat)(hn:n < 8):bI a / 2 ^ n=bI (a >>> UInt8.ofNat n):=by
 unfold bI;have e:(UInt8.ofNat n).toNat % 8=n:=by rw[UInt8.toNat_ofNat'];omega
 rw[UInt8.toNat_shiftRight,e,Nat.shiftRight_eq_div_pow];norm_cast
theorem Qr(n:Nat)(hn:n < 8):IntKind.u8.wrap (bI a * 2 ^ n)=bI (a <<< UInt8.ofNat n):=by
 unfold bI;have e:(UInt8.ofNat n).toNat % 8=n:=by rw[UInt8.toNat_ofNat'];omega
 rw[UInt8.toNat_shiftLeft,e,Nat.shiftLeft_eq,IntKind.wrap_u8'];have h:((a.toNat * 2 ^ n:Nat):Int)=(a.toNat:Int) * 2 ^ n:=sm;rw[← h];generalize a.toNat * 2 ^ n=x;have:(2:Nat) ^ 8=256:=dc;rw[this];omega
@[go_sem] theorem QX:bI a / (128:Int)=bI (a >>> 7):=Og a 7 dc
@[go_sem] theorem QW:bI a / (2:Int)=bI (a >>> 1):=Og a 1 dc
@[go_sem] theorem QV:IntKind.u8.wrap (bI a * (2:Int))=bI (a <<< 1):=Qr a 1 dc
end
theorem GT(n:Nat)(a b p:UInt8)(h:bI b=0):Tg n a b p=p:=by
 have:b.toNat=0:=by unfold bI at h;omega
 cases n <;> simp[Tg,this]
theorem GS(n:Nat)(a b p:UInt8)(h:bI b≠0)(hn:b.toNat < 2 ^ n):∃ m,n=m+1∧(b >>> 1).toNat < 2 ^ m∧Tg n a b p=Tg m (xt a) (b >>> 1) (if bI (b &&& 1)=0 then p else p ^^^ a):=by
 have hb:b.toNat≠0:=by unfold bI at h;omega
 cases n with
 | zero=>simp at hn;omega
 | succ m =>
  refine⟨m,rfl,?_,?_⟩
  ·rw[UInt8.toNat_shiftRight];simp[Nat.shiftRight_eq_div_pow,Nat.pow_succ] at *;omega
  ·rw[Tg,if_neg hb]
   by_cases hc:(b &&& 1).toNat=0
   ·rw[if_pos hc,if_pos (by unfold bI;omega)]
   ·rw[if_neg hc,if_neg (by unfold bI;omega)]
theorem QR(a:UInt8)(h:bI (a >>> 7)≠0):xt a=(a <<< 1) ^^^ 27:=by
 unfold xt;rw[if_neg (by unfold bI at h;omega)]
theorem QS(a:UInt8)(h:bI (a >>> 7)=0):xt a=a <<< 1:=by
 unfold xt;rw[if_pos (by unfold bI at h;omega)]
theorem m9(a b:UInt8)(w:World):Calls prog 243 #[.int .u8 (bI a),.int .u8 (bI b)] w fun e w'=>e = .returned (.int .u8 (bI (pm a b)))∧w=w':=by
 have hb0:b.toNat < 2 ^ 8:=b.toNat_lt;obtain⟨R,hR⟩:=eY (pm a b);have hR0:Tg 8 a b 0=R:=hR;rw[hR];clear hR
 go_in
 go_wp2
 go_loopw [0,1,5] (fun x y p wr=>∃ (n:Nat) (a b q:UInt8),x = .int .u8 (bI a)∧y = .int .u8 (bI b)∧p = .int .u8 (bI q)∧b.toNat < 2 ^ n∧Tg n a b q=R∧wr=w) (fun _ y _ _=>(intOf y).toNat)
 case atStart=>exact⟨8,a,b,0,rfl,rfl,rfl,hb0,hR0,rfl⟩
 case round =>
  obtain⟨n,a,b,q,rfl,rfl,rfl,hn,hp,rfl⟩:=hrel
  by_cases hb:bI b=0
  ·rw[GT n a b q hb] at hp;subst hp
   go_wp2
   go_ret
   exact⟨rfl,rfl⟩
  ·obtain⟨m,rfl,hm,he⟩:=GS n a b q hb hn;rw[he] at hp;have hlt:(b >>> 1).toNat < b.toNat:=by
    rw[UInt8.toNat_shiftRight];unfold bI at hb;simp[Nat.shiftRight_eq_div_pow];omega
   have Hp:=SM hp;clear hp he hn hR0 hb0
   by_cases h1:bI (b &&& 1)=0 <;> by_cases h2:bI (a >>> 7)=0
   all_goals
    go_wp2
    go_roundw
    case rel=>exact⟨m,_,_,_,rfl,rfl,rfl,hm,by have h:=Hp.o;(first | rw[if_pos h1] at h | rw[if_neg h1] at h);(first | rw[QS a h2] at h | rw[QR a h2] at h);exact h,by first | rfl | trivial⟩
    case measure=>simp only[intOf,bI];omega
theorem Pm(s:ByteArray)(hs:s.data=Pl.toArray)(a:UInt8)(h:(bI a).toNat < s.size):((s[(bI a).toNat]'h).toNat:Int)=bI (sb a):=by
 have h2:a.toNat < Pl.toArray.size:=a.toNat_lt;obtain⟨d⟩:=s;cases hs;have e:((⟨Pl.toArray⟩ : ByteArray)[(bI a).toNat]'h)=Pl.toArray[a.toNat]'h2:=rfl;rw[e];unfold sb bI;rw[Array.getD,dif_pos h2]
 rfl
theorem jG(a:UInt8)(w:World):Calls prog 240 #[.int .u8 (bI a)] w fun e w'=>e = .returned (.int .u8 (bI (sb a)))∧w=w':=by
 have h0:=oe a;have h1:=od a
 go_in
 go_wp2
 go_ret
 exact⟨congrArg (fun x=>Ending.returned (.int .u8 x)) (Pm _ rfl a _),rfl⟩
theorem mul_one(a x:UInt8)(B:Nat)(w:World)(hB:w.cell? ⟨B,0,none⟩=some (.int .u8 (bI x))):Calls prog 241 #[.int .u8 (bI a),.slice (some ⟨B,0,none⟩) 1 1] w fun e w'=>e = .returned (.int .u8 (bI (pm a x)))∧w=w':=by
 go_in
 go_wp2
 go_loopw [0,9] (fun y i wr=>wr=w∧((i = .int .i64 0∧y = .int .u8 (bI a))∨(i = .int .i64 1∧y = .int .u8 (bI (pm a x))))) (fun _ i _=>1 - (intOf i).toNat)
 case atStart=>exact⟨rfl,.inl ⟨rfl,rfl⟩⟩
 case round =>
  obtain⟨rfl,⟨rfl,rfl⟩ | ⟨rfl,rfl⟩⟩:=hrel
  ·go_wp2_with fail
   refine (m9 a x wr).mono ?_;rintro _ _ ⟨rfl,rfl⟩
   go_wp2
   go_roundw
   case rel=>exact⟨by first | rfl | trivial,.inr ⟨rfl,rfl⟩⟩
   case measure=>simp[intOf]
  ·go_wp2
   go_ret
   exact⟨rfl,rfl⟩
def KH(a b:V4):Nat→UInt8
 | 0=>0
 | i+1=>KH a b i ^^^ pm (gd b i) (gd a i)
section
variable {α β:Type} {n m:Nat}
theorem dU(w:World)(t:TypeId)(f:α→Value)(x:Vector α n):
  Row f (w.alloc (.cells (fw f x) t)) w.heap.size x∧Below w.heap.size w (w.alloc (.cells (fw f x) t))∧(w.alloc (.cells (fw f x) t)).heap.size=w.heap.size+1 :=
 ⟨Row.made w t x,ba _ (Below.refl _ _),sm⟩
theorem iH(w:World)(t u:TypeId)(f:α→Value)(x:Vector α n)(g:β→Value)(y:Vector β m):
  Row f ((w.alloc (.cells (fw f x) t)).alloc (.cells (fw g y) u)) w.heap.size x∧Row g ((w.alloc (.cells (fw f x) t)).alloc (.cells (fw g y) u)) (w.heap.size+1) y ∧
  Below w.heap.size w ((w.alloc (.cells (fw f x) t)).alloc (.cells (fw g y) u))∧((w.alloc (.cells (fw f x) t)).alloc (.cells (fw g y) u)).heap.size=w.heap.size+2:=by
 obtain⟨h1,h2,h3⟩:=dU w t f x;obtain⟨h4,h5,h6⟩:=dU (w.alloc (.cells (fw f x) t)) u g y;rw[h3] at h4 h6;exact⟨h1.below h5,h4,bt h2 h5,h6⟩
end
theorem Row.drewN{α:Type}{f:α→Value}{w:World}{b n:Nat}{x:Vector α n}(h:Row f w b x)(q:Nat):Row f (w.drewN q) b x:=h.same rfl
theorem Oh{B:Nat}{a w:World}(h:Below B a w)(n:Nat):Below B a (w.drewN n):=h.trans ⟨rfl,rfl,rfl,Nat.le_refl _,fun _ _=>rfl⟩
theorem Row.drew{α:Type}{f:α→Value}{w:World}{b n:Nat}{x:Vector α n}(h:Row f w b x):Row f w.drew b x:=h.below (Below.refl _ _).drew
theorem eR{P:Program}{f:FuncId}{args:Array Value}{w:World}{v:Value}(h:Calls P f args w fun e w'=>e = .returned v∧w=w'):Calls P f args w fun e w'=>e = .returned v∧w'=w :=
 h.mono fun _ _ ⟨he,hm⟩=>⟨he,hm.symm⟩
theorem KI(a b:V4)(w:World):Calls prog 245 #[.agg (fw B8 a),.agg (fw B8 b)] w fun e w'=>e = .returned (.int .u8 (bI (KH a b 4)))∧Below w.heap.size w w':=by
 go_in
 go_wp2_with fail
 obtain⟨hA,hB,hb,hs⟩:=iH w 343 343 B8 a B8 b;generalize (w.alloc (.cells (fw B8 a) 343)).alloc (.cells (fw B8 b) 343)=w2 at *
 go_loopw [5,7] (fun x i wr=>∃ k:Nat,k≤4∧i = .int .i64 k∧x = .int .u8 (bI (KH a b k))∧Row B8 wr w.heap.size a∧Row B8 wr (w.heap.size+1) b∧Below w.heap.size w wr) (fun _ i _=>4 - (intOf i).toNat)
 case atStart=>exact⟨0,om,rfl,rfl,hA,hB,hb⟩
 case round =>
  clear hA hB hb;obtain⟨k,hk,rfl,rfl,hA,hB,hb⟩:=hrel;have HA:=SM hA;have HB:=SM hB;have Hb:=SM hb;clear hA hB hb
  by_cases hlt:k < 4
  ·have q1:=HA.o.cell k hlt;have q2:=HB.o.cell k hlt;have i1:(0:Int)≤(k:Int):=om;have i2:(k:Int) < 4:=om
   go_upto_region 5 with fail
   go_quiet ((go_at_call 243;exact Calls.quiet_of_same (eR (m9 _ _ _))))
   go_wp2
   go_roundw
   case rel=>exact⟨k+1,om,by go_num,by rw[KH,eO _ _ hlt,eO _ _ hlt],HA.o.drewN _,HB.o.drewN _,Oh Hb.o _⟩
   case measure=>simp[intOf];omega
  ·obtain rfl:k=4:=om
   go_wp2
   go_ret
   exact⟨rfl,Hb.o⟩
end
section
section
variable {α β γ δ:Type} {n m l q:Nat}
theorem mT(w:World)(t u v:TypeId)(f:α→Value)(x:Vector α n)(g:β→Value)(y:Vector β m)(h:γ→Value)(z:Vector γ l):
  Row f (((w.alloc (.cells (fw f x) t)).alloc (.cells (fw g y) u)).alloc (.cells (fw h z) v)) w.heap.size x∧Row g (((w.alloc (.cells (fw f x) t)).alloc (.cells (fw g y) u)).alloc (.cells (fw h z) v)) (w.heap.size+1) y ∧
  Row h (((w.alloc (.cells (fw f x) t)).alloc (.cells (fw g y) u)).alloc (.cells (fw h z) v)) (w.heap.size+1+1) z ∧
  Below w.heap.size w (((w.alloc (.cells (fw f x) t)).alloc (.cells (fw g y) u)).alloc (.cells (fw h z) v))∧(((w.alloc (.cells (fw f x) t)).alloc (.cells (fw g y) u)).alloc (.cells (fw h z) v)).heap.size=w.heap.size+3:=by
 obtain⟨h1,h2,h3,h4⟩:=iH w t u f x g y;obtain⟨h5,h6,h7⟩:=dU ((w.alloc (.cells (fw f x) t)).alloc (.cells (fw g y) u)) v h z;rw[h4] at h5 h7;exact⟨h1.below h6,h2.below h6,h5,bt h3 h6,h7⟩
end
def jx(a b:RW)(k:Nat):RW:=Vector.ofFn fun i=>if i.val < k then a[i] ^^^ b[i] else a[i]
theorem pD(a b:RW):jx a b 0=a:=by apply Vector.ext;intro i hi;simp[jx]
theorem tX(a b:RW):jx a b 16=yj a b:=by apply Vector.ext;intro i hi;simp[jx,yj,hi]
theorem yi(a b:RW)(k:Nat)(hk:k < 16):(jx a b k)[k]=a[k]:=by simp[jx]
theorem pC(a b:RW)(k:Nat)(hk:k < 16):(jx a b k).set k (a[k] ^^^ b[k])=jx a b (k+1):=by
 apply Vector.ext;intro i hi
 by_cases e:i=k
 ·subst e;simp[jx]
 ·rw[Vector.getElem_set_ne _ _ (Ne.symm e)];simp only[jx,Vector.getElem_ofFn]
  by_cases h1:i < k
  ·rw[if_pos h1,if_pos om]
  ·rw[if_neg h1,if_neg om]
theorem pZ(a b:RW)(w:World):Calls prog 238 #[.agg (fw B8 a),.agg (fw B8 b)] w fun e w'=>e = .returned (.agg (fw B8 (yj a b)))∧Below w.heap.size w w':=by
 go_in
 go_upto_region 1 with fail
 obtain⟨hA,hB,hR,hb,hs⟩:=mT w 22 22 22 B8 a B8 b B8 dq;generalize ((w.alloc (.cells (fw B8 a) 22)).alloc (.cells (fw B8 b) 22)).alloc (.cells (fw B8 dq) 22)=w2 at *
 go_wp2
 go_loopw [6] (fun i wr=>∃ k:Nat,k≤16∧i = .int .i64 k∧Row B8 wr w.heap.size (jx a b k)∧Row B8 wr (w.heap.size+1) b∧Row B8 wr (w.heap.size+1+1) dq∧Below w.heap.size w wr) (fun i _=>16 - (intOf i).toNat)
 case atStart=>exact⟨0,om,rfl,by rw[pD];exact hA,hB,hR,hb⟩
 case round =>
  clear hA hB hR hb;obtain⟨k,hk,rfl,hA,hB,hR,hb⟩:=hrel;have HA:=SM hA;have HB:=SM hB;have HR:=SM hR;have Hb:=SM hb;clear hA hB hR hb
  by_cases hlt:k < 16
  ·have i1:(0:Int)≤(k:Int):=om;have i2:(k:Int) < 16:=om
   go_upto_region 4 with fail
   refine yW (tk 0 8 (.brk 8 .done)) (fun u=>u=wr.drew) rfl ?_;replace HA:=SM HA.o.drew;replace HB:=SM HB.o.drew;replace HR:=SM HR.o.drew;replace Hb:=SM Hb.o.drew;generalize wr.drew=wr at *;have q1:=HA.o.cell k hlt;rw[yi a b k hlt] at q1;have q2:=HB.o.cell k hlt;have q3:=HA.o.free k;have hs:=HA.o.set k hlt (a[k] ^^^ b[k]);rw[pC a b k hlt] at hs;have Hs:=SM hs;have HB':Hd (Row B8 (wr.setCell ⟨w.heap.size,k,none⟩ (B8 (a[k] ^^^ b[k]))) (w.heap.size+1) b):=HB.o.other _ _ (by show w.heap.size≠_;omega)
   have HR':Hd (Row B8 (wr.setCell ⟨w.heap.size,k,none⟩ (B8 (a[k] ^^^ b[k]))) (w.heap.size+1+1) dq):=HR.o.other _ _ (by show w.heap.size≠_;omega)
   have Hb':Hd (Below w.heap.size w (wr.setCell ⟨w.heap.size,k,none⟩ (B8 (a[k] ^^^ b[k])))):=Hb.o.setCell (p:=⟨w.heap.size,k,none⟩) (by show _≤w.heap.size;omega) _
   clear hs
   repeat(refine yB ?_;walk_nrm)
   refine et rfl rfl (fun K hK=>?_);go_simp;refine hK _ _ (fun _=>True) trivial (al ?_)
   go_wp2
   go_roundw
   case rel=>exact⟨k+1,om,by go_num,Hs.o,HB'.o,HR'.o,Hb'.o⟩
   case measure=>simp[intOf];omega
  ·obtain rfl:k=16:=om;rw[tX] at HA;have q1:=HA.o.r;have q2:=HR.o.k
   go_wp2
   refine bodyPost_ret (cq rfl _ _ (w.heap.size+1+1) 0 (fw B8 (yj a b)) rfl (HR.o.all (yj a b)).r) rfl ⟨rfl,aa Hb.o om _ _⟩
end
section
theorem eJ(x:UInt32)(n:Nat)(hn:n < 32)(h0:0 < n)(w:World):
  Calls prog 220 #[.int .u32 (wI x),.int .u64 (n:Int)] w fun e w'=>e = .returned (.int .u32 (wI (oq x n)))∧w=w':=by
 have e2:IntKind.u64.wrap (32 - (n:Int))=((32 - n:Nat):Int):=wu;have h1:(0:Int)≤((32 - n:Nat):Int):=om;have h2:((32 - n:Nat):Int)≤32:=om;have h3:(0:Int)≤(n:Int):=om;have h4:(n:Int)≤32:=om;have e3:=MP x (32 - n) om;have e4:=Au x n hn;have e5:oq x n=x >>> UInt32.ofNat n ||| x <<< UInt32.ofNat (32 - n):=by rw[oq,UInt32.or_comm]
 rw[e5]
 go_in
 go_wp2
 go_ret
 exact⟨rfl,rfl⟩
theorem QP(x:UInt32)(b:UInt8):x <<< 8+b.toUInt32=x <<< 8 ||| b.toUInt32:=by
 apply UInt32.toNat_inj.1
 rw[UInt32.toNat_add,UInt32.toNat_or,UInt32.toNat_shiftLeft,UInt8.toNat_toUInt32];have hb:=b.toNat_lt;rw[show (8:UInt32).toNat % 32=8 from rfl]
 have h1:x.toNat <<< 8 % 2 ^ 32=(x.toNat % 2 ^ 24) <<< 8:=by rw[Nat.shiftLeft_eq,Nat.shiftLeft_eq];omega
 rw[h1,← Nat.shiftLeft_add_eq_or_of_lt (by simpa using hb),Nat.shiftLeft_eq]
 omega
def Tj(y:W8)(k:Nat):W8:=Vector.ofFn fun i=>if k < i.val then y[i.val - 1] else y[i]
theorem Ef(y:W8):Tj y 7=y:=by apply Vector.ext;intro i hi;simp[Tj];omega
theorem Ph(y:W8)(m:Nat)(h:m < 7):(Tj y (m+1))[m]=y[m]:=by simp only[Tj,Vector.getElem_ofFn];rw[if_neg om];rfl
theorem Ir(y:W8)(m:Nat)(h:m < 7):(Tj y (m+1)).set (m+1) y[m]=Tj y m:=by
 apply Vector.ext;intro i hi
 by_cases e:i=m+1
 ·subst e;simp[Tj]
 ·rw[Vector.getElem_set_ne _ _ (Ne.symm e)];simp only[Tj,Vector.getElem_ofFn]
  by_cases h1:m < i
  ·rw[if_pos h1,if_pos om]
  ·rw[if_neg h1,if_neg om]
theorem Iq(st:S8)(k w:UInt32):((Tj st.v 0).set 4 (st.d+Nz st k w)).set 0 (Nz st k w+Qb st)=(qY st k w).v:=by
 apply Vector.ext;intro i hi
 obtain rfl | rfl | rfl | rfl | rfl | rfl | rfl | rfl:i=0∨i=1∨i=2∨i=3∨i=4∨i=5∨i=6∨i=7:=om
 all_goals simp[Tj,S8.v,qY]
theorem Bg(x y:W8)(k:Nat)(hk:k≤8):nW x y k=Vector.ofFn fun i=>if i.val < k then x[i]+y[i] else x[i]:=by
 induction k with
 | zero=>apply Vector.ext;intro i hi;simp[nW]
 | succ k ih =>
  rw[mr x y k om,ih om]
  apply Vector.ext;intro i hi
  by_cases e:i=k
  ·subst e;simp
  ·rw[Vector.getElem_set_ne _ _ (Ne.symm e)];simp only[Vector.getElem_ofFn]
   by_cases h1:i < k
   ·rw[if_pos h1,if_pos om]
   ·rw[if_neg h1,if_neg om]
theorem Bf(x y:W8):nW x y 8=nW y x 8:=by
 rw[Bg _ _ 8 om,Bg _ _ 8 om]
 apply Vector.ext;intro i hi
 simp[hi,UInt32.add_comm]
theorem Rr(x:W8):(S8.of x).v=x:=by
 apply Vector.ext;intro i hi
 obtain rfl | rfl | rfl | rfl | rfl | rfl | rfl | rfl:i=0∨i=1∨i=2∨i=3∨i=4∨i=5∨i=6∨i=7:=om
 all_goals rfl
structure R9 (w wr:World) (S B T Z:Nat) (x:W8) (b:Sj):Prop where
 x:Row W4 wr S x
 b:Row B8 wr B b
 t:Row W4 wr T lD
 z:Row W4 wr Z Tt
 bel:Below S w wr
section
variable {w wr u:World} {S B T Z:Nat} {x:W8} {b:Sj}
theorem R9.cell(h:R9 w wr S B T Z x b)(W i:Nat)(v:Value)(hW:Z < W)(h1:S < B)(h2:B < T)(h3:T < Z):R9 w (wr.setCell ⟨W,i,none⟩ v) S B T Z x b :=
 ⟨h.x.other _ _ (by show W≠_;omega),h.b.other _ _ (by show W≠_;omega),h.t.other _ _ (by show W≠_;omega),h.z.other _ _ (by show W≠_;omega),h.bel.setCell (p:=⟨W,i,none⟩) (by show _≤W;omega) _⟩
theorem R9.below(h:R9 w wr S B T Z x b)(hb:Below wr.heap.size wr u):R9 w u S B T Z x b :=
 ⟨h.x.below hb,h.b.below hb,h.t.below hb,h.z.below hb,h.bel.trans (hb.mono (by have:=h.x.lt;omega))⟩
theorem R9.drew(h:R9 w wr S B T Z x b):R9 w wr.drew S B T Z x b:=h.below (Below.refl _ _).drew
end
set_option maxRecDepth 100000 in
theorem zT(x:W8)(b:Sj)(w:World):
  Calls prog 197 #[.agg (fw W4 x),.agg (fw B8 b),.agg (fw W4 lD)] w fun e w'=>e = .returned (.agg (fw W4 (cL x b)))∧Below w.heap.size w w':=by
 obtain⟨R,hR⟩:=eY (cL x b);rw[hR];have HR:=SM hR;clear hR
 go_in
 go_upto_region 2 with fail
 obtain⟨hS,hB,hT,hb,hs⟩:=mT w 248 201 296 W4 x B8 b W4 lD;generalize ((w.alloc (.cells (fw W4 x) 248)).alloc (.cells (fw B8 b) 201)).alloc (.cells (fw W4 lD) 296)=w1 at *;obtain⟨hZ,hW,hb2,hs2⟩:=iH w1 248 296 W4 Tt W4 oy;have hs:w1.heap.size=w.heap.size+1+1+1:=hs;rw[hs] at hZ hW hs2;have hK:R9 w ((w1.alloc (.cells (fw W4 Tt) 248)).alloc (.cells (fw W4 oy) 296)) w.heap.size (w.heap.size+1) (w.heap.size+1+1) (w.heap.size+1+1+1) x b:=⟨hS.below hb2,hB.below hb2,hT.below hb2,hZ,bt hb hb2⟩
 generalize (w1.alloc (.cells (fw W4 Tt) 248)).alloc (.cells (fw W4 oy) 296)=w2 at *;clear hS hB hT hb hZ hb2 hs hs2;have l4:w.heap.size+1+1+1 < w.heap.size+1+1+1+1:=om;have l3:w.heap.size+1+1 < w.heap.size+1+1+1:=om;have l2:w.heap.size+1 < w.heap.size+1+1:=om;have l1:w.heap.size < w.heap.size+1:=om;generalize w.heap.size+1+1+1+1=WB at *;generalize w.heap.size+1+1+1=ZB at *;generalize w.heap.size+1+1=TB at *
 generalize w.heap.size+1=BB at *;generalize hSB:w.heap.size=SB at *;have HSB:=SM hSB;clear hSB
 go_wp2_with fail
 go_loopw [8] (fun i wr=>∃ k:Nat,k≤16∧i = .int .i64 k∧R9 w wr SB BB TB ZB x b∧Row W4 wr WB (kU b (4 * k))) (fun i _=>16 - (intOf i).toNat)
 case atStart=>exact⟨0,om,rfl,hK,hW⟩
 case round =>
  clear hK hW;obtain⟨k,hk,rfl,hK,hW⟩:=hrel;have HK:=SM hK;have HW:=SM hW;clear hK hW
  by_cases hlt:k < 16
  ·go_wp2_with fail
   rw[show decide ((k:Int) < 16)=true from dt]
   go_loopw [9] (fun j wr=>∃ j':Nat,j'≤4∧j = .int .i64 j'∧R9 w wr SB BB TB ZB x b∧Row W4 wr WB (kU b (4 * k+j'))) (fun j _=>4 - (intOf j).toNat)
   case atStart=>exact⟨0,om,rfl,HK.o,HW.o⟩
   case round =>
    clear HK HW;obtain⟨j,hj,rfl,hK,hW⟩:=hrel;have HK:=SM hK;have HW:=SM hW;clear hK hW
    by_cases hjt:j < 4
    ·have hwr1:IntKind.i64.wrap (4 * (k:Int))=4 * (k:Int):=wi;have hwr2:IntKind.i64.wrap (4 * (k:Int)+(j:Int))=4 * (k:Int)+(j:Int):=wi;have i1:(0:Int)≤(k:Int):=om;have i2:(k:Int) < 64:=om;have i3:(0:Int)≤4 * (k:Int)+(j:Int):=om;have i4:4 * (k:Int)+(j:Int) < 64:=om;have i5:(4 * (k:Int)+(j:Int)).toNat=4 * k+j:=om
     go_upto_region 8 with fail
     refine yW (tk 0 14 (.brk 14 .done)) (fun u=>u=wr.drew) rfl ?_;replace HK:=SM HK.o.drew;replace HW:=SM HW.o.drew;generalize wr.drew=wr at *;have q1:=HW.o.cell k om;have q2:=HK.o.b.cell (4 * k+j) om;have q3:=HW.o.free k;have hs6:=HW.o.set k om ((kU b (4 * k+j))[k] <<< 8+b[4 * k+j].toUInt32);have e:(4 * k+j) / 4=k:=om;have hs2:kU b (4 * k+(j+1))=(kU b (4 * k+j)).set k ((kU b (4 * k+j))[k] <<< 8+b[4 * k+j].toUInt32):=by
      rw[show 4 * k+(j+1)=4 * k+j+1 from rfl,tx _ _ om,QP]
      simp only[e]
     rw[← hs2] at hs6;have Hs:=SM hs6;replace HK:=SM (HK.o.cell WB k (W4 ((kU b (4 * k+j))[k] <<< 8+b[4 * k+j].toUInt32)) l4 l1 l2 l3);clear hs6 hs2 HW
     repeat(refine yB ?_;walk_nrm)
     refine et rfl rfl (fun K hK=>?_);go_simp;refine hK _ _ (fun _=>True) trivial (al ?_)
     go_wp2_with fail
     go_roundw
     case rel=>exact⟨j+1,om,by go_num,HK.o,Hs.o⟩
     case measure=>simp only[intOf];omega
    ·obtain rfl:j=4:=om
     go_wp2_with fail
     go_roundw
     case rel=>exact⟨k+1,om,by go_num,HK.o,HW.o⟩
     case measure=>simp only[intOf];omega
  ·obtain rfl:k=16:=om;rw[show ((16:Nat):Int)=(16:Int) from rfl]
   replace HW:Hd (Row W4 wr WB (gK (kU b 64) 0)):=HW.o;generalize hva:kU b 64=va at *;have Hva:=SM hva;clear hva
   go_wp2_with fail
   go_loopw [10] (fun i wr=>∃ k:Nat,k≤48∧i = .int .i64 ((k:Int)+16)∧R9 w wr SB BB TB ZB x b∧Row W4 wr WB (gK va k)) (fun i _=>64 - (intOf i).toNat)
   case atStart=>exact⟨0,om,rfl,HK.o,HW.o⟩
   case round =>
    clear HK HW;obtain⟨k,hk,rfl,hK,hW⟩:=hrel;have HK:=SM hK;have HW:=SM hW;clear hK hW
    by_cases hlt:k < 48
    ·have hw1:IntKind.i64.wrap ((k:Int)+16 - 15)=((k+1:Nat):Int):=wi;have hw2:IntKind.i64.wrap ((k:Int)+16 - 2)=((k+14:Nat):Int):=wi;have hw3:IntKind.i64.wrap ((k:Int)+16 - 16)=((k:Nat):Int):=wi;have hw4:IntKind.i64.wrap ((k:Int)+16 - 7)=((k+9:Nat):Int):=wi;have hw5:IntKind.i64.wrap (k:Int)=(k:Int):=wi;have hb1:(0:Int)≤(k:Int)+1:=om;have hb2:(k:Int)+1 < 64:=om;have hb3:(0:Int)≤(k:Int)+14:=om;have hb4:(k:Int)+14 < 64:=om
     have hb5:(0:Int)≤(k:Int):=om;have hb6:(k:Int) < 64:=om;have hb7:(0:Int)≤(k:Int)+9:=om;have hb8:(k:Int)+9 < 64:=om;have hb9:(0:Int)≤(k:Int)+16:=om;have hb10:(k:Int)+16 < 64:=om;have ht1:((k:Int)+1).toNat=k+1:=om;have ht2:((k:Int)+14).toNat=k+14:=om;have ht3:((k:Int)+9).toNat=k+9:=om;have ht4:((k:Int)+16).toNat=k+16:=om;have c1:=HW.o.cell (k+1) om;have c2:=HW.o.cell (k+14) om
     go_upto_region 14 with fail
     clear c1 c2;refine yW (tk 0 6 (.take 7 (tk 10 2 (tk 14 4 (.take 19 (.take 21 (tk 24 2 (.run 6 (.run 8 (.take 9 (tk 12 2 (.take 18 (.run 20 (.run 22 (.take 23 (tk 26 3 (.brk 29 .done))))))))))))))))) (fun u=>u=wr.drew) rfl ?_;replace HK:=SM HK.o.drew;replace HW:=SM HW.o.drew;generalize wr.drew=wr at *;have c1:=HW.o.cell (k+9) om;have c2:=HW.o.cell k om;have q3:=HW.o.free (k+16);have q4:=HW.o.cell (k+16) om
     have hs6:=HW.o.set (k+16) om ((gK va k)[k]+It (gK va k)[k+1]+(gK va k)[k+9]+Iu (gK va k)[k+14]);rw[← nx va k hlt] at hs6;have hk6:=HK.o.cell WB (k+16) (W4 ((gK va k)[k]+It (gK va k)[k+1]+(gK va k)[k+9]+Iu (gK va k)[k+14])) l4 l1 l2 l3;unfold It Iu at hs6 hk6;have Hs:=SM hs6;replace HK:=SM hk6;clear hs6 hk6
     repeat(refine yB ?_;walk_nrm)
     refine yR ?_;refine (eJ _ 7 dc dc _).mono ?_;rintro _ _ ⟨rfl,rfl⟩;refine kS rfl ?_;walk_nrm
     repeat(refine yB ?_;walk_nrm)
     refine yR ?_;refine (eJ _ 18 dc dc _).mono ?_;rintro _ _ ⟨rfl,rfl⟩;refine kS rfl ?_;walk_nrm
     repeat(refine yB ?_;walk_nrm)
     refine yR ?_;refine (eJ _ 17 dc dc _).mono ?_;rintro _ _ ⟨rfl,rfl⟩;refine kS rfl ?_;walk_nrm
     repeat(refine yB ?_;walk_nrm)
     refine yR ?_;refine (eJ _ 19 dc dc _).mono ?_;rintro _ _ ⟨rfl,rfl⟩;refine kS rfl ?_;walk_nrm
     repeat(refine yB ?_;walk_nrm)
     refine et rfl rfl (fun K hK=>?_);go_simp;refine hK _ _ (fun _=>True) trivial (al ?_)
     go_wp2_with fail
     go_roundw
     case rel=>exact⟨k+1,om,by go_num,HK.o,Hs.o⟩
     case measure=>simp only[intOf];omega
    ·obtain rfl:k=48:=om;rw[show ((48:Nat):Int)+16=(64:Int) from rfl]
     replace HW:Hd (Row W4 wr WB (schedule b)):=by
      have h:=HW.o;rw[← Hva.o] at h;exact h
     clear Hva;obtain⟨v,hv⟩:=eY (schedule b);rw[hv] at HW;have Hsc:=SM hv;clear hv;have q1:=HK.o.x.r
     go_upto_region 16 with fail
     obtain⟨hV,hb3,hs3⟩:=dU wr 248 W4 x;have l5:ZB < wr.heap.size:=HK.o.z.lt;have l6:WB < wr.heap.size:=HW.o.lt;have HV:=SM hV;replace HK:=SM (HK.o.below hb3);replace HW:=SM (HW.o.below hb3);clear hV hb3 q1;generalize wr.alloc (.cells (fw W4 x) 248)=w4 at *;generalize wr.heap.size=VB at *
     go_wp2_with fail
     go_loopw [14] (fun i wr=>∃ k:Nat,k≤64∧i = .int .i64 k∧R9 w wr SB BB TB ZB x b∧Row W4 wr WB v∧Row W4 wr VB (nX v (S8.of x) k).v) (fun i _=>64 - (intOf i).toNat)
     case atStart=>exact⟨0,om,rfl,HK.o,HW.o,by rw[nX,Rr];exact HV.o⟩
     case round =>
      clear HK HW HV;obtain⟨k,hk,rfl,hK,hW,hV⟩:=hrel;have HK:=SM hK;have HW:=SM hW;have HV:=SM hV;clear hK hW hV
      by_cases hlt:k < 64
      ·have hsu:=tB v (S8.of x) k hlt;have Hsu:=SM hsu;clear hsu;generalize nX v (S8.of x) k=st at *;have hb5:(0:Int)≤(k:Int):=om;have hb6:(k:Int) < 64:=om
       go_upto_region 19 with fail
       refine yW (tk 0 4 (tk 5 2 (tk 9 2 (tk 14 12 (tk 27 3 (tk 31 3 (.run 4 (.run 7 (.take 8 (.run 11 (tk 12 2 (.take 26 (.take 30 (tk 34 2 .done)))))))))))))) (fun u=>u=wr.drew) rfl ?_;replace HK:=SM HK.o.drew;replace HW:=SM HW.o.drew;replace HV:=SM HV.o.drew;generalize wr.drew=wr at *;have c4:wr.cell? ⟨VB,4,none⟩=some (.int .u32 (wI st.e)):=HV.o.cell 4 dc;have c5:wr.cell? ⟨VB,5,none⟩=some (.int .u32 (wI st.f)):=HV.o.cell 5 dc
       have c6:wr.cell? ⟨VB,6,none⟩=some (.int .u32 (wI st.g)):=HV.o.cell 6 dc;have c7:wr.cell? ⟨VB,7,none⟩=some (.int .u32 (wI st.h)):=HV.o.cell 7 dc;have cw:=HW.o.cell k hlt;have ck:=HK.o.t.cell k hlt
       repeat(refine yB ?_;walk_nrm)
       refine yR ?_;refine (eJ _ 6 dc dc _).mono ?_;rintro _ _ ⟨rfl,rfl⟩;refine kS rfl ?_;walk_nrm
       repeat(refine yB ?_;walk_nrm)
       refine yR ?_;refine (eJ _ 11 dc dc _).mono ?_;rintro _ _ ⟨rfl,rfl⟩;refine kS rfl ?_;walk_nrm
       repeat(refine yB ?_;walk_nrm)
       refine yR ?_;refine (eJ _ 25 dc dc _).mono ?_;rintro _ _ ⟨rfl,rfl⟩;refine kS rfl ?_;walk_nrm
       repeat(refine yB ?_;walk_nrm)
       refine al ?_;clear c4 c5 c6 c7 cw ck;rw[show st.h+(oq st.e 6 ^^^ oq st.e 11 ^^^ oq st.e 25)+(st.e &&& st.f ^^^ (4294967295 ^^^ st.e) &&& st.g)+lD[k]+v[k]=Nz st lD[k] v[k] from rfl]
       obtain⟨T,hT⟩:=eY (Nz st lD[k] v[k]);rw[hT]
       go_upto_region 20 with fail
       refine yW (tk 0 2 (tk 3 2 (tk 7 2 (tk 11 17 (.run 2 (.run 5 (.take 6 (.run 9 (.take 10 (tk 28 2 .done)))))))))) (fun u=>u=wr.drew) rfl ?_;replace HK:=SM HK.o.drew;replace HW:=SM HW.o.drew;replace HV:=SM HV.o.drew;generalize wr.drew=wr at *;have c0:wr.cell? ⟨VB,0,none⟩=some (.int .u32 (wI st.a)):=HV.o.cell 0 dc;have c1:wr.cell? ⟨VB,1,none⟩=some (.int .u32 (wI st.b)):=HV.o.cell 1 dc;have c2:wr.cell? ⟨VB,2,none⟩=some (.int .u32 (wI st.c)):=HV.o.cell 2 dc
       repeat(refine yB ?_;walk_nrm)
       refine yR ?_;refine (eJ _ 2 dc dc _).mono ?_;rintro _ _ ⟨rfl,rfl⟩;refine kS rfl ?_;walk_nrm
       repeat(refine yB ?_;walk_nrm)
       refine yR ?_;refine (eJ _ 13 dc dc _).mono ?_;rintro _ _ ⟨rfl,rfl⟩;refine kS rfl ?_;walk_nrm
       repeat(refine yB ?_;walk_nrm)
       refine yR ?_;refine (eJ _ 22 dc dc _).mono ?_;rintro _ _ ⟨rfl,rfl⟩;refine kS rfl ?_;walk_nrm
       repeat(refine yB ?_;walk_nrm)
       refine al ?_;clear c0 c1 c2;have hstep:=Iq st lD[k] v[k];rw[← Hsu.o,hT] at hstep;rw[show (oq st.a 2 ^^^ oq st.a 13 ^^^ oq st.a 22)+(st.a &&& st.b ^^^ st.a &&& st.c ^^^ st.b &&& st.c)=Qb st from rfl]
       obtain⟨y,hy⟩:=eY st.v;have hd:st.d=y[3]:=by rw[← hy];rfl
       rw[hy,hd] at hstep;rw[hy] at HV;have Hstep:=SM hstep;clear hstep hd hy hT;generalize Qb st=U at *;have HV:Hd (Row W4 wr VB (Tj y 7)):=by have h:=HV.o;rw[← Ef y] at h;exact h
       clear Hsu
       go_wp2_with fail
       go_loopw [17] (fun i wr=>∃ m:Nat,m≤7∧i = .int .i64 m∧R9 w wr SB BB TB ZB x b∧Row W4 wr WB v∧Row W4 wr VB (Tj y m)) (fun i _=>(intOf i).toNat)
       case atStart=>exact⟨7,om,rfl,HK.o,HW.o,HV.o⟩
       case round =>
        clear HK HW HV;obtain⟨m,hm,rfl,hK,hW,hV⟩:=hrel;have HK:=SM hK;have HW:=SM hW;have HV:=SM hV;clear hK hW hV
        by_cases hm0:0 < m
        ·obtain⟨m,rfl⟩ : ∃ q,m=q+1:=⟨m - 1,om⟩;have e1:IntKind.i64.wrap (((m+1:Nat):Int) - 1)=(m:Int):=wi;have d1:decide (((m+1:Nat):Int) > 0)=true:=dt;have c1:=HV.o.cell m om;rw[Ph y m om] at c1;have c2:=HV.o.cell (m+1) om;have q3:=HV.o.free (m+1);have hs:=HV.o.set (m+1) om y[m];rw[Ir y m om] at hs;have HV2:=SM hs;replace HK:=SM (HK.o.cell VB (m+1) (W4 y[m]) l5 l1 l2 l3);replace HW:=SM (HW.o.other ⟨VB,m+1,none⟩ (W4 y[m]) (by show VB≠_;omega))
         clear hs HV;have i1:(0:Int)≤(m:Int):=om;have i2:(m:Int) < 8:=om;have i3:(0:Int)≤(m:Int)+1:=om;have i4:(m:Int)+1 < 8:=om;have i5:((m:Int)+1).toNat=m+1:=om;have i6:(m:Int)+1 > 0:=om;rw[show ((m+1:Nat):Int)=(m:Int)+1 from rfl] at e1 d1 ⊢
         go_wp2_with fail
         go_roundw
         case rel=>exact⟨m,om,rfl,HK.o,HW.o,HV2.o⟩
         case measure=>simp only[intOf];omega
        ·obtain rfl:m=0:=om;rw[show ((0:Nat):Int)=(0:Int) from rfl]
         have c1:=HV.o.cell 4 om;rw[show (Tj y 0)[4]=y[3] from by simp[Tj]] at c1
         have q3:=HV.o.free 4;have q4:=HV.o.free 0;have c2:=HV.o.cell 0 om;have hs:=(HV.o.set 4 om (y[3]+T)).set 0 om (T+U);rw[Hstep.o] at hs;have HV2:=SM hs;replace HK:=SM ((HK.o.cell VB 4 (W4 (y[3]+T)) l5 l1 l2 l3).cell VB 0 (W4 (T+U)) l5 l1 l2 l3);replace HW:=SM ((HW.o.other ⟨VB,4,none⟩ (W4 (y[3]+T)) (by show VB≠_;omega)).other ⟨VB,0,none⟩ (W4 (T+U)) (by show VB≠_;omega))
         clear hs HV
         go_wp2_with fail
         go_roundw
         case rel=>exact⟨k+1,om,by go_num,HK.o,HW.o,HV2.o⟩
         case measure=>simp only[intOf];omega
      ·obtain rfl:k=64:=om;rw[show ((64:Nat):Int)=(64:Int) from rfl]
       have hfin:nW (nX v (S8.of x) 64).v x 8=R:=by rw[Bf,← HR.o,← Hsc.o,cL]
       have Hfin:=SM hfin;clear hfin Hsc;generalize (nX v (S8.of x) 64).v=y at *
       go_wp2_with fail
       replace HV:Hd (Row W4 wr VB (nW y x 0)):=HV.o
       go_loopw [18] (fun i wr=>∃ k:Nat,k≤8∧i = .int .i64 k∧R9 w wr SB BB TB ZB x b∧Row W4 wr VB (nW y x k)) (fun i _=>8 - (intOf i).toNat)
       case atStart=>exact⟨0,om,rfl,HK.o,HV.o⟩
       case round =>
        clear HK HW HV;obtain⟨k,hk,rfl,hK,hV⟩:=hrel;have HK:=SM hK;have HV:=SM hV;clear hK hV
        by_cases hlt:k < 8
        ·have hb5:(0:Int)≤(k:Int):=om;have hb6:(k:Int) < 8:=om
         go_upto_region 30 with fail
         refine yW (tk 0 9 (.brk 9 .done)) (fun u=>u=wr.drew) rfl ?_;replace HK:=SM HK.o.drew;replace HV:=SM HV.o.drew;generalize wr.drew=wr at *;have q1:=HV.o.cell k hlt;have q2:=HK.o.x.cell k hlt;have q3:=HV.o.free k;have hs:=HV.o.set k hlt ((nW y x k)[k]+x[k]);rw[← mr y x k hlt] at hs;have HV2:=SM hs;replace HK:=SM (HK.o.cell VB k (W4 ((nW y x k)[k]+x[k])) l5 l1 l2 l3);clear hs HV
         repeat(refine yB ?_;walk_nrm)
         refine et rfl rfl (fun K hK=>?_);go_simp;refine hK _ _ (fun _=>True) trivial (al ?_)
         go_wp2_with fail
         go_roundw
         case rel=>exact⟨k+1,om,by go_num,HK.o,HV2.o⟩
         case measure=>simp only[intOf];omega
        ·obtain rfl:k=8:=om;rw[Hfin.o] at HV;have q1:=HV.o.r;have q2:=HK.o.z.k;have hlt':w.heap.size≤ZB:=by have:=HSB.o;omega
         go_wp2_with fail
         refine bodyPost_ret (i8 rfl _ _ ZB 0 (fw W4 R) rfl (HK.o.z.all R).r) rfl ⟨rfl,?_⟩;exact aa (by have h:=HK.o.bel;rw[← HSB.o] at h;exact h) hlt' _ _
end
section
open Go.RowKit Go.ChangeMaps
section
variable {base n:Nat} {p:DP} {D:DM}
theorem OJ(w:World)(k:Int)(h:RM w base p n D)(hk:decide (0≤k)=false):
  Calls prog 173 #[.pointer (some ⟨p.B,0,none⟩),.int .i64 k] w fun e w'=>e = .returned (.bool false)∧w=w':=by
 go_in
 go_wp2
 go_ret
 exact⟨rfl,rfl⟩
theorem KS(w:World)(k:Int)(h:RM w base p n D)(hk:decide (0≤k)=true)(hn:n≤5000):
  Calls prog 173 #[.pointer (some ⟨p.B,0,none⟩),.int .i64 k] w fun e w'=>e = .returned (.bool (decide (k < n)))∧w=w':=by
 obtain⟨c0,-⟩:=h.cells;clear h;have hk2:0≤k:=by simpa using hk
 go_in
 go_wp2
 all_goals
  go_ret
  first
   | exact⟨rfl,rfl⟩
   | exact⟨ret_bool sO,rfl⟩
theorem qw(w:World)(k:Int)(h:RM w base p n D)(hl:D.st.length=n)(hn:n≤5000):
  Calls prog 173 #[.pointer (some ⟨p.B,0,none⟩),.int .i64 k] w fun e w'=>e = .returned (.bool (kH D k))∧w=w':=by
 by_cases hk:decide (0≤k)=true
 ·have:=KS w k h hk hn;unfold kH;rw[hk,hl];simpa using this
 ·have hk':decide (0≤k)=false:=by simpa using hk
  have:=OJ w k h hk';unfold kH;rw[hk'];simpa using this
theorem lP(w:World)(h:RM w base p n D):
  Calls prog 80 #[.pointer (some ⟨p.B,0,none⟩)] w fun e w'=>e = .returned (.int .i64 n)∧w=w':=by
 obtain⟨c0,-⟩:=h.cells;clear h
 go_in
 go_wp2
 go_ret
 exact⟨rfl,rfl⟩
theorem FU(w:World)(h:RM w base p n D):
  Calls prog 54 #[.pointer (some ⟨p.B,0,none⟩)] w fun e w'=>e = .returned (.bool D.down)∧w=w':=by
 obtain⟨-,-,-,c3,-⟩:=h.cells;clear h
 go_in
 go_wp2
 go_ret
 exact⟨rfl,rfl⟩
theorem RM.setDown{w:World}(h:RM w base p n D)(d:Bool):RM (setAt w p.B 3 #[.bool d]) base p n { D with down:=d }:=by
 have ho:=Ob.setAt w p.B 3 #[.bool d];obtain⟨n1,n2,n3,n4,_⟩:=h.ok.ne;obtain⟨M,hM,hM2⟩:=h.fa;obtain⟨M',hM',hM2'⟩:=h.cr;have hc:∀ g,g ∈ p.cb→g≠p.B:=fun g hg e=>(h.ok.c g hg).1 (e ▸ fE p);refine⟨h.ok,?_,?_,by rw[ho.readAt n1.symm];exact h.sr,by rw[ho.canAt n1.symm];exact h.sk,h.sc,ho.own h.op (h.ok.o' (fE p)),ho.im n2.symm h.la,⟨M,ho.im n3.symm hM,hM2⟩,⟨M',ho.im n4.symm hM',fun k hk=>(hM2' k hk).same (fun b hb _=>ho.block b (hc b hb))⟩,fun b hb=>by rw[ho.size];exact h.lt b hb⟩
 ·rw[ae w p.B 0 7 _ h.r h.k 3 _ om sm];rfl
 ·rw[ap _ _ _ _ _ _ _ (aC h.k 3 1 om)];exact h.k
theorem RM.setSteps{w:World}(h:RM w base p n D)(s:Int)(hs:D.steps≤s):RM (setAt w p.B 4 #[.int .i64 s]) base p n { D with steps:=s }:=by
 have ho:=Ob.setAt w p.B 4 #[.int .i64 s];obtain⟨n1,n2,n3,n4,_⟩:=h.ok.ne;obtain⟨M,hM,hM2,hM3⟩:=h.fa;obtain⟨M',hM',hM2'⟩:=h.cr;have hc:∀ g,g ∈ p.cb→g≠p.B:=fun g hg e=>(h.ok.c g hg).1 (e ▸ fE p);refine⟨h.ok,?_,?_,by rw[ho.readAt n1.symm];exact h.sr,by rw[ho.canAt n1.symm];exact h.sk,h.sc,ho.own h.op (h.ok.o' (fE p)),ho.im n2.symm h.la,⟨M,ho.im n3.symm hM,fun k hk=>hM2 k (by have:s < k:=hk;omega),hM3⟩,⟨M',ho.im n4.symm hM',fun k hk=>(hM2' k (by have:s < k:=hk;omega)).same (fun b hb _=>ho.block b (hc b hb))⟩,fun b hb=>by rw[ho.size];exact h.lt b hb⟩
 ·rw[ae w p.B 0 7 _ h.r h.k 4 _ om sm];rfl
 ·rw[ap _ _ _ _ _ _ _ (aC h.k 4 1 om)];exact h.k
theorem zi:p.has p.B:=.inl (fE p)
theorem Em(w:World)(h:RM w base p n D):
  Calls prog 34 #[.pointer (some ⟨p.B,0,none⟩)] w fun e w'=>e = .returned (.tuple #[])∧bm w base p n (bT D) w':=by
 obtain⟨-,-,-,c3,-⟩:=h.cells;have f3:=h.free 3;have hd:=h.setDown false;have he:=aK (aC h.k 3 1 om) (.bool false);have Hn:Hd (bm w base p n (bT D) (w.setCell ⟨p.B,3,none⟩ (.bool false))):=by
  rw[he];exact⟨p,rfl,hd,(Ob.setAt w p.B 3 _).kb zi,fun b hb=>.inl hb⟩
 clear h hd he
 go_in
 go_wp2
 go_end0
 exact⟨rfl,Hn.o⟩
end
end
end Go.Proofs.YtlcfaaodmickbaaGreatDoor
