/- Part 16 of the proof: texts merged and shortened by a program. No conditions. -/
import Derived.Defers
import Derived.Recover
import Derived.Laws.Pointers
import Derived.Stop.Asserts
import Derived.LoopN
import Derived.Test.YtlcfaaodmickbaaGreatDoorPc15
set_option linter.unusedSimpArgs false
set_option linter.unusedVariables false
set_option maxRecDepth 100000
set_option maxHeartbeats 8000000
namespace Go.Proofs.YtlcfaaodmickbaaGreatDoor
open Go.RowKit Go.Proofs.Tryz
section
open Go.RowKit Go.ChangeMaps
def Rb:ByteArray:=⟨#[101,110,99,114,121,112,116]⟩
def Rc:ByteArray:=⟨#[112,114,111,116,101,99,116]⟩
theorem CH(key:RW):bv ((cF key.toList QB).toList.take 16)=fw B8 (AD key):=by
 apply BE
 apply List.ext_getElem
 ·simp
 ·intro i h1 h2;have hi:i < 16:=by simpa using h2
  simp[AD,eO _ i (show i < 32 by omega)]
@[go_sem] theorem Pe(w:World)(a:Option Addr)(c:Nat):(Instr.arrayAt 22 (.slice a 16 c)).run prog w = .ok (.pointer a) w:=by
 simp[Instr.arrayAt,run_underlying underlying22]
theorem Oj{w:World}{b n c:Nat}{l:List UInt8}(h:Bs w (some ⟨b,0,none⟩) n c l)(h0:0 < n):readAt w b 0 n=some (bv l):=by
 obtain⟨b',o',e,hr⟩:=h.2.2.2.2 h0;cases e;exact hr
theorem BD{w:World}{b n c:Nat}{l:List UInt8}(h:Bs w (some ⟨b,0,none⟩) n c l)(h0:0 < n):b < w.heap.size:=ac (Oj h h0)
theorem Bs.low{w u:World}{E b o n c:Nat}{l:List UInt8}(h:Bs w (some ⟨b,o,none⟩) n c l)(hb:Below E w u)(hE:b < E):Bs u (some ⟨b,o,none⟩) n c l :=
 h.kb (X:=fun i=>E≤i) ⟨hb.os,hb.tape,hb.output,hb.size,fun k _ hne=>hb.block k om⟩ (fun g hg=>by cases hg;show ¬ E≤b;omega)
theorem o9(key:RW)(usage:UInt8)(nonce:N8)(ad:Option Addr)(n c:Nat)(b:List UInt8)(w:World)(hb:Bs w ad n c b)(hn:n≤1000000):
  Calls prog 67 #[.agg (fw B8 key),.int .u8 (bI usage),.agg (fw B8 nonce),.slice ad n c] w fun e w'=>(∃ v,e = .returned v∧ao w' w.heap.size v (lz key usage nonce b))∧Below w.heap.size w w':=by
 have hbn:b.length=n:=hb.1;have Hb:=SM hb;clear hb;obtain⟨X,hX⟩:=eY (lz key usage nonce b);rw[hX];have HX:=SM hX;clear hX
 go_in
 go_upto_region 1 with fail
 obtain⟨hA,hN,hbb,hs⟩:=iH w 22 107 B8 key B8 nonce;generalize (w.alloc (.cells (fw B8 key) 22)).alloc (.cells (fw B8 nonce) 107)=w1 at *;have l1:w.heap.size < w.heap.size+1:=om;have HA:=SM hA;have HN:=SM hN;have HB:=SM hbb;clear hA hN hbb;have hz1:w.heap.size+2≤w1.heap.size:=om;clear hs;generalize w.heap.size+1=NB at *
 go_wp2_with fail
 refine (nc (some ⟨w.heap.size,0,none⟩) 16 16 key.toList Rb 16 w1 (HA.o.bs dc) dc dc dc dc).mono ?_;rintro _ w2 ⟨⟨eb,ec,rfl,he⟩,hb2⟩;have hek:=CH key;rw[show Rb.data.toList=QB from rfl] at he
 have her:=Oj he dc;rw[hek] at her;clear hek he;replace HA:=SM (HA.o.below hb2);replace HN:=SM (HN.o.below hb2);replace HB:=SM (bt HB.o hb2);have hz2:w.heap.size+2≤w2.heap.size:=by have:=hb2.size;omega
 clear hb2;obtain⟨e,hkey⟩:=eY (AD key);rw[hkey] at her;have Hke:=SM hkey;clear hkey
 go_upto_region 2 with fail
 clear her;obtain⟨hE,hb3,hs3⟩:=dU w2 22 B8 e;generalize w2.alloc (.cells (fw B8 e) 22)=w3 at *;replace HA:=SM (HA.o.below hb3);replace HN:=SM (HN.o.below hb3);replace HB:=SM (bt HB.o hb3);have HE:=SM hE;clear hE hb3;have lE:w.heap.size+2≤w2.heap.size:=hz2;generalize w2.heap.size=EB at *;clear hs3 hz1 hz2
 go_wp2_with fail
 refine (nc (some ⟨w.heap.size,0,none⟩) 16 16 key.toList Rc 32 w3 (HA.o.bs dc) dc dc dc dc).mono ?_;rintro _ w4 ⟨⟨mb,mc,rfl,hm⟩,hb4⟩;rw[show Rc.data.toList=QC from rfl,List.take_of_length_le sm] at hm
 have Hm:Hd (Bs w4 (some ⟨mb,0,none⟩) 32 mc (AE key).toList):=SM hm;replace HE:=SM (HE.o.below hb4);replace HN:=SM (HN.o.below hb4);replace HB:=SM (bt HB.o hb4);clear hm hb4 HA
 go_upto_region 3 with fail
 have hdb:=(Sy w4).drew;refine yW (.take 1 (tk 3 3 (.run 0 (.run 2 (.run 6 (.run 7 (.take 8 .done))))))) (fun u=>Row B8 u EB e∧Row B8 u NB nonce) ⟨HE.o.below hdb,HN.o.below hdb⟩ ?_;replace HE:=SM (HE.o.below hdb);replace HN:=SM (HN.o.below hdb);replace Hm:=SM (Hm.o.below hdb);replace HB:=SM (bt HB.o hdb);clear hdb;generalize w4.drew=w5 at *
 repeat((first|refine yO ?_|refine yM ?_|refine yF rfl rfl (fun w' hC'=>by obtain⟨c1,c2⟩:=hC';have c3:=c1.r;have c4:=c2.r;go_simp;first|done|exact rfl) ?_);walk_nrm)
 have hb6:=ba (.cells #[] 5) (Sy w5);have ho6:=ao.empty w5 w5.heap.size (Nat.le_refl _);refine fJ rfl rfl ?_;apply Exists.intro;apply Exists.intro;refine⟨?_,?_⟩;(go_simp;exact⟨rfl,rfl⟩);refine kC ⟨HE.o.below hb6,HN.o.below hb6⟩ ?_;walk_nrm;have hz5:w.heap.size+2≤w5.heap.size:=by have:=HE.o.lt;omega
 have hlE:=HE.o.lt;have hlN:=HN.o.lt;have hlm:=BD Hm.o dc;obtain⟨v7,w7,hr7,ho7,hb7,_⟩:=qU (w5.alloc (.cells #[] 5)) w5.heap.size 39 _ [] ho6 (some ⟨NB,0,none⟩) 8 8 nonce.toList ((HN.o.below hb6).bs dc) sm sm;refine qL rfl rfl _ _ _ rfl _ _ v7 w7 rfl rfl hr7 ?_;have hb67:Below w5.heap.size w5 w7:=hb6.trans hb7;rw[List.nil_append] at ho7;have HO7:=SM ho7;have hE7:=HE.o.below hb67;have hN7:=HN.o.below hb67
 refine kC ⟨hE7,hN7⟩ ?_;walk_nrm;replace HE:=SM hE7;replace HN:=SM hN7;replace Hm:=SM (Hm.o.below hb67);replace HB:=SM (bt HB.o hb67);have hz7:w5.heap.size≤w7.heap.size:=hb67.size;clear hb6 ho6 hb7 hb67 hr7 ho7 hE7 hN7;generalize w5.heap.size=E5 at *;refine yR ?_;refine (vy e nonce ad n c b w7 (Hb.o.below HB.o) om).mono ?_;rintro _ w8 ⟨⟨v8,rfl,ho8⟩,hb8⟩;refine kS ⟨HE.o.below hb8,HN.o.below hb8⟩ ?_;walk_nrm
 replace HE:=SM (HE.o.below hb8);replace HN:=SM (HN.o.below hb8);replace Hm:=SM (Hm.o.below hb8);replace HB:=SM (bt HB.o hb8);replace HO7:=SM (HO7.o.below hb8);have hz8:E5≤w8.heap.size:=by have:=hb8.size;omega
 obtain⟨a8,k8,rfl,hbs8⟩:=ho8.bs;rw[dx,hbn] at hbs8 ⊢;obtain⟨v9,w9,hr9,ho9,hg9,_⟩:=xR w8 E5 39 v7 nonce.toList HO7.o a8 n k8 (fm e nonce b) hbs8 (by simp[hbn];omega) hz8
 have hb9:Below E5 w8 w9:=dy (Below.refl _ _) hg9 hz8 (fun g hg=>(HO7.o.in g hg).1);refine qL rfl rfl _ _ _ rfl _ _ v9 w9 rfl rfl hr9 ?_;have hE9:=HE.o.same (hb9.block _ om);have hN9:=HN.o.same (hb9.block _ om);refine kC ⟨hE9,hN9⟩ ?_;walk_nrm
 repeat(refine yA ?_;walk_nrm)
 refine al ?_;have Hm9:Hd (Bs w9 (some ⟨mb,0,none⟩) 32 mc (AE key).toList):=SM (Hm.o.low hb9 hlm);replace HB:=SM (HB.o.trans (hb9.mono om));have hz9:E5≤w9.heap.size:=by have:=hb9.size;omega
 obtain⟨F,hF⟩:=eY (nonce.toList ++ fm e nonce b);have hFl:F.length=8+n:=by rw[← hF];simp[hbn]
 rw[hF] at ho9;obtain⟨a9,k9,rfl⟩:=ho9.len;rw[hFl] at ho9 ⊢;have HO9:=SM ho9;have HF:=SM hF;have HFl:=SM hFl;clear hr9 ho9 hg9 hb9 hE9 hN9 hF hFl HE HN Hm HO7 hbs8 ho8 hb8
 go_upto_region 4 with fail
 have hb10:=ba (.cells #[.int .u8 (bI usage)] 5) (Sy w9);have ho10:ao (w9.alloc (.cells #[.int .u8 (bI usage)] 5)) w9.heap.size (.slice (some ⟨w9.heap.size,0,none⟩) 1 1) [usage]:=ao.made w9 w9.heap.size [usage] sm (by simp[maxLen]) (Nat.le_refl _)
 have Ho10:=SM ho10;obtain⟨a10,k10,he10,hbs10⟩:=(HO9.o.below hb10).bs;rw[HFl.o] at he10 hbs10;simp only[Value.slice.injEq,true_and] at he10;obtain⟨rfl,rfl⟩:=he10;clear ho10
 go_wp2_with (at_builtin;refine bJ rfl _ _ rfl w9.heap.size _ [usage] rfl Ho10.o _ _ _ F rfl hbs10 ?c1 ?c2 ?_)
 case c1=>rw[HFl.o];simp;omega
 case c2=>simp
 intro a11 k11 w11 ho11 hb11 hn11;have hbb:Below w9.heap.size w9 w11:=hb10.trans hb11;obtain⟨a11',k11',he11,hbs11⟩:=ho11.bs;have hl11:(usage :: F).length=9+n:=by rw[List.length_cons,HFl.o];omega
 rw[hl11] at he11 hbs11;rw[he11];have Hs11:=SM hbs11;replace HO9:=SM (HO9.o.below hbb);replace Hm9:=SM (Hm9.o.below hbb);replace HB:=SM (bt HB.o hbb);have hz11:E5≤w11.heap.size:=by have:=hbb.size;omega
 clear hb10 hb11 hn11 ho11 hbb he11 hbs11 hl11 hbs10 Ho10
 go_wp2_with fail
 refine (s7 (some ⟨mb,0,none⟩) 32 mc (AE key).toList a11' (9+n) k11' (usage :: F) w11 Hm9.o dc Hs11.o om).mono ?_;rintro _ w12 ⟨rfl,hb12⟩;obtain⟨C,hC⟩:=eY (xA (AE key).toList (usage :: F));rw[hC];have HC:=SM hC;clear hC;replace HO9:=SM (HO9.o.below hb12);replace HB:=SM (bt HB.o hb12);have hz12:E5≤w12.heap.size:=by have:=hb12.size;omega
 clear hb12 Hm9 Hs11;obtain⟨hI,hb13,hs13⟩:=dU w12 35 B8 C
 go_upto_region 5 with fail
 generalize w12.alloc (.cells (fw B8 C) 35)=w13 at *;replace HO9:=SM (HO9.o.below hb13);replace HB:=SM (bt HB.o hb13);have hci:=(hI.bs dc).take 16 32 dc dc (Nat.le_refl _);have Hci:=SM hci;clear hI hb13 hci;generalize w12.heap.size=I at *;have hz13:E5≤w13.heap.size:=om;have hsl:=iS
 go_wp2_with (at_builtin;refine bJ rfl _ _ rfl E5 _ F rfl HO9.o _ _ _ (C.toList.take 16) rfl Hci.o ?c3 ?c4 ?_)
 case c3=>rw[HFl.o];simp;omega
 case c4=>exact hz13
 intro a14 k14 w14 ho14 hb14 hn14;have hfin:F ++ C.toList.take 16=X:=by
  rw[← HX.o,← HC.o,← HF.o,← Hke.o];rfl
 rw[hfin] at ho14;replace HB:=SM (HB.o.trans (hb14.mono om));have HO14:=SM ho14;clear hb14 hn14 ho14 hfin
 go_wp2
 go_ret
 exact⟨⟨_,rfl,HO14.o.wider om⟩,HB.o⟩
end
section
open Go.RowKit Go.ChangeMaps
theorem iR(key:RW)(u:UInt8)(nonce:N8)(b:List UInt8):(lz key u nonce b).length=b.length+24:=by
 simp only[lz,dO,fq,List.length_append];simp;omega
theorem gZ(r s:ByteArray)(hr:r.size≤200)(hs:s.size≤200):(bR r [s]).length≤1000:=by
 have e1:r.data.toList.length=r.size:=rfl;have e2:s.data.toList.length=s.size:=rfl;simp[bR,iI,gi,my,e1,e2];omega
def LA(key:RW)(nonce:N8)(r s:ByteArray)(st en:Nat)(k:RX)(r2 s2:ByteArray)(t m q:Nat):List UInt8 :=
 zW (lz key 2 nonce (fR r [s] st en k)) (lz k 11 nonce (bZ r2 [s2] t m q))
theorem DY(key:RW)(nonce:N8)(r s:ByteArray)(ad:Option Addr)(c st en:Nat)(k:RX)(r2 s2:ByteArray)(ad2:Option Addr)(c2 t m q:Nat)(w:World)
  (h:aM w ad 1 c [s]) (hr:r.size≤200) (hs:s.size≤200) (hst:st≤1099511627776) (hen:en≤1099511627776)
  (h2:aM w ad2 1 c2 [s2]) (hr2:r2.size≤200) (hs2:s2.size≤200) (ht:t≤1099511627776) (hm:m≤999999) (hq:q < 4294967296) :
  Calls prog 41 #[.agg (fw B8 key),.agg (fw B8 nonce),.agg (tv r ad 1 c (st:Nat) (en:Nat) k),.agg (St r2 ad2 1 c2 (t:Nat) (m:Nat) (q:Nat))] w fun e w'=>(∃ v,e = .returned v∧ao w' w.heap.size v (LA key nonce r s st en k r2 s2 t m q))∧Below w.heap.size w w':=by
 have H:=SM h;have H2:=SM h2;clear h h2
 go_in
 go_upto_region 1 with fail
 have HK0:Hd (∀ u v:World,u=((((w.alloc (.cells (fw B8 key) 22)).alloc (.cells (fw B8 nonce) 107)).alloc (.cells (tv r ad 1 c (st:Nat) (en:Nat) k) 97)).alloc (.cells (St r2 ad2 1 c2 (t:Nat) (m:Nat) (q:Nat)) 99))→Row B8 u w.heap.size key∧Row B8 u (w.heap.size+1) nonce∧oB u (w.heap.size+1+1) r ad 1 c (st:Nat) (en:Nat) k∧gy u (w.heap.size+1+1+1) r2 ad2 1 c2 (t:Nat) (m:Nat) (q:Nat)∧Below w.heap.size w u):=by
  intro u v hu;subst hu;obtain⟨hA,hN,hbb,hsz⟩:=iH w 22 107 B8 key B8 nonce;generalize (w.alloc (.cells (fw B8 key) 22)).alloc (.cells (fw B8 nonce) 107)=w1 at *;have hT:=oB.new w1 r ad 1 c (st:Nat) (en:Nat) k;have hb3:=ba (.cells (tv r ad 1 c (st:Nat) (en:Nat) k) 97) (Sy w1);have hs3:(w1.alloc (.cells (tv r ad 1 c (st:Nat) (en:Nat) k) 97)).heap.size=w1.heap.size+1:=sm;generalize w1.alloc (.cells (tv r ad 1 c (st:Nat) (en:Nat) k) 97)=w2 at *
  have hU:=gy.made w2 r2 ad2 1 c2 (t:Nat) (m:Nat) (q:Nat);have hb4:=ba (.cells (St r2 ad2 1 c2 (t:Nat) (m:Nat) (q:Nat)) 99) (Sy w2);rw[hsz] at hT hs3;rw[hs3] at hU;exact⟨(hA.below hb3).below hb4,(hN.below hb3).below hb4,hT.below hb4,hU,bt (bt hbb hb3) hb4⟩
 obtain⟨u0,hu0⟩:=eY ((((w.alloc (.cells (fw B8 key) 22)).alloc (.cells (fw B8 nonce) 107)).alloc (.cells (tv r ad 1 c (st:Nat) (en:Nat) k) 97)).alloc (.cells (St r2 ad2 1 c2 (t:Nat) (m:Nat) (q:Nat)) 99));obtain⟨hA,hN,hT,hU,hB⟩:=HK0.o u0 w hu0.symm;rw[hu0];have HA:=SM hA;have HN:=SM hN;have HT:=SM hT;have HU:=SM hU;have HB:=SM hB;clear hA hN hT hU hB HK0 hu0;have hz:w.heap.size≤u0.heap.size:=HB.o.size
 generalize w.heap.size+1+1+1=AB at *;generalize w.heap.size+1+1=TB at *;generalize w.heap.size+1=NB at *;have hdb:=(Sy u0).drew;replace HA:=SM (HA.o.below hdb);replace HN:=SM (HN.o.below hdb);replace HT:=SM (HT.o.below hdb);replace HU:=SM (HU.o.below hdb);replace HB:=SM (bt HB.o hdb);refine yW (tk 0 3 (.run 3 (.run 4 (.take 5 .done)))) (fun u=>Row B8 u w.heap.size key∧Row B8 u NB nonce∧oB u TB r ad 1 c (st:Nat) (en:Nat) k) ⟨HA.o,HN.o,HT.o⟩ ?_
 clear hdb hz;generalize u0.drew=u1 at *
 repeat((first|refine yO ?_|refine yM ?_|refine yF rfl rfl (fun w' hC'=>by obtain⟨e1,e2,e3⟩:=hC';have c1:=e1.r;have c2:=e2.r;have c3:=e3.cells.2.2.2.2;go_simp;first|done|exact rfl) ?_);walk_nrm)
 refine yR ?_;refine (Ab r s ad c st en k u1 (H.o.below HB.o) hr hs hst hen).mono ?_;rintro _ u2 ⟨⟨v,rfl,ho⟩,hb⟩;replace HA:=SM (HA.o.below hb);replace HN:=SM (HN.o.below hb);replace HT:=SM (HT.o.below hb);replace HU:=SM (HU.o.below hb);replace HB:=SM (bt HB.o hb);have hlT:(fR r [s] st en k).length≤2000:=by
  have:=gZ r s hr hs;simp only[fR,List.length_append,aL];simp;omega
 obtain⟨nT,hnT⟩:=eY ((fR r [s] st en k).length);obtain⟨aT,cT,rfl,hsT⟩:=ho.bs;rw[hnT] at hsT hlT ⊢;refine kS ⟨HA.o,HN.o,HT.o⟩ ?_;walk_nrm;clear ho hb;refine yR ?_;refine (o9 key 2 nonce aT nT cT _ u2 hsT om).mono ?_;rintro _ u3 ⟨⟨v,rfl,ho⟩,hb⟩;replace HA:=SM (HA.o.below hb);replace HN:=SM (HN.o.below hb);replace HT:=SM (HT.o.below hb);replace HU:=SM (HU.o.below hb);replace HB:=SM (bt HB.o hb);refine kS ⟨HA.o,HN.o,HT.o⟩ ?_;walk_nrm
 have hlS:(lz key 2 nonce (fR r [s] st en k)).length=nT+24:=by rw[iR,hnT]
 obtain⟨aS,cS,rfl,hsS⟩:=ho.bs;rw[hlS] at hsS ⊢;have HS:=SM hsS;clear ho hb hsT hsS hlS
 repeat(refine yA ?_;walk_nrm)
 refine al ?_
 go_upto_region 2 with fail
 have hdb:=(Sy u3).drew;replace HN:=SM (HN.o.below hdb);replace HT:=SM (HT.o.below hdb);replace HU:=SM (HU.o.below hdb);replace HB:=SM (bt HB.o hdb);replace HS:=SM (HS.o.below hdb);refine yW (tk 0 4 (.run 4 (.run 5 (.take 6 .done)))) (fun u=>Row B8 u NB nonce∧oB u TB r ad 1 c (st:Nat) (en:Nat) k∧gy u AB r2 ad2 1 c2 (t:Nat) (m:Nat) (q:Nat)) ⟨HN.o,HT.o,HU.o⟩ ?_;clear hdb HA;generalize u3.drew=u4 at *
 repeat((first|refine yO ?_|refine yM ?_|refine yF rfl rfl (fun w' hC'=>by obtain⟨e1,e2,e3⟩:=hC';have c1:=e1.r;have c2:readAt w' TB 4 16=some (fw B8 k):=JW e2;have c3:=e3.r;go_simp;first|done|exact rfl) ?_);walk_nrm)
 refine yR ?_;refine (zS r2 s2 ad2 c2 t m q u4 (H2.o.below HB.o) hr2 hs2 ht hm hq).mono ?_;rintro _ u5 ⟨⟨v,rfl,ho⟩,hb⟩;replace HN:=SM (HN.o.below hb);replace HT:=SM (HT.o.below hb);replace HU:=SM (HU.o.below hb);replace HB:=SM (bt HB.o hb);replace HS:=SM (HS.o.below hb);have hlA:(bZ r2 [s2] t m q).length≤2000:=by
  have:=gZ r2 s2 hr2 hs2;simp only[bZ,List.length_append,aL];simp;omega
 obtain⟨nA,hnA⟩:=eY ((bZ r2 [s2] t m q).length);obtain⟨aA,cA,rfl,hsA⟩:=ho.bs;rw[hnA] at hsA hlA ⊢;refine kS ⟨HN.o,HT.o,HU.o⟩ ?_;walk_nrm;clear ho hb;refine yR ?_;refine (o9 k 11 nonce aA nA cA _ u5 hsA om).mono ?_;rintro _ u6 ⟨⟨v,rfl,ho⟩,hb⟩;replace HN:=SM (HN.o.below hb);replace HT:=SM (HT.o.below hb);replace HU:=SM (HU.o.below hb);replace HB:=SM (bt HB.o hb);replace HS:=SM (HS.o.below hb);refine kS ⟨HN.o,HT.o,HU.o⟩ ?_;walk_nrm
 have hlP:(lz k 11 nonce (bZ r2 [s2] t m q)).length=nA+24:=by rw[iR,hnA]
 obtain⟨aP,cP,rfl,hsP⟩:=ho.bs;rw[hlP] at hsP ⊢;have HP:=SM hsP;clear ho hb hsA hsP hlP
 repeat(refine yA ?_;walk_nrm)
 refine al ?_;clear HN HT HU
 go_wp2_with fail
 refine (sW aS aP (nT+24) cS (nA+24) cP _ _ u6 HS.o HP.o om om).mono ?_;rintro _ u7 ⟨⟨v,rfl,ho⟩,hb⟩;have HO:=SM (ho.wider' HB.o.size);replace HB:=SM (bt HB.o hb);clear ho hb
 go_wp2
 go_ret
 exact⟨⟨_,rfl,HO.o⟩,HB.o⟩
end
section
open Go.RowKit Go.ChangeMaps
def gE:RW:=#v[1,2,3,0,0,0,0,0,0,0,0,0,0,0,0,0]
def ik:RW:=#v[9,0,0,0,0,0,0,0,0,0,0,0,0,0,0,0]
def mX(q:Nat):N8:=#v[UInt8.ofNat q,0,0,0,0,0,0,0]
def dW:ByteArray:=⟨#[82]⟩
def fe:ByteArray:=⟨#[97,108,105,99,101]⟩
def wK(parts:Array (Nat × Value)):Sem Value:=Instr.build 22 parts
def pN(parts:Array (Nat × Value)):Sem Value:=Instr.build 107 parts
@[go_sem ↓] theorem On(parts:Array (Nat × Value)):Instr.build 22 parts=wK parts:=rfl
@[go_sem ↓] theorem PS(parts:Array (Nat × Value)):Instr.build 107 parts=pN parts:=rfl
theorem Mc(w:World):(Instr.build 22 #[(0,.int .u8 1),(1,.int .u8 2),(2,.int .u8 3)]).run prog w = .ok (.agg (fw B8 gE)) w:=kr
theorem Me(w:World)(z:Int):(Instr.build 107 #[(0,.int .u8 z)]).run prog w = .ok (.agg #[.int .u8 z,.int .u8 0,.int .u8 0,.int .u8 0,.int .u8 0,.int .u8 0,.int .u8 0,.int .u8 0]) w:=kr
@[go_sem ↓] theorem LL(w:World):(wK #[(0,.int .u8 1),(1,.int .u8 2),(2,.int .u8 3)]).run prog w = .ok (.agg (fw B8 gE)) w:=Mc w
theorem vK(w:World)(q:Nat)(z:Int)(hz:z=bI (UInt8.ofNat q)):(pN #[(0,.int .u8 z)]).run prog w = .ok (.agg (fw B8 (mX q))) w:=by
 subst hz;have e:fw B8 (mX q)=#[.int .u8 (bI (UInt8.ofNat q)),.int .u8 0,.int .u8 0,.int .u8 0,.int .u8 0,.int .u8 0,.int .u8 0,.int .u8 0]:=by simp[fw,mX,B8,bI]
 unfold pN;rw[Me,e]
theorem qO(w:World):Calls prog 17 #[] w fun e w'=>e = .returned (.agg (fw B8 gE))∧Below w.heap.size w w':=by
 obtain⟨hA,hb,hs⟩:=dU w 22 B8 dq
 go_in
 go_upto_region 1 with fail
 generalize w.alloc (.cells (fw B8 dq) 22)=w1 at *;have HA:=SM hA;have HB:=SM hb;have q1:=hA.k;clear hA hb
 go_wp2
 refine bodyPost_ret (cq rfl _ _ w.heap.size 0 (fw B8 gE) rfl (HA.o.all gE).r) rfl ⟨rfl,aa HB.o (Nat.le_refl _) _ _⟩
theorem kP(w:World):Calls prog 66 #[.int .i64 0] w fun e w'=>(∃ ad c,e = .returned (.agg #[.string dW,.slice ad 1 c])∧aM w' ad 1 c [fe]∧∃ b o,ad=some ⟨b,o,none⟩∧w.heap.size≤b∧b < w'.heap.size)∧Below w.heap.size w w':=by
 go_in
 go_upto_region 1 with fail
 go_wp2_with fail
 have hb1:=ba (.cells #[.string dW,.slice (some ⟨w.heap.size+1+1,0,none⟩) 1 1] 95) (Sy w);have hP:=P2.made w 95 (.string dW) (.slice (some ⟨w.heap.size+1+1,0,none⟩) 1 1);have hs1:(w.alloc (.cells #[.string dW,.slice (some ⟨w.heap.size+1+1,0,none⟩) 1 1] 95)).heap.size=w.heap.size+1:=sm
 show bodyPost _ _ _ _ _ (((w.alloc (.cells #[.string dW,.slice (some ⟨w.heap.size+1+1,0,none⟩) 1 1] 95)).alloc (.cells #[.string fe,.string ⟨#[98,111,98]⟩,.string ⟨#[99,97,114,111,108]⟩] 9)).alloc (.cells #[.string fe] 9))
 generalize w.alloc (.cells #[.string dW,.slice (some ⟨w.heap.size+1+1,0,none⟩) 1 1] 95)=w1 at *;have hb2:=ba (.cells #[.string fe,.string ⟨#[98,111,98]⟩,.string ⟨#[99,97,114,111,108]⟩] 9) (Sy w1);have hs2:(w1.alloc (.cells #[.string fe,.string ⟨#[98,111,98]⟩,.string ⟨#[99,97,114,111,108]⟩] 9)).heap.size=w1.heap.size+1:=sm;generalize w1.alloc (.cells #[.string fe,.string ⟨#[98,111,98]⟩,.string ⟨#[99,97,114,111,108]⟩] 9)=w2 at *
 have hb3:=ba (.cells #[.string fe] 9) (Sy w2);have hr3:readAt (w2.alloc (.cells #[.string fe] 9)) w2.heap.size 0 1=some #[.string fe]:=by simp[go_sem]
 have hs3:(w2.alloc (.cells #[.string fe] 9)).heap.size=w2.heap.size+1:=sm;generalize w2.alloc (.cells #[.string fe] 9)=w3 at *;have hP3:=(hP.below hb2).below hb3;have c0:=hP3.c0;have c1:=hP3.c1;have hB:=bt (bt hb1 hb2) hb3;rw[hs2,hs1] at hr3 hs3;refine bodyPost_ret (v:=.agg #[.string dW,.slice (some ⟨w.heap.size+1+1,0,none⟩) 1 1]) ?_ rfl ⟨⟨_,_,rfl,⟨rfl,?_⟩,_,_,rfl,om,om⟩,hB⟩
 ·simp[results,Tryz.f66,go_sem,c0,c1]
 ·refine⟨_,_,rfl,om,by simp[maxLen],?_⟩
  exact⟨rfl,sm,(fun _=>⟨_,_,rfl,hr3⟩)⟩
end
section
open Go.RowKit Go.ChangeMaps
def SP(s e t q:Int):Array Value:=#[.int .i64 0,.int .i64 0,.int .i64 s,.int .i64 e,.int .i64 t,.int .u32 q,.bool false,.int .u16 0]
structure oz (w:World) (b:Nat) (s e t q:Int):Prop where
 r:readAt w b 0 8=some (SP s e t q)
section
variable {w w':World} {b:Nat} {s e t q:Int}
theorem oz.lt(h:oz w b s e t q):b < w.heap.size:=ac h.r
theorem oz.below(h:oz w b s e t q)(hb:Below w.heap.size w w'):oz w' b s e t q:=⟨by rw[ak hb h.lt];exact h.r⟩
theorem oz.same(h:oz w b s e t q)(hb:w'.heap[b]? = w.heap[b]?):oz w' b s e t q:=⟨by rw[← h.r];simp[readAt,hb]⟩
theorem oz.made(w:World)(s e t q:Int):oz (w.alloc (.cells (SP s e t q) 62)) w.heap.size s e t q:=⟨aj _ _ _ _ _ _ _ rfl (by simp[SP])⟩
theorem oz.cells(h:oz w b s e t q):w.cell? ⟨b,0,none⟩=some (.int .i64 0)∧w.cell? ⟨b,1,none⟩=some (.int .i64 0)∧w.cell? ⟨b,2,none⟩=some (.int .i64 s)∧w.cell? ⟨b,3,none⟩=some (.int .i64 e)∧w.cell? ⟨b,4,none⟩=some (.int .i64 t)∧w.cell? ⟨b,5,none⟩=some (.int .u32 q)∧w.cell? ⟨b,6,none⟩=some (.bool false)∧w.cell? ⟨b,7,none⟩=some (.int .u16 0):=by
 refine⟨?_,?_,?_,?_,?_,?_,?_,?_⟩
 ·exact ab h.r 0 _ rfl
 ·exact ab h.r 1 _ rfl
 ·exact ab h.r 2 _ rfl
 ·exact ab h.r 3 _ rfl
 ·exact ab h.r 4 _ rfl
 ·exact ab h.r 5 _ rfl
 ·exact ab h.r 6 _ rfl
 ·exact ab h.r 7 _ rfl
end
theorem gM{w w':World}{b o n c:Nat}{L:List ByteArray}(h:aM w (some ⟨b,o,none⟩) n c L)(hb:w'.heap[b]? = w.heap[b]?):aM w' (some ⟨b,o,none⟩) n c L:=h.same (fun a ha=>by cases ha;exact hb)
theorem z7(s e t q:Nat)(w:World)(hs:s≤1099511627776)(he:e≤1099511627776)(ht:t≤1099511627776)(hq:q < 4294967296):
  Calls prog 40 #[.agg (SP s e t q)] w fun x w'=>(∃ ad c bd c2,x = .returned (.tuple #[.agg (tv dW ad 1 c (s:Nat) (e:Nat) ik),.agg (St dW bd 1 c2 (t:Nat) 0 (q:Nat))])∧aM w' ad 1 c [fe]∧aM w' bd 1 c2 [fe])∧Below w.heap.size w w':=by
 go_in
 go_upto_region 1 with fail
 have hK:=oz.made w s e t q;have hb1:=ba (.cells (SP s e t q) 62) (Sy w);have hs1:(w.alloc (.cells (SP s e t q) 62)).heap.size=w.heap.size+1:=sm;generalize w.alloc (.cells (SP s e t q) 62)=w1 at *;have hT:=gS.made w1 ⟨#[]⟩ none 0 0 0 0 cM;have hb2:=ba (.cells (tv ⟨#[]⟩ none 0 0 0 0 cM) 97) (Sy w1);have hs2:(w1.alloc (.cells (tv ⟨#[]⟩ none 0 0 0 0 cM) 97)).heap.size=w1.heap.size+1:=sm;generalize w1.alloc (.cells (tv ⟨#[]⟩ none 0 0 0 0 cM) 97)=w2 at *
 have hU:=gy.made w2 ⟨#[]⟩ none 0 0 0 0 0;have hb3:=ba (.cells (St ⟨#[]⟩ none 0 0 0 0 0) 99) (Sy w2);generalize w2.alloc (.cells (St ⟨#[]⟩ none 0 0 0 0 0) 99)=w3 at *;rw[hs1] at hT hs2;rw[hs2] at hU;have HK:=SM ((hK.below hb2).below hb3);have HT:=SM (hT.below hb3);have HU:=SM hU;have HB:=SM (bt (bt hb1 hb2) hb3);clear hK hb1 hs1 hT hb2 hs2 hU hb3;have lT:w.heap.size≤w.heap.size+1:=om;have lU:w.heap.size≤w.heap.size+1+1:=om
 have kT:w.heap.size≠w.heap.size+1:=om;have kA:w.heap.size≠w.heap.size+1+1:=om;have nT:w.heap.size+1≠w.heap.size+1+1:=om;generalize w.heap.size+1+1=AB at *;generalize w.heap.size+1=TB at *;have hdb:=(Sy w3).drew;replace HK:=SM (HK.o.below hdb);replace HT:=SM (HT.o.below hdb);replace HU:=SM (HU.o.below hdb);replace HB:=SM (bt HB.o hdb);refine yW (tk 0 2 (tk 3 8 (.two 2 (.take 11 (.run 12 (.run 13 .done))) 12 (.run 2 (.take 11 (.run 13 .done)))))) (fun u=>oz u w.heap.size s e t q) HK.o ?_
 clear hdb;generalize w3.drew=w4 at *
 iterate 9 ((first | (refine rg rfl rfl ?_;walk_nrm) | (refine kj rfl _ rfl rfl ?_;walk_nrm) | (refine ft rfl _ rfl rfl ?_;walk_nrm) | (refine ju rfl rfl ?_;apply Exists.intro;refine⟨fun w' hC'=>?_,?_⟩;(obtain⟨c0,c1,c2,c3,c4,c5,c6,c7⟩:=hC'.cells;go_simp;(first | done | exact rfl));walk_nrm) | (refine p_off rfl rfl ?_;walk_nrm) | (refine p_val rfl rfl ?_;apply Exists.intro;refine⟨fun w'=>?_,?_⟩;(go_simp;(first | done | exact rfl));walk_nrm)))
 refine ju rfl rfl ?_;refine⟨.agg (fw B8 ik),fun w' hC'=>?_,?_⟩
 ·kernel_rfl
 walk_nrm
 refine Iz ?_ ?_
 focus
  have htr:=True.intro;refine yR ?_;refine (kP w4).mono ?_;rintro _ v5 ⟨⟨ad,c,rfl,hsa,bb,oo,rfl,hbb,hbl⟩,hb⟩;have hbT:bb≠TB:=by have:=HT.o.lt;omega
  have hbA:bb≠AB:=by have:=HU.o.lt;omega
  have hbK:bb≠w.heap.size:=by have:=HK.o.lt;omega
  replace HK:=SM (HK.o.below hb);replace HT:=SM (HT.o.below hb);replace HU:=SM (HU.o.below hb);replace HB:=SM (bt HB.o hb);have HS:=SM hsa;refine kS HK.o ?_;walk_nrm;clear hb hbb hsa;refine ju rfl rfl ?_;refine⟨.agg (tv dW (some ⟨bb,oo,none⟩) 1 c (s:Nat) (e:Nat) ik),fun w' hC'=>?_,?_⟩
  ·kernel_rfl
  walk_nrm
  have hb:=ba (.cells (tv ⟨#[]⟩ none 0 0 0 0 cM) 97) (Sy v5);have hV:=gS.made v5 ⟨#[]⟩ none 0 0 0 0 cM;have hGT:v5.heap.size≠TB:=by have:=HT.o.lt;omega
  have hGA:v5.heap.size≠AB:=by have:=HU.o.lt;omega
  have hGK:v5.heap.size≠w.heap.size:=by have:=HK.o.lt;omega
  have hG:w.heap.size≤v5.heap.size:=by have:=HK.o.lt;omega
  replace HK:=SM (HK.o.below hb);replace HT:=SM (HT.o.below hb);replace HU:=SM (HU.o.below hb);replace HB:=SM (bt HB.o hb);replace HS:=SM (HS.o.below hb);have hbG:bb≠v5.heap.size:=om;refine fJ rfl rfl ?_;apply Exists.intro;apply Exists.intro;refine⟨?_,?_⟩;(go_simp;exact⟨rfl,rfl⟩);refine kC HK.o ?_;walk_nrm;clear hb;generalize v5.alloc (.cells (tv ⟨#[]⟩ none 0 0 0 0 cM) 97)=v6 at *;have HV:=SM hV;clear hV hbl
  generalize v5.heap.size=G at *;have q1:=HV.o.k
  first | (refine tb rfl rfl ?_;apply Exists.intro;refine⟨?_,?_⟩;(go_simp;exact rfl)) | (refine fJ rfl rfl ?_;apply Exists.intro;apply Exists.intro;refine⟨?_,?_⟩;(go_simp;exact⟨rfl,rfl⟩))
  have HV4:=SM (HV.o.all dW (some ⟨bb,oo,none⟩) 1 c (s:Nat) (e:Nat) ik);have HU4:=SM (HU.o.same (aw v6 G 0 (tv dW (some ⟨bb,oo,none⟩) 1 c (s:Nat) (e:Nat) ik) AB (Ne.symm hGA)));have HT4:=SM (HT.o.same (aw v6 G 0 (tv dW (some ⟨bb,oo,none⟩) 1 c (s:Nat) (e:Nat) ik) TB (Ne.symm hGT)));have HK4:=SM (HK.o.same (aw v6 G 0 (tv dW (some ⟨bb,oo,none⟩) 1 c (s:Nat) (e:Nat) ik) w.heap.size (Ne.symm hGK)));have HS4:=SM (gM HS.o (aw v6 G 0 (tv dW (some ⟨bb,oo,none⟩) 1 c (s:Nat) (e:Nat) ik) bb hbG))
  have HB4:=SM (aa HB.o (b:=G) hG 0 (tv dW (some ⟨bb,oo,none⟩) 1 c (s:Nat) (e:Nat) ik));refine kC HK4.o ?_;walk_nrm;clear HV HU HT HK HS HB q1;have HV:=HV4;have HU:=HU4;have HT:=HT4;have HK:=HK4;have HS:=HS4;have HB:=HB4;clear HV4 HU4 HT4 HK4 HS4 HB4;generalize setAt v6 G 0 (tv dW (some ⟨bb,oo,none⟩) 1 c (s:Nat) (e:Nat) ik)=u5 at *;refine al ?_
 rotate_left
 focus
  have htr:=True.intro;have hb:=ba (.cells (tv ⟨#[]⟩ none 0 0 0 0 cM) 97) (Sy w4);have hV:=gS.made w4 ⟨#[]⟩ none 0 0 0 0 cM;have hGT:w4.heap.size≠TB:=by have:=HT.o.lt;omega
  have hGA:w4.heap.size≠AB:=by have:=HU.o.lt;omega
  have hGK:w4.heap.size≠w.heap.size:=by have:=HK.o.lt;omega
  have hG:w.heap.size≤w4.heap.size:=by have:=HK.o.lt;omega
  replace HK:=SM (HK.o.below hb);replace HT:=SM (HT.o.below hb);replace HU:=SM (HU.o.below hb);replace HB:=SM (bt HB.o hb);refine fJ rfl rfl ?_;apply Exists.intro;apply Exists.intro;refine⟨?_,?_⟩;(go_simp;exact⟨rfl,rfl⟩);refine kC HK.o ?_;walk_nrm;clear hb;generalize w4.alloc (.cells (tv ⟨#[]⟩ none 0 0 0 0 cM) 97)=v4 at *;have HV:=SM hV;clear hV;generalize w4.heap.size=G at *;refine yR ?_;refine (kP v4).mono ?_
  rintro _ v5 ⟨⟨ad,c,rfl,hsa,bb,oo,rfl,hbb,hbl⟩,hb⟩;have hbT:bb≠TB:=by have:=HT.o.lt;omega
  have hbA:bb≠AB:=by have:=HU.o.lt;omega
  have hbK:bb≠w.heap.size:=by have:=HK.o.lt;omega
  replace HK:=SM (HK.o.below hb);replace HT:=SM (HT.o.below hb);replace HU:=SM (HU.o.below hb);replace HB:=SM (bt HB.o hb);have HS:=SM hsa;have hbG:bb≠G:=by have:=HV.o.lt;omega
  replace HV:=SM (HV.o.below hb);refine kS HK.o ?_;walk_nrm;clear hb hbb hsa hbl;refine ju rfl rfl ?_;refine⟨.agg (tv dW (some ⟨bb,oo,none⟩) 1 c (s:Nat) (e:Nat) ik),fun w' hC'=>?_,?_⟩
  ·kernel_rfl
  walk_nrm
  have q1:=HV.o.k
  first | (refine tb rfl rfl ?_;apply Exists.intro;refine⟨?_,?_⟩;(go_simp;exact rfl)) | (refine fJ rfl rfl ?_;apply Exists.intro;apply Exists.intro;refine⟨?_,?_⟩;(go_simp;exact⟨rfl,rfl⟩))
  have HV4:=SM (HV.o.all dW (some ⟨bb,oo,none⟩) 1 c (s:Nat) (e:Nat) ik);have HU4:=SM (HU.o.same (aw v5 G 0 (tv dW (some ⟨bb,oo,none⟩) 1 c (s:Nat) (e:Nat) ik) AB (Ne.symm hGA)));have HT4:=SM (HT.o.same (aw v5 G 0 (tv dW (some ⟨bb,oo,none⟩) 1 c (s:Nat) (e:Nat) ik) TB (Ne.symm hGT)));have HK4:=SM (HK.o.same (aw v5 G 0 (tv dW (some ⟨bb,oo,none⟩) 1 c (s:Nat) (e:Nat) ik) w.heap.size (Ne.symm hGK)));have HS4:=SM (gM HS.o (aw v5 G 0 (tv dW (some ⟨bb,oo,none⟩) 1 c (s:Nat) (e:Nat) ik) bb hbG))
  have HB4:=SM (aa HB.o (b:=G) hG 0 (tv dW (some ⟨bb,oo,none⟩) 1 c (s:Nat) (e:Nat) ik));refine kC HK4.o ?_;walk_nrm;clear HV HU HT HK HS HB q1;have HV:=HV4;have HU:=HU4;have HT:=HT4;have HK:=HK4;have HS:=HS4;have HB:=HB4;clear HV4 HU4 HT4 HK4 HS4 HB4;generalize setAt v5 G 0 (tv dW (some ⟨bb,oo,none⟩) 1 c (s:Nat) (e:Nat) ik)=u5 at *;refine al ?_
 all_goals
  have hz6:w.heap.size≤G:=hG
  go_upto_region 2 with fail
  have hdb:=(Sy u5).drew;replace HK:=SM (HK.o.below hdb);replace HT:=SM (HT.o.below hdb);replace HU:=SM (HU.o.below hdb);replace HV:=SM (HV.o.below hdb);replace HS:=SM (HS.o.below hdb);replace HB:=SM (bt HB.o hdb);refine yW (tk 0 3 (tk 4 4 (.run 3 (.take 8 (.run 9 (.run 10 .done)))))) (fun u=>oz u w.heap.size s e t q∧gS u G dW (some ⟨bb,oo,none⟩) 1 c (s:Nat) (e:Nat) ik) ⟨HK.o,HV.o⟩ ?_;clear hdb;generalize u5.drew=u6 at *
  repeat((first|refine yO ?_|refine yM ?_|refine yF rfl rfl (fun w' hC'=>by obtain⟨e1,e2⟩:=hC';obtain⟨c0,c1,c2,c3,c4,c5,c6,c7⟩:=e1.cells;have c8:=e2.r;go_simp;first|done|exact rfl) ?_);walk_nrm)
  refine yR ?_;refine (kP u6).mono ?_;rintro _ u7 ⟨⟨bd,c2,rfl,hsb,b2,o2,rfl,hb2,_⟩,hb⟩;have hn1:b2≠TB:=by have:=HT.o.lt;omega
  have hn2:b2≠AB:=by have:=HU.o.lt;omega
  replace HK:=SM (HK.o.below hb);replace HT:=SM (HT.o.below hb);replace HU:=SM (HU.o.below hb);replace HV:=SM (HV.o.below hb);replace HS:=SM (HS.o.below hb);replace HB:=SM (bt HB.o hb);refine kS ⟨HK.o,HV.o⟩ ?_;walk_nrm;clear hb hb2;refine ju rfl rfl ?_;refine⟨.agg (St dW (some ⟨b2,o2,none⟩) 1 c2 (t:Nat) 0 (q:Nat)),fun w' hC'=>?_,?_⟩
  ·kernel_rfl
  walk_nrm
  have q1:=HT.o.k
  first | (refine tb rfl rfl ?_;apply Exists.intro;refine⟨?_,?_⟩;(go_simp;exact rfl)) | (refine fJ rfl rfl ?_;apply Exists.intro;apply Exists.intro;refine⟨?_,?_⟩;(go_simp;exact⟨rfl,rfl⟩))
  have HT8:=SM (HT.o.all dW (some ⟨bb,oo,none⟩) 1 c (s:Nat) (e:Nat) ik);have HU8:=SM (HU.o.same (aw u7 TB 0 (tv dW (some ⟨bb,oo,none⟩) 1 c (s:Nat) (e:Nat) ik) AB (Ne.symm nT)));have HK8:=SM (HK.o.same (aw u7 TB 0 (tv dW (some ⟨bb,oo,none⟩) 1 c (s:Nat) (e:Nat) ik) w.heap.size kT));have HV8:=SM (HV.o.same (aw u7 TB 0 (tv dW (some ⟨bb,oo,none⟩) 1 c (s:Nat) (e:Nat) ik) G hGT));have HS8:=SM (gM HS.o (aw u7 TB 0 (tv dW (some ⟨bb,oo,none⟩) 1 c (s:Nat) (e:Nat) ik) bb hbT))
  have Hsb8:=SM (gM hsb (aw u7 TB 0 (tv dW (some ⟨bb,oo,none⟩) 1 c (s:Nat) (e:Nat) ik) b2 hn1));have HB8:=SM (aa HB.o (b:=TB) lT 0 (tv dW (some ⟨bb,oo,none⟩) 1 c (s:Nat) (e:Nat) ik));refine kC ⟨HK8.o,HV8.o⟩ ?_;walk_nrm;clear HT HU HK HV HS hsb HB q1;generalize setAt u7 TB 0 (tv dW (some ⟨bb,oo,none⟩) 1 c (s:Nat) (e:Nat) ik)=u8 at *;have q1:=HU8.o.k
  first | (refine tb rfl rfl ?_;apply Exists.intro;refine⟨?_,?_⟩;(go_simp;exact rfl)) | (refine fJ rfl rfl ?_;apply Exists.intro;apply Exists.intro;refine⟨?_,?_⟩;(go_simp;exact⟨rfl,rfl⟩))
  have HU9:=SM (HU8.o.all dW (some ⟨b2,o2,none⟩) 1 c2 (t:Nat) 0 (q:Nat));have HT9:=SM (HT8.o.same (aw u8 AB 0 (St dW (some ⟨b2,o2,none⟩) 1 c2 (t:Nat) 0 (q:Nat)) TB nT));have HK9:=SM (HK8.o.same (aw u8 AB 0 (St dW (some ⟨b2,o2,none⟩) 1 c2 (t:Nat) 0 (q:Nat)) w.heap.size kA));have HV9:=SM (HV8.o.same (aw u8 AB 0 (St dW (some ⟨b2,o2,none⟩) 1 c2 (t:Nat) 0 (q:Nat)) G hGA));have HS9:=SM (gM HS8.o (aw u8 AB 0 (St dW (some ⟨b2,o2,none⟩) 1 c2 (t:Nat) 0 (q:Nat)) bb hbA))
  have Hsb9:=SM (gM Hsb8.o (aw u8 AB 0 (St dW (some ⟨b2,o2,none⟩) 1 c2 (t:Nat) 0 (q:Nat)) b2 hn2));have HB9:=SM (aa HB8.o (b:=AB) lU 0 (St dW (some ⟨b2,o2,none⟩) 1 c2 (t:Nat) 0 (q:Nat)));refine kC ⟨HK9.o,HV9.o⟩ ?_;walk_nrm;clear HT8 HU8 HK8 HV8 HS8 Hsb8 HB8 q1;generalize setAt u8 AB 0 (St dW (some ⟨b2,o2,none⟩) 1 c2 (t:Nat) 0 (q:Nat))=u9 at *;refine al ?_
  go_wp2_with fail
  exact bodyPost_ret (i9 _ _ _ _ _ _ rfl rfl rfl (dS HT9.o) (dR HU9.o)) rfl ⟨⟨_,_,_,_,rfl,HS9.o,Hsb9.o⟩,HB9.o⟩
end
section
open Go.RowKit Go.ChangeMaps
def AU(v:Value):Sem Value:=Instr.loadAt 62 v
@[go_sem ↓] theorem OO(v:Value):Instr.loadAt 62 v=AU v:=rfl
theorem Cz:(prog.info? 62).map (·.size)=some 8:=kr
theorem Pv:prog.underlying 62=some (.struct (prog.fieldsOf 62)):=kr
@[go_sem ↓] theorem Np(w:World)(b o:Nat)(h:(readAt w b o 8).isSome=true):(AU (.pointer (some ⟨b,o,none⟩))).run prog w = .ok (.agg ((readAt w b o 8).getD #[])) w:=by
 obtain⟨cs,hc⟩:=Option.isSome_iff_exists.1 h;unfold AU;rw[aJ w b o 8 62 _ cs hc Pv rfl Cz,hc];rfl
def pn(s e t q:Nat):List UInt8:=LA gE (mX q) dW fe s e ik dW fe t 0 q
theorem th(s e t q:Nat)(w:World)(hs:s≤1099511627776)(he:e≤1099511627776)(ht:t≤1099511627776)(hq:q < 4294967296):
  Calls prog 21 #[.agg (SP s e t q)] w fun x w'=>(∃ v,x = .returned v∧ao w' w.heap.size v (pn s e t q))∧Below w.heap.size w w':=by
 have HK:=SM (oz.made w s e t q);have HB:=SM (ba (.cells (SP s e t q) 62) (Sy w))
 go_in
 go_upto_region 1 with fail
 generalize w.alloc (.cells (SP s e t q) 62)=w1 at *;have q1:=HK.o.r
 go_wp2_with fail
 refine (z7 s e t q w1 hs he ht hq).mono ?_;rintro _ w2 ⟨⟨ad,c,bd,c2,rfl,hsa,hsb⟩,hb⟩;replace HK:=SM (HK.o.below hb);replace HB:=SM (bt HB.o hb);clear hb q1
 go_upto_region 2 with fail
 have hT:=gS.made w2 ⟨#[]⟩ none 0 0 0 0 cM;have hbT:=ba (.cells (tv ⟨#[]⟩ none 0 0 0 0 cM) 97) (Sy w2);have hsT:(w2.alloc (.cells (tv ⟨#[]⟩ none 0 0 0 0 cM) 97)).heap.size=w2.heap.size+1:=sm;generalize w2.alloc (.cells (tv ⟨#[]⟩ none 0 0 0 0 cM) 97)=w3 at *;have hU:=gy.made w3 ⟨#[]⟩ none 0 0 0 0 0;have hbU:=ba (.cells (St ⟨#[]⟩ none 0 0 0 0 0) 99) (Sy w3);generalize w3.alloc (.cells (St ⟨#[]⟩ none 0 0 0 0 0) 99)=w4 at *
 rw[hsT] at hU;replace hT:=hT.below hbU;have hz2:w.heap.size < w2.heap.size:=HK.o.lt;have hb24:=bt hbT hbU;have nTU:w2.heap.size≠w2.heap.size+1:=om;have hzU:w.heap.size < w2.heap.size+1:=om;have HT:=SM ((hT.all dW ad 1 c (s:Nat) (e:Nat) ik).apart (w2.heap.size+1) 0 (St dW bd 1 c2 (t:Nat) 0 (q:Nat)) (Ne.symm nTU));have HU:=SM ((hU.apart w2.heap.size 0 (tv dW ad 1 c (s:Nat) (e:Nat) ik) nTU).all dW bd 1 c2 (t:Nat) 0 (q:Nat))
 have hbS:Below w2.heap.size w2 (setAt (setAt w4 w2.heap.size 0 (tv dW ad 1 c (s:Nat) (e:Nat) ik)) (w2.heap.size+1) 0 (St dW bd 1 c2 (t:Nat) 0 (q:Nat))):=aa (aa hb24 (Nat.le_refl _) _ _) om _ _;replace HK:=SM (HK.o.below hbS);replace HB:=SM (bt HB.o hbS);have Hsa:=SM (hsa.below hbS);have Hsb:=SM (hsb.below hbS);generalize setAt (setAt w4 w2.heap.size 0 (tv dW ad 1 c (s:Nat) (e:Nat) ik)) (w2.heap.size+1) 0 (St dW bd 1 c2 (t:Nat) 0 (q:Nat))=w5 at *
 clear hT hbT hsT hU hbU hb24 hbS hsa hsb;generalize w2.heap.size+1=AB at *;generalize w2.heap.size=TB at *
 go_wp2_with fail
 refine (qO w5).mono ?_;rintro _ w6 ⟨rfl,hb⟩;replace HK:=SM (HK.o.below hb);replace HT:=SM (HT.o.below hb);replace HU:=SM (HU.o.below hb);replace Hsa:=SM (Hsa.o.below hb);replace Hsb:=SM (Hsb.o.below hb);replace HB:=SM (bt HB.o hb);clear hb
 go_upto_region 3 with fail
 obtain⟨hA,hb,hsA⟩:=dU w6 22 B8 gE;replace HK:=SM (HK.o.below hb);replace HT:=SM (HT.o.below hb);replace HU:=SM (HU.o.below hb);replace Hsa:=SM (Hsa.o.below hb);replace Hsb:=SM (Hsb.o.below hb);replace HB:=SM (bt HB.o hb);generalize w6.alloc (.cells (fw B8 gE) 22)=w7 at *;generalize w6.heap.size=KB at *;have HA:=SM hA;clear hA hb hsA;obtain⟨k0,k1,k2,k3,k4,k5,k6,k7⟩:=HK.o.cells;have q1:=HA.o.r;have q2:=HT.o.r
 have q3:=HU.o.r;have hz1:IntKind.u8.wrap (q:Int)=bI (UInt8.ofNat q):=by rw[IntKind.wrap_u8];unfold bI;rw[UInt8.toNat_ofNat'];omega
 have hbn:∀ W:World,(pN #[(0,.int .u8 (bI (UInt8.ofNat q)))]).run prog W = .ok (.agg (fw B8 (mX q))) W:=fun W=>vK W q _ rfl;have hz2':(q:Int) % 256=bI (UInt8.ofNat q):=by unfold bI;rw[UInt8.toNat_ofNat'];omega
 go_wp2_with fail
 refine (DY gE (mX q) dW fe ad c s e ik dW fe bd c2 t 0 q w7 Hsa.o dc dc hs he Hsb.o dc dc ht dc hq).mono ?_;rintro _ w8 ⟨⟨v,rfl,ho⟩,hb⟩;have HO:=SM (ho.wider' HB.o.size);replace HK:=SM (HK.o.below hb);replace HB:=SM (bt HB.o hb);clear ho hb k0 k1 k2 k3 k4 k5 k6 k7 q1 q2 q3;obtain⟨k0,k1,k2,k3,k4,k5,k6,k7⟩:=HK.o.cells
 go_wp2
 go_ret
 exact⟨⟨_,rfl,HO.o⟩,HB.o⟩
end
section
open Go.RowKit Go.ChangeMaps
theorem IA(c:Int)(w:World):(Instr.typeAssert (.iface 34 (.int .i64 c)) 30 34 true).run prog w = .ok (.tuple #[.int .i64 c,.bool true]) w:=by
 simp[Instr.typeAssert,run_underlying underlying34]
theorem PE(w:World):(zeroValue 34).run prog w = .ok (.int .i64 0) w:=kr
theorem Ew(v:Value)(w:World):(Instr.typeAssert (.iface 143 v) 30 34 true).run prog w = .ok (.tuple #[.int .i64 0,.bool false]) w:=by
 simp[Instr.typeAssert,run_underlying underlying34,PE]
theorem Ev(v:Value)(w:World):(Instr.typeAssert (.iface 143 v) 30 256 true).run prog w = .ok (.tuple #[.iface 143 v,.bool true]) w :=
 run_typeAssert_hasB underlying256 kr v _ w
set_option maxRecDepth 100000 in
theorem oJ(c:Int)(B:Nat)(v:Value)(w:World)(hc:w.cell? ⟨B,0,none⟩=some v)(hf:w.frozen? ⟨B,0,none⟩=false):
  Calls prog 109 #[mA c,.pointer (some ⟨B,0,none⟩)] w fun e w'=>e = .returned (.bool true)∧w'=w.setCell ⟨B,0,none⟩ (.int .i64 c):=by
 unfold mA;have ta:=IA c
 go_in
 go_wp2
 go_ret
 exact⟨rfl,rfl⟩
set_option maxRecDepth 100000 in
theorem uI(c k:Int)(B:Nat)(w:World):
  Calls prog 109 #[lf c k,.pointer (some ⟨B,0,none⟩)] w fun e w'=>e = .returned (.bool false)∧w'=w:=by
 unfold lf;have ta:=Ew (.agg #[.int .i64 c,.int .i64 k])
 go_in
 go_wp2
 go_ret
 exact⟨rfl,rfl⟩
set_option maxRecDepth 100000 in
theorem As(c k:Int)(w:World):
  Calls prog 264 #[.agg #[.int .i64 c,.int .i64 k]] w fun e w'=>e = .returned (mA c)∧Below w.heap.size w w':=by
 unfold mA
 go_in
 go_wp2
 go_ret
 exact⟨rfl,ba _ (Below.refl _ _)⟩
theorem iN(w:World):
  CallsD prog 156 #[] .returning w fun e u' w'=>e = .returned (.tuple #[])∧u' = .returning∧w'=w:=by
 refine callsD_of_wpS func156 rfl fun c₀ cs hu=>?_
 apply wpS_region
 simp[wpOpsS,go_sem,recoverD,hu,ntmps156,Exit.thenS,bodyPostS,results,Tryz.results156];cases c₀;simp_all
theorem CW (v : Value) (w : World) : (method 224 143 v "Unwrap").run Tryz.prog w = .ok (264, v) w := by kernel_rfl
def Fx(B:Nat):Value:=.func (.func 109) #[] #[.pointer (some ⟨B,0,none⟩)]
set_option maxRecDepth 100000 in
theorem Ad(fn:Fn)(f1 f2:Array Value)(w:World):
  Calls prog 108 #[.nilIface,.func fn f1 f2] w fun e w'=>e = .returned (.tuple #[])∧w'=w:=by
 have hmf:∀ (fn:Fn) (first cap:Array Value) (w:World),(Instr.makeFunc fn first cap).run prog w = .ok (.func fn first cap) w:=fun _ _ _ _=>rfl
 go_enter_defers func108,ntmps108
 go_wp2
 refine wp_loop_rounds 1 ?_;rw[rounds_succ]
 go_wp2
 refine leaves_cons (f:=156) (args:=#[]) sm (by simp[go_sem]) ?_
 refine (iN _).mono ?_;rintro e u' w'' ⟨rfl,rfl,rfl⟩;exact⟨_,results_none rfl _ _ _,rfl,rfl⟩
set_option maxRecDepth 100000 in
theorem lA(c:Int)(B:Nat)(v:Value)(w:World)(hc:w.cell? ⟨B,0,none⟩=some v)(hf:w.frozen? ⟨B,0,none⟩=false):
  Calls prog 108 #[mA c,Fx B] w fun e w'=>e = .returned (.tuple #[])∧w'=w.setCell ⟨B,0,none⟩ (.int .i64 c):=by
 unfold Fx mA;have hmf:∀ (fn:Fn) (first cap:Array Value) (w:World),(Instr.makeFunc fn first cap).run prog w = .ok (.func fn first cap) w:=fun _ _ _ _=>rfl
 go_enter_defers func108,ntmps108
 go_wp2
 refine wp_loop_rounds 1 ?_;rw[rounds_succ]
 go_wp2_with fail
 refine (oJ c B v w hc hf).mono ?_;rintro e w1 ⟨rfl,rfl⟩
 go_wp2
 refine leaves_cons (f:=156) (args:=#[]) sm (by simp[go_sem]) ?_
 refine (iN _).mono ?_;rintro e u' w'' ⟨rfl,rfl,rfl⟩;exact⟨_,results_none rfl _ _ _,rfl,rfl⟩
set_option maxRecDepth 100000 in
theorem kV(c k:Int)(B:Nat)(v:Value)(w:World)(hc:w.cell? ⟨B,0,none⟩=some v)(hf:w.frozen? ⟨B,0,none⟩=false):
  Calls prog 108 #[lf c k,Fx B] w fun e w'=>e = .returned (.tuple #[])∧Below B w w'∧w'.cell? ⟨B,0,none⟩=some (.int .i64 c):=by
 unfold Fx lf;have mu:=CW (.agg #[.int .i64 c,.int .i64 k]);have ta:=Ev (.agg #[.int .i64 c,.int .i64 k]);have hmf:∀ (fn:Fn) (first cap:Array Value) (w:World),(Instr.makeFunc fn first cap).run prog w = .ok (.func fn first cap) w:=fun _ _ _ _=>rfl
 go_enter_defers func108,ntmps108
 go_wp2
 refine wp_loop_rounds 2 ?_;rw[rounds_succ]
 go_wp2_with fail
 refine (uI c k B w).mono ?_;rintro e w1 ⟨rfl,rfl⟩
 go_wp2_with fail
 refine (As c k _).mono ?_;rintro e w2 ⟨rfl,hb⟩;have hlt:=World.block_lt_of_cell? w1 _ hc;have hc2:w2.cell? ⟨B,0,none⟩=some v:=(hb.cell (p:=⟨B,0,none⟩) hlt).trans hc;have hf2:w2.frozen? ⟨B,0,none⟩=false:=(hb.frozen (p:=⟨B,0,none⟩) hlt).trans hf;have Hb:Hd (Below B w1 w2):=hb.mono (Nat.le_of_lt hlt);have Hlt:Hd (B < w2.heap.size):=Nat.lt_of_lt_of_le hlt hb.size;clear hb hlt hc hf mu;unfold mA
 go_wp2_with fail
 rw[rounds_succ]
 go_wp2_with fail
 refine (oJ c B v w2 hc2 hf2).mono ?_;rintro e w3 ⟨rfl,rfl⟩;have HC:Hd (Below B w1 (w2.setCell ⟨B,0,none⟩ (.int .i64 c))∧(w2.setCell ⟨B,0,none⟩ (.int .i64 c)).cell? ⟨B,0,none⟩=some (.int .i64 c)):=⟨Hb.o.setCell (Nat.le_refl _) _,World.cell?_setCell_same' w2 _ _ (by simp[hc2])⟩
 clear hc2 hf2;generalize w2.setCell ⟨B,0,none⟩ (.int .i64 c)=w4 at *
 go_wp2
 refine leaves_cons (f:=156) (args:=#[]) sm (by simp[go_sem]) ?_
 refine (iN _).mono ?_;rintro e u' w'' ⟨rfl,rfl,rfl⟩;exact⟨_,results_none rfl _ _ _,rfl,HC.o⟩
theorem kD(c k:Int):(c=0∧fg c k = .nilIface)∨(c=15∧fg c k=lf 15 k)∨(c≠0∧c≠15∧fg c k=mA c):=by
 unfold fg
 by_cases h0:c=0
 ·exact .inl ⟨h0,by rw[if_pos h0]⟩
 ·by_cases h1:c=15
  ·exact .inr (.inl ⟨h1,by rw[if_neg h0,if_pos h1]⟩)
  ·exact .inr (.inr ⟨h0,h1,by rw[if_neg h0,if_neg h1]⟩)
set_option maxRecDepth 100000 in
theorem jF(c k:Int)(w:World):
  Calls prog 72 #[fg c k] w fun e w'=>e = .returned (.int .i64 c)∧Below w.heap.size w w':=by
 have hmf:∀ (fn:Fn) (first cap:Array Value) (w:World),(Instr.makeFunc fn first cap).run prog w = .ok (.func fn first cap) w:=fun _ _ _ _=>rfl
 have hc:(w.alloc (.cells #[.int .i64 0] 34)).cell? ⟨w.heap.size,0,none⟩=some (.int .i64 0):=by simp[go_sem]
 have hf:(w.alloc (.cells #[.int .i64 0] 34)).frozen? ⟨w.heap.size,0,none⟩=false:=by simp[go_sem]
 have Hb:=SM (ba (.cells #[.int .i64 0] 34) (Sy w));have Hc:=SM hc;have Hf:=SM hf;clear hc hf
 rcases kD c k with ⟨rfl,e1⟩ | ⟨rfl,e1⟩ | ⟨h0,h1,e1⟩
 ·rw[e1]
  go_in
  go_wp2_with fail
  refine (Ad _ _ _ _).mono ?_;rintro _ w2 ⟨rfl,rfl⟩
  go_wp2
  go_ret
  exact⟨rfl,Hb.o⟩
 ·rw[e1]
  go_in
  go_wp2_with fail
  refine (kV 15 k w.heap.size _ _ Hc.o Hf.o).mono ?_;rintro _ w2 ⟨rfl,hb,hc2⟩;have HB:=SM (Hb.o.trans hb);clear hb
  go_wp2
  go_ret
  exact⟨rfl,HB.o⟩
 ·rw[e1]
  go_in
  go_wp2_with fail
  refine (lA c w.heap.size _ _ Hc.o Hf.o).mono ?_;rintro _ w2 ⟨rfl,rfl⟩
  go_wp2
  go_ret
  exact⟨rfl,ba _ (Below.refl _ _)⟩
end
section
open Go.RowKit Go.ChangeMaps
theorem dM(k:Int):fg 0 k = .nilIface:=rfl
theorem KJ(k:Int):fg 12 k=mA 12:=rfl
end
section
open Go.RowKit
end
section
def dl(d:RP):List UInt8:=d.toList
@[simp] theorem rU(d:RP):(dl d).length=32:=by simp[dl]
theorem Qq(d:RP):av d=bv (dl d):=by
 apply Array.ext_getElem?
 intro i
 by_cases hi:i < 32
 ·rw[iw _ i hi,Jc _ i (by simpa using hi)]
  simp[dl,List.getD,hi]
 ·simp[bv,hi]
def ry(d:RP)(x:Nat):List UInt8:=dl d ++ be 8 x
@[simp] theorem m8(d:RP)(x:Nat):(ry d x).length=40:=by simp[ry]
theorem OG{w:World}{S:Nat}{d:RP}{x:Int}(h:readAt w S 0 33=some (ev d x)):Bs w (some ⟨S,0,none⟩) 32 32 (dl d):=by
 refine⟨sm,om,om,fun h=>(by cases h),fun h0=>⟨S,0,rfl,?_⟩⟩
 have h1:=aB h 0 32 om om;rw[h1,← Qq];simp only[Nat.sub_zero,Nat.zero_add];have e:(ev d x).extract 0 32=(ev d x).pop:=sm;rw[e,Jl]
theorem lx(w:World)(d:RP)(x:Int):readAt (w.alloc (.cells (ev d x) 89)) w.heap.size 0 33=some (ev d x):=by
 rw[aj _ _ _ _ _ _ _ rfl sm,Jk]
end
section
theorem oP(g:Nat)(d:RP)(n:Nat)(w:World)(hg:g < 4294967296)(hn:n≤4611686018427387904):
  Calls prog 117 #[.int .u32 g,.agg (ev d (n:Int))] w fun e w'=>e = .returned (.tuple #[.agg (av (dH g (ry d n))),.bool true])∧Below w.heap.size w w':=by
 obtain⟨W,hW⟩:=eY ((w.alloc (.cells (ev d (n:Int)) 89)).alloc (.cells (av cB) 201));have hb0:Below w.heap.size w W:=by rw[← hW];exact ba _ (ba _ (Below.refl _ _))
 have hr:readAt W w.heap.size 0 33=some (ev d (n:Int)):=by rw[← hW,b9 _ _ _ _ _ sm];exact lx w d n
 have hk:canAt W (w.heap.size+1) 0 64=true:=by rw[← hW];simp[go_sem]
 have hc:=ab hr 32 _ (qo d n);rw[Nat.zero_add] at hc;have Hb0:=SM hb0;have Hk:=SM hk;have Hr:=SM hr;clear hb0 hr hk;have d1:decide ((n:Int) < 0)=false:=sm;have d2:decide ((4611686018427387904:Int) < (n:Int))=false:=sO;obtain⟨P,hP⟩:=eY (ry d n);obtain⟨Q,hQ⟩:=eY (be 8 n);have hql:Q.length=8:=by rw[← hQ];simp
 have hpl:P.length=40:=by rw[← hP];simp
 have hfl:([dl d,Q] : List (List UInt8)).flatten=P:=by rw[← hP,← hQ];simp[ry]
 have hdl:(dl d).length=32:=sm;rw[hP];obtain⟨X,hX⟩:=eY (dH g P);rw[hX];have HX:=SM hX;clear hX;have HQ:=SM hQ;have Hql:=SM hql;have Hpl:=SM hpl;have Hfl:=SM hfl;have Hdl:=SM hdl;clear hP hQ hql hpl hfl hdl;have hwr:IntKind.u64.wrap (n:Int)=(n:Int):=wu
 go_in
 go_wp2_with fail
 clear hW;have hcd:W.drew.cell? ⟨w.heap.size,32,none⟩=some (.int .i64 (n:Int)):=hc;have hS:w.heap.size < W.heap.size:=ac Hr.o;have hK:w.heap.size+1 < W.heap.size:=bA Hk.o;have hx:∀ u,Below (w.heap.size+1) W u→u.cell? ⟨w.heap.size,32,none⟩=some (.int .i64 (n:Int)):=fun u h=>(h.cell (p:=⟨w.heap.size,32,none⟩) (Nat.lt_succ_self _)).trans hc;have hm1:∀ u,Below W.heap.size W u→Below (w.heap.size+1) W u:=fun u h=>h.mono om
 have Hm:=SM hm1;have Hx:=SM hx;clear hcd hx hm1;refine yW (tk 0 6 (.run 6 (.run 7 (.run 8 (.run 9 (tk 10 2 (.run 12 (.take 13 .done)))))))) (fun u=>Below (w.heap.size+1) W u) (Below.refl _ _).drew ?_
 repeat((first|refine yO ?_|refine yM ?_|refine yF rfl rfl (fun w' hC'=>by have hc':=Hx.o w' hC';go_simp;first|done|exact rfl) ?_);walk_nrm)
 refine yR ?_;refine (gV 8 n _ om om om om).mono ?_;rintro _ w2 ⟨⟨B1,hB1,rfl,hbe⟩,hb2⟩;have Hb2:Hd (Below W.heap.size W w2):=bt (Below.refl _ _).drew hb2;rw[HQ.o] at hbe;have hdg:=OG ((ak Hb2.o hS 0 33).trans Hr.o);have hy:=ba (.cells #[.slice (some ⟨w.heap.size,0,none⟩) 32 32,.slice (some ⟨B1,0,none⟩) 8 8] 39) (Sy w2);have HPs:=SM (Ps.two (w:=w2.alloc (.cells #[.slice (some ⟨w.heap.size,0,none⟩) 32 32,.slice (some ⟨B1,0,none⟩) 8 8] 39)) (B:=w2.heap.size) (by simp[go_sem]) (hdg.below hy) (hbe.below hy))
 have Hy:=SM hy;clear hb2 hbe hdg hy;refine kS (Hm.o _ (Hb2.o)) ?_;walk_nrm;refine fJ rfl rfl ?_;apply Exists.intro;apply Exists.intro;refine⟨?_,?_⟩;(go_simp;exact⟨rfl,rfl⟩);refine kC (Hm.o _ (bt Hb2.o Hy.o)) ?_;walk_nrm;refine yR ?_;refine (jL _ 2 2 _ _ HPs.o (by rw[Hfl.o,Hpl.o];omega)).mono ?_
 rw[Hfl.o];rintro _ w3 ⟨⟨v,rfl,hne,hown⟩,hb3⟩;obtain⟨ja,jc,rfl,hjb⟩:=hown.bs;rw[Hpl.o] at hjb ⊢;have Hjb:=SM hjb;have Hb3:=SM (bt Hb2.o (bt Hy.o hb3));clear hne hown hb3 hjb;refine kS (Hm.o _ (Hb3.o)) ?_;walk_nrm;refine yR ?_;refine (si g _ 40 _ P _ hg Hjb.o om).mono ?_;rw[HX.o];rintro _ w4 ⟨rfl,hb4⟩;have Hb4:=SM (bt Hb3.o hb4);have hk4:canAt w4 (w.heap.size+1) 0 64=true:=(ay Hb4.o hK 0 64).trans Hk.o
 have hfin:=Hb0.o.trans (Hb4.o.mono Hb0.o.size);have Hfin:=SM hfin;clear hb4 hfin Hb3 Hjb HPs Hy Hb2 hc hwr HQ Hfl;refine kS (Hm.o _ (Hb4.o)) ?_;walk_nrm
 repeat(refine yA ?_;walk_nrm)
 refine dd rfl rfl (fun K hK=>?_);go_simp;refine hK _ _ (fun u=>Below (w.heap.size+1) W u) (fun _ h=>h) (aa (Hm.o _ Hb4.o) (Nat.le_refl _) _ _) ?_;clear hK K Hm Hx Hb4
 repeat(refine yA ?_;walk_nrm)
 refine al ?_;clear HX Hr d1 d2 Hdl Hql Hpl hS
 go_wp2
 refine bodyPost_ret (cu rfl _ _ (w.heap.size+1) 0 (av X) _ rfl rfl ?_) rfl ⟨rfl,aa Hfin.o om _ _⟩;exact am _ _ _ _ _ sm hk4
end
section
open Go.RowKit
end
section
open Go.RowKit
end
section
section
variable (g:Nat) (d:RP) (n:Nat)
end
end
section
open Go.RowKit
end
section
def bp(len:Int):Int:=if len < 1 then 0 else len - 1
theorem qP(s len:Int)(w:World)(h1 : -100000≤len)(h2:len≤100000):
  Calls prog 116 #[.agg #[.int .i64 s,.int .i64 len]] w fun e w'=>e = .returned (.int .i64 (bp len))∧Below w.heap.size w w':=by
 have wr:IntKind.i64.wrap (len - 1)=len - 1:=wi
 by_cases h:len < 1
 ·have d:decide (len < 1)=true:=decide_eq_true h;rw[show bp len=0 from if_pos h]
  go_in
  go_wp2
  go_ret
  exact⟨rfl,ba _ (Below.refl _ _)⟩
 ·have d:decide (len < 1)=false:=decide_eq_false h;rw[show bp len=len - 1 from if_neg h]
  go_in
  go_wp2
  go_ret
  exact⟨rfl,ba _ (Below.refl _ _)⟩
theorem CA:(prog.info? 153).map (·.size)=some 2:=kr
theorem IK:prog.underlying 153=some (.struct (prog.fieldsOf 153)):=kr
theorem sE{w:World}{b:Nat}{x y:Value}(h:P2 w b x y):(loadVar 153 ⟨b,0,none⟩).run prog w = .ok (.agg #[x,y]) w:=az w b 0 2 153 _ _ h.r IK rfl CA
theorem zh(n:Nat)(w:World)(hn:n≤100000):
  Calls prog 82 #[.int .i64 n] w fun e w'=>e = .returned (.tuple #[.agg #[.int .i64 0,.int .i64 (n / 2:Nat)],.agg #[.int .i64 (n / 2:Nat),.int .i64 (n / 2:Nat)]])∧Below w.heap.size w w':=by
 go_in
 go_wp2_with fail
 rw[show ((n:Int) / 2)=((n / 2:Nat):Int) by omega]
 have h1:=(P2.made w 153 (.int .i64 0) (.int .i64 (n / 2:Nat))).below (ba (.cells #[.int .i64 (n / 2:Nat),.int .i64 (n / 2:Nat)] 153) (Below.refl _ _));have h2:=P2.made (w.alloc (.cells #[.int .i64 0,.int .i64 (n / 2:Nat)] 153)) 153 (.int .i64 (n / 2:Nat)) (.int .i64 (n / 2:Nat));rw[show (w.alloc (.cells #[.int .i64 0,.int .i64 (n / 2:Nat)] 153)).heap.size=w.heap.size+1 by simp] at h2
 refine bodyPost_ret (i9 _ _ ⟨w.heap.size,0,none⟩ ⟨w.heap.size+1,0,none⟩ _ _ rfl rfl rfl (sE h1) (sE h2)) rfl ⟨rfl,ba _ (ba _ (Below.refl _ _))⟩
section
variable {w w1 w2:World} {base n:Nat} {p:DP} {D D1 D2:DM}
theorem bm.pre(hb:Below w.heap.size w w1)(h:bm w1 base p n D2 w2):bm w base p n D2 w2:=bm.trans rfl (Kb.of_below hb) (fun _ h=>.inl h) h
theorem bm.post(h:bm w base p n D1 w1)(hb:Below w1.heap.size w1 w2):bm w base p n D1 w2:=by
 obtain⟨p',h1,h2,h3,h4⟩:=h;exact⟨p',h1,h2.below hb,h3.blw hb,h4⟩
end
theorem R0.write{D:DM}{n m:Nat}(h:R0 D n m)(k:Int)(x:Sj):R0 (bE D k x).1 n (m+2):=by
 unfold bE
 split
 ·exact h.more om
 ·split
  ·exact (h.tick.add k x).crash _
  ·split
   ·exact h.tick.more om
   ·split
    ·exact h.tick.add k x
    ·exact h.tick.more om
theorem R0.sync{D:DM}{n m:Nat}(h:R0 D n m):R0 (bz D).1 n (m+2):=by
 unfold bz
 split
 ·exact h.more om
 ·split
  ·exact (h.tick.crash _).more om
  ·split
   ·exact h.tick.more om
   ·exact h.tick.flush.more om
theorem cG{c k:Int}(h:c≠0):∃ T u,fg c k = .iface T u:=by
 rcases kD c k with h1 | h1 | h1
 ·exact absurd h1.1 h
 ·exact⟨_,_,h1.2⟩
 ·exact⟨_,_,h1.2.2⟩
def putD(D:DM)(s len place:Int)(g:Nat)(d:RP)(x:Nat):DM × Int :=
 if place < 1∨bp len < place then (D,13) else
 if (bE D (s+place) (dH g (ry d x))).2=0 then bz (bE D (s+place) (dH g (ry d x))).1 else bE D (s+place) (dH g (ry d x))
theorem Lr(p:DP)(base n m:Nat)(D:DM)(s len place:Int)(g:Nat)(d:RP)(x:Nat)(w:World)(h:RM w base p n D)(hD:R0 D n m)(hm:m+4≤100000)(hn:n≤5000)(hbase:base≤w.heap.size)
  (hs:0≤s∧s≤5000) (hl:0≤len∧len≤5000) (hp : -5000≤place∧place≤10000) (hg:g < 4294967296) (hx:x≤4611686018427387904) :
  Calls prog 153 #[.pointer (some ⟨p.B,0,none⟩),.agg #[.int .i64 s,.int .i64 len],.int .i64 place,.int .u32 g,.agg (ev d (x:Int))] w fun e w'=>(∃ k,e = .returned (fg (putD D s len place g d x).2 k))∧bm w base p n (putD D s len place g d x).1 w':=by
 have H:=SM h;have HD:=SM hD;clear h hD;obtain⟨R,hR⟩:=eY (putD D s len place g d x);rw[hR];have HR:=SM hR;clear hR;have hrm : -1≤bp len∧bp len≤5000:=by unfold bp;split <;> omega
 have hP:=P2.made w 153 (.int .i64 s) (.int .i64 len);have hE:=lx (w.alloc (.cells #[.int .i64 s,.int .i64 len] 153)) d (x:Int);have hP0:=hP.below (ba (.cells (ev d (x:Int)) 89) (Below.refl _ _));have hb0:=ba (.cells (ev d (x:Int)) 89) (ba (.cells #[.int .i64 s,.int .i64 len] 153) (Sy w));rw[show (w.alloc (.cells #[.int .i64 s,.int .i64 len] 153)).heap.size=w.heap.size+1 by simp] at hE
 go_in
 go_upto_region 1 with fail
 generalize (w.alloc (.cells #[.int .i64 s,.int .i64 len] 153)).alloc (.cells (ev d (x:Int)) 89)=w0 at *
 by_cases h1:place < 1
 ·have hRn:R=(D,13):=by rw[← HR.o];unfold putD;rw[if_pos (.inl h1)]
  have d1:decide (place < 1)=true:=decide_eq_true h1;subst hRn;clear h1
  go_wp2
  go_ret
  exact⟨⟨0,rfl⟩,(H.o.next hb0)⟩
 have d1:decide (place < 1)=false:=decide_eq_false h1;have q0:=hP0.c0;have q1:=hP0.c1
 go_wp2_with fail
 refine (qP s len w0 om om).mono ?_;rintro _ w1 ⟨rfl,hb1⟩;have HP:=SM (hP0.below hb1);have HE:=SM (show readAt w1 (w.heap.size+1) 0 33=some (ev d (x:Int)) by rw[ak hb1 (ac hE)];exact hE)
 have Hb1:=SM (bt hb0 hb1);clear hP hE hP0 hb0 hb1 q0 q1
 by_cases h2:bp len < place
 ·have hRn:R=(D,13):=by rw[← HR.o];unfold putD;rw[if_pos (.inr h2)]
  have d2:decide (bp len < place)=true:=decide_eq_true h2;subst hRn;clear h1 h2
  go_wp2
  go_ret
  exact⟨⟨0,rfl⟩,H.o.next Hb1.o⟩
 have d2:decide (bp len < place)=false:=decide_eq_false h2;have hRn:R=if (bE D (s+place) (dH g (ry d x))).2=0 then bz (bE D (s+place) (dH g (ry d x))).1 else bE D (s+place) (dH g (ry d x)):=by rw[← HR.o];unfold putD;rw[if_neg om]
 have HRn:=SM hRn;have hpl:1≤place∧place≤5000:=om;have w1':IntKind.i64.wrap (s+place)=s+place:=wi;have qe:=HE.o;clear h1 h2 hRn HR
 go_wp2_with fail
 refine (oP g d x w1 hg hx).mono ?_;rintro _ w2 ⟨rfl,hb2⟩;have HP2:=SM (HP.o.below hb2);have Hb2:=SM (bt Hb1.o hb2);clear HP HE Hb1 hb2 qe;obtain⟨z,hz⟩:=eY (dH g (ry d x));rw[hz] at HRn ⊢;clear hz;have hb3:=ba (.cells (av z) 201) (Sy w2);have HP3:=SM (HP2.o.below hb3);have Hb3:=SM (bt Hb2.o hb3);have q0:=HP3.o.c0;have qz:readAt (w2.alloc (.cells (av z) 201)) w2.heap.size 0 64=some (av z):=by simp[go_sem]
 clear HP2 Hb2 hb3
 go_wp2_with fail
 generalize w2.alloc (.cells (av z) 201)=w3 at *;have hbs3:=Hb3.o.size;refine (kz w3 (s+place) z m (H.o.below Hb3.o) HD.o om hn om).mono ?_;rintro e w4 ⟨he,hN⟩;have hN4:=hN.pre Hb3.o;have HN4:=SM hN4;have HD4:=SM (HD.o.write (s+place) z);obtain⟨D4,hD4⟩:=eY ((bE D (s+place) z).1);obtain⟨c4,hc4⟩:=eY ((bE D (s+place) z).2);have hpr:bE D (s+place) z=(D4,c4):=by rw[← hD4,← hc4]
 rw[hpr] at HRn;rw[hD4] at HN4 HD4;rw[hc4] at he;subst he;have hbs4:w.heap.size≤w4.heap.size:=by obtain⟨_,_,_,hk,_⟩:=HN4.o;exact hk.size
 clear hN hN4 hpr hD4 hc4 HP3 qz q0 Hb3
 by_cases h0:c4=0
 ·subst h0;have hRn:R=bz D4:=by rw[HRn.o];simp
  subst hRn;rw[dM]
  go_wp2_with fail
  obtain⟨p4,hpB,hA4,hk4,hh4⟩:=HN4.o;rw[← hpB];refine (jD w4 (m+2) hA4 HD4.o om hn om).mono ?_;rintro e w5 ⟨rfl,hN5⟩;have HN5:=SM (bm.trans hpB hk4 hh4 hN5);obtain⟨vv,hvv⟩:=eY (fg (bz D4).2 0);rw[hvv];have Hvv:=SM hvv;clear hvv
  go_wp2
  go_ret
  exact⟨⟨0,congrArg Ending.returned Hvv.o.symm⟩,HN5.o⟩
 ·have hRn:R=(D4,c4):=by rw[HRn.o];simp only;rw[if_neg h0]
  subst hRn;obtain⟨T,u,he⟩:=cG (k:=s+place) h0;rw[he];have Hhe:=SM he;clear he
  go_wp2
  go_ret
  exact⟨⟨s+place,congrArg Ending.returned Hhe.o.symm⟩,HN4.o⟩
def commitD(D:DM)(s:Int)(g:Nat):DM × Int :=
 if (bE D s (dH g toll)).2=0 then bz (bE D s (dH g toll)).1 else bE D s (dH g toll)
theorem oK(p:DP)(base n m:Nat)(D:DM)(s len:Int)(g:Nat)(w:World)(h:RM w base p n D)(hD:R0 D n m)(hm:m+4≤100000)(hn:n≤5000)(hbase:base≤w.heap.size)(hg:g < 4294967296):
  Calls prog 79 #[.pointer (some ⟨p.B,0,none⟩),.agg #[.int .i64 s,.int .i64 len],.int .u32 g] w fun e w'=>(∃ k,e = .returned (fg (commitD D s g).2 k))∧bm w base p n (commitD D s g).1 w':=by
 have H:=SM h;have HD:=SM hD;clear h hD;obtain⟨R,hR⟩:=eY (commitD D s g);rw[hR];obtain⟨z,hz⟩:=eY (dH g toll);unfold commitD at hR;rw[hz] at hR;have HRn:=SM hR.symm;have Hz:=SM hz;clear hR hz;have hP:=P2.made w 153 (.int .i64 s) (.int .i64 len);have hb0:=ba (.cells #[.int .i64 s,.int .i64 len] 153) (Sy w)
 go_in
 go_upto_region 1 with fail
 generalize w.alloc (.cells #[.int .i64 s,.int .i64 len] 153)=w0 at *;have hPd:=hP.drew;refine yW (tk 0 4 (.run 4 (.run 5 (.take 6 .done)))) (fun u=>P2 u w.heap.size (.int .i64 s) (.int .i64 len)) hPd ?_;have hb1:=hb0.drew;generalize w0.drew=w1 at *;clear hb0 hP
 repeat((first|refine yO ?_|refine yM ?_|refine yF rfl rfl (fun w' hC'=>by have q0:=hC'.c0;go_simp;first|done|exact rfl) ?_);walk_nrm)
 refine yR ?_;refine (zk g w1 hg).mono ?_;rintro _ w2 ⟨rfl,hb2⟩;have hP2:=hPd.below hb2;have Hb2:=SM (bt hb1 hb2);clear hb1 hb2 hPd;refine kS hP2 ?_;walk_nrm;rw[Hz.o];refine yR ?_;have hbs2:=Hb2.o.size;refine (kz w2 s z m (H.o.below Hb2.o) HD.o om hn om).mono ?_;rintro e w4 ⟨he,hN⟩;have hP4:P2 w4 w.heap.size (.int .i64 s) (.int .i64 len):=by
  obtain⟨_,_,_,hk,_⟩:=hN;exact hP2.same (hk.block _ hP2.lt (fun hh=>by have:=H.o.has_lt _ hh;omega))
 have HN4:=SM (hN.pre Hb2.o);have HD4:=SM (HD.o.write s z);obtain⟨D4,hD4⟩:=eY ((bE D s z).1);obtain⟨c4,hc4⟩:=eY ((bE D s z).2);have hpr:bE D s z=(D4,c4):=by rw[← hD4,← hc4]
 rw[hpr] at HRn;rw[hD4] at HN4 HD4;rw[hc4] at he;subst he;have hbs4:w.heap.size≤w4.heap.size:=by obtain⟨_,_,_,hk,_⟩:=HN4.o;exact hk.size
 clear hN hpr hD4 hc4 Hb2 hP2;refine kS hP4 ?_;walk_nrm
 by_cases h0:c4=0
 ·subst h0;have hRn:R=bz D4:=by rw[HRn.o];simp
  subst hRn;rw[dM]
  repeat(refine yA ?_;walk_nrm)
  refine al ?_
  go_wp2_with fail
  obtain⟨p4,hpB,hA4,hk4,hh4⟩:=HN4.o;rw[← hpB];refine (jD w4 (m+2) hA4 HD4.o om hn om).mono ?_;rintro e w5 ⟨rfl,hN5⟩;have HN5:=SM (bm.trans hpB hk4 hh4 hN5);obtain⟨vv,hvv⟩:=eY (fg (bz D4).2 0);rw[hvv];have Hvv:=SM hvv;clear hvv
  go_wp2
  go_ret
  exact⟨⟨0,congrArg Ending.returned Hvv.o.symm⟩,HN5.o⟩
 ·have hRn:R=(D4,c4):=by rw[HRn.o];simp only;rw[if_neg h0]
  subst hRn;obtain⟨T,u,he⟩:=cG (k:=s) h0;rw[he];have Hhe:=SM he;clear he
  repeat(refine yA ?_;walk_nrm)
  refine al ?_
  go_wp2
  go_ret
  exact⟨⟨s,congrArg Ending.returned Hhe.o.symm⟩,HN4.o⟩
end
end Go.Proofs.YtlcfaaodmickbaaGreatDoor
