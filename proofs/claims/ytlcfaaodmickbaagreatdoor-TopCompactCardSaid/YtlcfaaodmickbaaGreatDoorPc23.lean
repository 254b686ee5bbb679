/- Part 23 of the proof: texts merged and shortened by a program. No conditions. -/
import Derived.Deep.DeepAppendRoom
import Derived.Test.YtlcfaaodmickbaaGreatDoorPc22
set_option linter.unusedSimpArgs false
set_option linter.unusedVariables false
set_option maxRecDepth 100000
set_option maxHeartbeats 8000000
namespace Go.Proofs.YtlcfaaodmickbaaGreatDoor
open Go.RowKit Go.Proofs.Tryz
section
theorem CY(w:World)(base n m V b:Nat)(p:DP)(q:CP)(v:VM)(o:R5)(dv cv:Value)(h:So w base p V q n v)(hI:VI n m v)(hM:bL w b v.key (some ⟨p.B,0,none⟩) (some ⟨V,0,none⟩))(hb : ¬ VX p V q v.c b)(hC:uw w o dv cv)(hm:m≤99000)(hn:n≤100)(hN:o.N≤1048576)(hcl:o.cuts.length≤100000)(hbase:base≤w.heap.size):
  Calls prog 49 #[.pointer (some ⟨b,0,none⟩),.agg (Td o dv cv)] w fun e w'=>e = .returned (.tuple #[.int .i64 0,.agg (fw B8 bO)])∧aF w base p V q v.c n { v with D:=bP v.D o.N false [] } w':=by
 obtain⟨w1,hw1,hO,hG,hbw,hz⟩:=gA w o dv cv;have hM1:=hM.below hbw;have h1:=h.below hbw;have hC1:=hC.below hbw;have hlt:∀ i,VX p V q v.c i→i < w.heap.size:=fun i hi=>h.lt hi;have Hlt:=SM hlt;have Hb:=SM hb;have HI:=SM hI;clear h hM hb hI hlt hC
 go_in
 go_wp2_with fail
 clear hw1;have hdb:=(Sy w1).drew;refine yW (tk 0 6 (.run 6 .done)) (fun u=>bL u b v.key (some ⟨p.B,0,none⟩) (some ⟨V,0,none⟩)∧Bk u w.heap.size (Td o dv cv)) ⟨hM1.drew,hO.drew⟩ ?_;have hM2:=hM1.drew;have hO2:=hO.drew;have hG2:=hG.drew;have h2:=h1.below hdb;have hC2:=hC1.below hdb;have Hbw:=SM (bt hbw hdb);have hz2:w1.drew.heap.size=w.heap.size+2:=hz;clear hdb hM1 hO hG h1 hbw hz hC1;generalize w1.drew=w2 at *
 repeat((first|refine yO ?_|refine yM ?_|refine yF rfl rfl (fun w' hC'=>by obtain⟨hM',hO'⟩:=hC';have c2:=hM'.f1;have c1:=O2 hO';have c3:=QE hO';go_simp;first|done|exact rfl) ?_);walk_nrm)
 refine yR ?_;refine (mC w2 o.N m [] h2.D HI.o.D om hN).mono ?_;rintro _ w3 ⟨rfl,hN⟩;have hN:=bm.ver h2 hN;have hO3:Bk w3 w.heap.size (Td o dv cv):=by
  obtain⟨_,_,_,_,hk,_⟩:=hN;exact hO2.same (hk.block _ hO2.lt (fun hx=>by have:=Hlt.o _ hx;omega))
 have hM3:bL w3 b v.key (some ⟨p.B,0,none⟩) (some ⟨V,0,none⟩):=by
  obtain⟨_,_,_,_,hk,_⟩:=hN;exact hM2.same (hk.block _ hM2.lt Hb.o)
 have hG3:Row B8 w3 (w.heap.size+1) bO:=by
  obtain⟨_,_,_,_,hk,_⟩:=hN;exact hG2.same (hk.block _ hG2.lt (fun hx=>by have:=Hlt.o _ hx;omega))
 refine kS ⟨hM3,hO3⟩ ?_;walk_nrm
 repeat(refine yA ?_;walk_nrm)
 refine al ?_;have k3:=hG3.k;have hfin:=SM (aF.side Hbw.o hN (cK w3 (w.heap.size+1) 0 (fw B8 bO)) om om (fun hx=>by have:=Hlt.o _ hx;omega))
 have hG4:=SM (hG3.put bO);clear hN hO3 hM3 hG3 hM2 hO2 hG2 h2 hC2
 go_wp2
 refine bodyPost_ret (d8 rfl rfl rfl (fX hG4.o)) rfl ⟨rfl,hfin.o⟩
theorem zu(w:World)(base n m V b:Nat)(p:DP)(q:CP)(v:VM)(o:R5)(dv cv:Value)(h:So w base p V q n v)(hI:VI n m v)(hM:bL w b v.key (some ⟨p.B,0,none⟩) (some ⟨V,0,none⟩))(hb : ¬ VX p V q v.c b)(hC:uw w o dv cv)(hm:m≤99000)(hn:n≤100)(hN:o.N≤1048576)(hcl:o.cuts.length≤100000)(hbase:base≤w.heap.size):
  Calls prog 50 #[.pointer (some ⟨b,0,none⟩),.agg (Td o dv cv)] w fun e w'=>e = .returned (.tuple #[.int .i64 0,.agg (fw B8 bO)])∧aF w base p V q v.c n (if o.N=0 then { v with D:=de v.D o.cuts } else { v with D:=bP v.D o.N true o.cuts }) w':=by
 obtain⟨w1,hw1,hO,hG,hbw,hz⟩:=gA w o dv cv;have hM1:=hM.below hbw;have h1:=h.below hbw;have hC1:=hC.below hbw;have hlt:∀ i,VX p V q v.c i→i < w.heap.size:=fun i hi=>h.lt hi;have Hlt:=SM hlt;have Hb:=SM hb;have HI:=SM hI;clear h hM hb hI hlt hC
 go_in
 have n0:=O2 hO
 by_cases h0:o.N=0
 ·have d0:(o.N == 0)=true:=by rw[h0];rfl
  rw[if_pos h0];clear h0
  go_wp2_with fail
  clear hw1 n0 d0;have hdb:=(Sy w1).drew;refine yW (tk 0 6 (.run 6 .done)) (fun u=>bL u b v.key (some ⟨p.B,0,none⟩) (some ⟨V,0,none⟩)∧Bk u w.heap.size (Td o dv cv)) ⟨hM1.drew,hO.drew⟩ ?_;have hM2:=hM1.drew;have hO2:=hO.drew;have hG2:=hG.drew;have h2:=h1.below hdb;have hC2:=hC1.below hdb;have Hbw:=SM (bt hbw hdb);have hz2:w1.drew.heap.size=w.heap.size+2:=hz;clear hdb hM1 hO hG h1 hbw hz hC1;generalize w1.drew=w2 at *
  repeat((first|refine yO ?_|refine yM ?_|refine yF rfl rfl (fun w' hC'=>by obtain⟨hM',hO'⟩:=hC';have c2:=hM'.f1;have c1:=O2 hO';have c3:=QE hO';go_simp;first|done|exact rfl) ?_);walk_nrm)
  refine yR ?_;refine (fx w2 cv o.cuts m h2.D HI.o.D om om om hC2.c).mono ?_;rintro _ w3 ⟨rfl,hN⟩;have hN:=bm.ver h2 hN;have hO3:Bk w3 w.heap.size (Td o dv cv):=by
   obtain⟨_,_,_,_,hk,_⟩:=hN;exact hO2.same (hk.block _ hO2.lt (fun hx=>by have:=Hlt.o _ hx;omega))
  have hM3:bL w3 b v.key (some ⟨p.B,0,none⟩) (some ⟨V,0,none⟩):=by
   obtain⟨_,_,_,_,hk,_⟩:=hN;exact hM2.same (hk.block _ hM2.lt Hb.o)
  have hG3:Row B8 w3 (w.heap.size+1) bO:=by
   obtain⟨_,_,_,_,hk,_⟩:=hN;exact hG2.same (hk.block _ hG2.lt (fun hx=>by have:=Hlt.o _ hx;omega))
  refine kS ⟨hM3,hO3⟩ ?_;walk_nrm
  repeat(refine yA ?_;walk_nrm)
  refine al ?_;have k3:=hG3.k;have hfin:=SM (aF.side Hbw.o hN (cK w3 (w.heap.size+1) 0 (fw B8 bO)) om om (fun hx=>by have:=Hlt.o _ hx;omega))
  have hG4:=SM (hG3.put bO);clear hN hO3 hM3 hG3 hM2 hO2 hG2 h2 hC2
  go_wp2
  refine bodyPost_ret (d8 rfl rfl rfl (fX hG4.o)) rfl ⟨rfl,hfin.o⟩
 ·have d0:(o.N == 0)=false:=by simpa using h0
  rw[if_neg h0];clear h0
  go_wp2_with fail
  clear hw1 n0 d0;have hdb:=(Sy w1).drew;refine yW (tk 0 8 (.run 8 .done)) (fun u=>bL u b v.key (some ⟨p.B,0,none⟩) (some ⟨V,0,none⟩)∧Bk u w.heap.size (Td o dv cv)) ⟨hM1.drew,hO.drew⟩ ?_;have hM2:=hM1.drew;have hO2:=hO.drew;have hG2:=hG.drew;have h2:=h1.below hdb;have hC2:=hC1.below hdb;have Hbw:=SM (bt hbw hdb);have hz2:w1.drew.heap.size=w.heap.size+2:=hz;clear hdb hM1 hO hG h1 hbw hz hC1;generalize w1.drew=w2 at *
  repeat((first|refine yO ?_|refine yM ?_|refine yF rfl rfl (fun w' hC'=>by obtain⟨hM',hO'⟩:=hC';have c2:=hM'.f1;have c1:=O2 hO';have c3:=QE hO';go_simp;first|done|exact rfl) ?_);walk_nrm)
  refine yR ?_;refine (dY w2 o.N cv o.cuts m h2.D HI.o.D om hN om hcl hC2.c).mono ?_;rintro _ w3 ⟨rfl,hN⟩;have hN:=bm.ver h2 hN;have hO3:Bk w3 w.heap.size (Td o dv cv):=by
   obtain⟨_,_,_,_,hk,_⟩:=hN;exact hO2.same (hk.block _ hO2.lt (fun hx=>by have:=Hlt.o _ hx;omega))
  have hM3:bL w3 b v.key (some ⟨p.B,0,none⟩) (some ⟨V,0,none⟩):=by
   obtain⟨_,_,_,_,hk,_⟩:=hN;exact hM2.same (hk.block _ hM2.lt Hb.o)
  have hG3:Row B8 w3 (w.heap.size+1) bO:=by
   obtain⟨_,_,_,_,hk,_⟩:=hN;exact hG2.same (hk.block _ hG2.lt (fun hx=>by have:=Hlt.o _ hx;omega))
  refine kS ⟨hM3,hO3⟩ ?_;walk_nrm
  repeat(refine yA ?_;walk_nrm)
  refine al ?_;have k3:=hG3.k;have hfin:=SM (aF.side Hbw.o hN (cK w3 (w.heap.size+1) 0 (fw B8 bO)) om om (fun hx=>by have:=Hlt.o _ hx;omega))
  have hG4:=SM (hG3.put bO);clear hN hO3 hM3 hG3 hM2 hO2 hG2 h2 hC2
  go_wp2
  refine bodyPost_ret (d8 rfl rfl rfl (fX hG4.o)) rfl ⟨rfl,hfin.o⟩
end
section
open Go Go.RowKit
inductive Tr3 where
 | take (i:Nat) (t:Tr3)
 | three (i:Nat) (t:Tr) (j:Nat) (u:Tr) (k:Nat) (s:Tr)
def Tr3.len:Tr3→Nat
 | .take _ t=>t.len+1
 | .three _ t _ _ _ _=>t.len+1
def MQ(P:Program)(ops:Array Oper)(Q:Exit→Act→World→Prop):Tr3→(World→Prop)→Act→World→Prop
 | .take i t,S,a,w=>∃ o v,ops[i]? = some o∧YieldsIf P ops S o v a∧MQ P ops Q t S (a.put o.dst v) w
 | .three i t j u k s,S,a,w=>Tp P ops Q (.run i t) S a w∧Tp P ops Q (.run j u) S a w∧Tp P ops Q (.run k s) S a w
def Po(md:Region.Mode)(ops:Array Oper):Tr3→Array Bool→Bool
 | .take i t,l=>Region.free md ops l i && (Region.ready md ops l).contains i && Po md ops t (l.setIfInBounds i true)
 | .three i t j u k s,l=>Region.ready md ops l == [i,j,k] && t.len == u.len && t.len == s.len && t.next == none && u.next == none && s.next == none && Tl md ops t (l.setIfInBounds i true) && Tl md ops u (l.setIfInBounds j true) && Tl md ops s (l.setIfInBounds k true)
section
variable {P:Program} {ops:Array Oper} {Q:Exit→Act→World→Prop} {md:Region.Mode} {S:World→Prop}
theorem ks(hs:Region.noSelect ops=true)(hQ:∀ c a d v w,Q (.panic c) (Act.put a d v) w→Q (.panic c) a w):
  ∀ (t:Tr3) (S:World→Prop) (listed:Array Bool) (a:Act) (w:World),Po md ops t listed=true→nY md ops listed→S w→MQ P ops Q t S a w→ip P md ops Q none S t.len listed a w
 | .take i t,S,l,a,w,hb,hsh,hS,h=>by
  simp only[Po,Bool.and_eq_true] at hb;obtain⟨o,v,ho,hy,hn⟩:=h;exact nO ho hs rfl (fun c a w h=>hQ c a _ _ w h) _ _ _ _ hsh (Region.free_spec ho hb.1.1) (by simpa using hb.1.2) hy hS (ks hs hQ t S _ _ w hb.2 (hsh.set (by simpa using hb.1.2)) hS hn)
 | .three i t j u k s,S,l,a,w,hb,hsh,hS,h=>by
  simp only[Po,Bool.and_eq_true,beq_iff_eq] at hb;obtain⟨⟨⟨⟨⟨⟨⟨⟨hr,hl1⟩,hl2⟩,ht⟩,hu⟩,hs'⟩,hb1⟩,hb2⟩,hb3⟩:=hb;refine⟨fun h0=>absurd (hr.symm.trans h0) sm,fun x hx=>?_⟩;have hx0:=hx;rw[hr] at hx;have hx:x=i∨x=j∨x=k:=by simpa using hx
  rcases hx with rfl | rfl | rfl
  ·refine wpOp_mono (fun a' w' ⟨S',h1,h2,h3⟩=>.inr ⟨sm,h1 _ h2,dj h1 _ _ _ _ ?_⟩) h.1;have h4:=bD hs hQ t S' _ _ _ hb1 (hsh.set hx0) h2 h3;rw[ht] at h4;exact h4
  ·refine wpOp_mono (fun a' w' ⟨S',h1,h2,h3⟩=>.inr ⟨sm,h1 _ h2,dj h1 _ _ _ _ ?_⟩) h.2.1;have h4:=bD hs hQ u S' _ _ _ hb2 (hsh.set hx0) h2 h3;rw[hu,← hl1] at h4;exact h4
  ·refine wpOp_mono (fun a' w' ⟨S',h1,h2,h3⟩=>.inr ⟨sm,h1 _ h2,dj h1 _ _ _ _ ?_⟩) h.2.2;have h4:=bD hs hQ s S' _ _ _ hb3 (hsh.set hx0) h2 h3;rw[hs',← hl2] at h4;exact h4
theorem rp{id:Nat}{a:Act}{w:World}(t:Tr3)(S:World→Prop)(hm:P.follows .mixedOrders=true)(hs:Region.noSelect ops=true)
  (hl:ops.size=t.len) (hb:Po .any ops t (Array.replicate ops.size false)=true) (hS:S w.drew) (h:MQ P ops (NP Q) t S a w.drew):(Code.region id ops true).wp P Q a w:=by
 refine Code.wp_mono NP.imp ?_;refine wp_region_any hm ?_;have h1:=gQ _ _ _ _ (ks (md:=.any) hs (fun c a d v w h=>h) t S _ _ _ hb (fun m o _ hm=>(by simp[Array.getD] at hm)) hS h)
 rw[← hl] at h1;exact h1
variable {i:Nat} {o:Oper} {t:Tr3} {a:Act} {w:World}
theorem Pn(ho:ops[i]? = some o)(hw:Region.wanted o (yielded ops a.tmps)=true)(h:∃ v,(∀ w,S w→(execOp a.eval o).run P w = .ok (.value v) w)∧MQ P ops Q t S (a.put o.dst v) w):MQ P ops Q (.take i t) S a w :=
 let ⟨v,h1,h2⟩:=h
 ⟨o,v,ho,.inl ⟨hw,h1⟩,h2⟩
theorem Mw(ho:ops[i]? = some o)(x:Operand)(hx:o.op = .move x)(hw:Region.wanted o (yielded ops a.tmps)=true)(h:MQ P ops Q t S (a.put o.dst (a.eval x)) w):MQ P ops Q (.take i t) S a w :=
 ⟨o,_,ho,.inl ⟨hw,fun w _=>by rw[execOp,hx];rfl⟩,h⟩
end
end
section
def QA(R:Except Nat (t6 × iq))(L1 L2:Nat)(u:World)(r2:ByteArray)(ad2:Option Addr)(n2 c2:Nat)(tt mm qq:Int)(code:Nat):Prop :=
 match R with
 | .error c=>code=c
 | .ok (_,a)=>code=0∧r2=aY a.1∧n2=a.2.1.length∧tt=(a.2.2.1:Nat)∧mm=(a.2.2.2.1:Nat)∧qq=(a.2.2.2.2:Nat)∧aM u ad2 n2 c2 (a.2.1.map aY)∧∃ bb oo,ad2=some ⟨bb,oo,none⟩∧L1≤bb∧bb < L2
theorem QA.same{R:Except Nat (t6 × iq)}{L1 L2:Nat}{u u':World}{r2:ByteArray}{ad2:Option Addr}{n2 c2:Nat}{tt mm qq:Int}{code:Nat}(h:QA R L1 L2 u r2 ad2 n2 c2 tt mm qq code)(hb:∀ g,L1≤g→g < L2→u'.heap[g]? = u.heap[g]?):QA R L1 L2 u' r2 ad2 n2 c2 tt mm qq code:=by
 unfold QA at *;cases R with
 | error c=>exact h
 | ok t =>
  obtain⟨h1,h2,h3,h4,h5,h6,h7,bb,oo,h8,h9,h10⟩:=h;refine⟨h1,h2,h3,h4,h5,h6,⟨h7.1,h7.2.same (fun g hg hl=>?_)⟩,bb,oo,h8,h9,h10⟩;subst h8;simp only[Value.ownBlock,Option.some.injEq] at hg;subst hg;exact hb bb h9 h10
theorem QA.below{R:Except Nat (t6 × iq)}{L1 L2:Nat}{u u':World}{r2:ByteArray}{ad2:Option Addr}{n2 c2:Nat}{tt mm qq:Int}{code:Nat}(h:QA R L1 L2 u r2 ad2 n2 c2 tt mm qq code)(hL:L2≤u.heap.size)(hb:Below u.heap.size u u'):QA R L1 L2 u' r2 ad2 n2 c2 tt mm qq code :=
 h.same (fun g _ hg=>hb.block g om)
theorem DA{R:Except Nat (t6 × iq)}{base:Nat}{e:Ending}{w':World}{key:RW}{l:List UInt8}(hR:eC key l=R)(h:pS R base e w'):∃ r ad n c s en k r2 ad2 n2 c2 tt mm qq code,e = .returned (.tuple #[.agg (tv r ad n c s en k),.agg (St r2 ad2 n2 c2 tt mm qq),.int .i64 (code:Nat)])∧QA R base w'.heap.size w' r2 ad2 n2 c2 tt mm qq code:=by
 cases R with
 | error c=>exact⟨_,_,_,_,_,_,_,_,_,_,_,_,_,_,c,h,rfl⟩
 | ok ta =>
  obtain⟨⟨r,ps,st,en,k⟩,r',ps',t,m,q⟩:=ta;obtain⟨ad,c,ad2,c2,rfl,_,_,h3,h4⟩:=h;have hn:=(iK (qK hR).2.1).2.1;obtain⟨hl,ad',cap,hv,_,_,_,_,h6⟩:=h3;simp only[Value.slice.injEq] at hv;obtain⟨rfl,_,rfl⟩:=hv;have h1':1≤ps'.length:=by simpa using hn
  have hn':0 < ps'.length:=om;obtain⟨b,o,he,hr⟩:=h6 hn';exact⟨_,_,_,_,_,_,_,_,ad2,_,c2,_,_,_,0,rfl,rfl,rfl,rfl,rfl,rfl,rfl,⟨hl,_,_,rfl,by assumption,by assumption,by assumption,by assumption,h6⟩,b,o,he,h4 _ he,ac hr⟩
def Jj(key:RW)(l:List UInt8):RP:=match eC key l with | .error _=>bO | .ok (_,a)=>iA a
def RR(b O G V:Nat)(key:RW)(d:Option Addr)(o:R5)(dv cv:Value)(u:World):Prop:=bL u b key d (some ⟨V,0,none⟩)∧Bk u O (Td o dv cv)∧Row B8 u G bO
theorem RR.below{b O G V:Nat}{key:RW}{d:Option Addr}{o:R5}{dv cv:Value}{u u':World}(h:RR b O G V key d o dv cv u)(hb:Below u.heap.size u u'):RR b O G V key d o dv cv u':=⟨h.1.below hb,h.2.1.below hb,h.2.2.below hb⟩
theorem RR.kb{b O G V:Nat}{key:RW}{d:Option Addr}{o:R5}{dv cv:Value}{u u':World}(h:RR b O G V key d o dv cv u){A:Nat}(hk:Kb (fun i=>i=A) u u')(h1:b≠A)(h2:O≠A)(h3:G≠A):RR b O G V key d o dv cv u' :=
 ⟨h.1.same (hk.block b h.1.lt h1),h.2.1.same (hk.block O h.2.1.lt h2),h.2.2.same (hk.block G h.2.2.lt h3)⟩
theorem vh(w:World)(base n m V b:Nat)(p:DP)(q:CP)(v:VM)(o:R5)(dv cv:Value)(d:Option Addr)(h:So w base p V q n v)(hI:VI n m v)(hM:bL w b v.key d (some ⟨V,0,none⟩))(hb : ¬ VX p V q v.c b)(hC:uw w o dv cv)(hg:GK w)(hdv:0 < o.data.length→∀ g,dv.ownBlock=some g→g < base)(hd:o.data.length≤1000000)(hm:m+120≤100000)(hn:n≤100)(hb0:0 < base)(hbase:base≤w.heap.size):
  Calls Tryz.prog 47 #[.pointer (some ⟨b,0,none⟩),.agg (Td o dv cv)] w fun e w'=>e = .returned (.tuple #[.int .i64 (aU v o.data).2,.agg (fw B8 (Jj v.key o.data))])∧aF w base p V q v.c n (aU v o.data).1 w':=by
 obtain⟨DG,hDG⟩ : ∃ x,Jj v.key o.data=x:=⟨_,rfl⟩;rw[hDG];obtain⟨R,hR⟩ : ∃ R,aU v o.data=R:=⟨_,rfl⟩;rw[hR];have HR:=SM hR;clear hR;have HDG:=SM hDG;clear hDG;obtain⟨w1,hw1,hO,hG,hbw,hz⟩:=gA w o dv cv;obtain⟨ad,nn,cc,hl,hBs,rfl⟩ : ∃ ad nn cc,o.data.length=nn∧Bs w ad nn cc o.data∧dv = .slice ad nn cc:=by
  obtain⟨ad,c,h1,h2⟩:=hC.d;exact⟨ad,_,c,rfl,h2,h1⟩
 have hnn:nn≤1000000:=by omega
 rw[hl] at hdv;have hM1:=hM.below hbw;have h1:=h.below hbw;have hg1:=hg.below hg.1 hbw;have hB1:=hBs.below hbw;have hlt:∀ i,VX p V q v.c i→base≤i∧i < w.heap.size:=fun i hi=>⟨h.lo' hi,h.lt hi⟩;have Hlt:=SM hlt;have Hb:=SM hb;have HI:=SM hI;have Hdv:=SM hdv;clear h hM hb hI hlt hg hBs hC hl hd hdv
 go_enter Tryz.func47,Tryz.ntmps47
 go_wp2_with fail
 clear hw1;have hdb:=(Sy w1).drew;refine gm (.take 0 (.take 1 (.take 2 (.take 3 (.take 4 (.take 5 (.run 6 (.take 7 .done)))))))) (fun u=>bL u b v.key d (some ⟨V,0,none⟩)∧Bk u w.heap.size (Td o (.slice ad nn cc) cv)) (by kernel_rfl) (by kernel_rfl) rfl (by kernel_rfl) ⟨hM1.drew,hO.drew⟩ ?_
 have hM2:=hM1.drew;have hO2:=hO.drew;have hG2:=hG.drew;have h2:=h1.below hdb;have hg2:=hg1.below hg1.1 hdb;have hB2:=hB1.below hdb;have Hbw:=SM (bt hbw hdb);have hz2:w1.drew.heap.size=w.heap.size+2:=hz;clear hdb hM1 hO hG h1 hbw hz hg1 hB1;generalize w1.drew=wa at *
 repeat ((first | refine rg rfl rfl ?_ | refine kj rfl _ rfl rfl ?_ | refine ft rfl _ rfl rfl ?_ | (refine ju rfl rfl ?_;apply Exists.intro;refine⟨fun w' hC'=>?_,?_⟩;(obtain⟨hM',hO'⟩:=hC';have c2:=hM'.f2;have c1:=Q6 hO';go_simp;(first | done | exact rfl))));walk_nrm)
 refine DF rfl rfl ?_;apply Exists.intro;apply Exists.intro;refine⟨?_,?_⟩;(go_simp;exact⟨rfl,rfl⟩);refine (ig wa base n m V p q v ad nn cc o.data h2 HI.out hg2 hB2 hnn hm hn hb0 (by omega)).mono ?_
 rintro _ w3 ⟨rfl,hN⟩;rw[HR.out] at hN ⊢;have hk3:Kb (VX p V q v.c) wa w3:=by obtain⟨_,_,_,_,hk,_⟩:=hN;exact hk
 have hO3:Bk w3 w.heap.size (Td o (.slice ad nn cc) cv):=hO2.same (hk3.block _ hO2.lt (fun hx=>by have:=(Hlt.out _ hx).2;omega))
 have hM3:bL w3 b v.key d (some ⟨V,0,none⟩):=hM2.same (hk3.block _ hM2.lt Hb.out);have hG3:Row B8 w3 (w.heap.size+1) bO:=hG2.same (hk3.block _ hG2.lt (fun hx=>by have:=(Hlt.out _ hx).2;omega))
 have hg3:=hg2.kb hk3 (fun hx=>by have:=(Hlt.out _ hx).1;omega)
 have hB3:Bs w3 ad nn cc o.data:=by
  obtain⟨b1,b2,b3,b4,b5⟩:=hB2;refine⟨b1,b2,b3,b4,fun h0=>?_⟩;obtain⟨bb,oo,he,hr⟩:=b5 h0;subst he;refine⟨bb,oo,rfl,?_⟩;rw[← hr];simp[readAt,hk3.block bb (ac hr) (fun hx=>by have:=(Hlt.out _ hx).1;have:=Hdv.out (by omega) bb rfl;omega)]
 refine⟨_,rfl,fun u=>bL u b v.key d (some ⟨V,0,none⟩)∧Bk u w.heap.size (Td o (.slice ad nn cc) cv),fun _ h=>h,⟨hM3,hO3⟩,?_⟩;walk_nrm
 repeat ((first | refine rg rfl rfl ?_ | refine kj rfl _ rfl rfl ?_ | refine ft rfl _ rfl rfl ?_ | (refine ju rfl rfl ?_;apply Exists.intro;refine⟨fun w' hC'=>?_,?_⟩;(skip;go_simp;(first | done | exact rfl))));walk_nrm)
 refine al ?_;have HN:=SM hN;have HG3:=SM hg3;clear hM2 hO2 hG2 h2 hg2 hB2 hN hg3 hk3;obtain⟨O,hOe⟩ : ∃ O,w.heap.size=O:=⟨_,rfl⟩;obtain⟨G,hGe⟩ : ∃ G,w.heap.size+1=G:=⟨_,rfl⟩;rw[hGe] at hG3;rw[hOe] at hO3;have hz3:w.heap.size+2≤w3.heap.size:=by have:=hG3.lt;omega
 rw[hGe,hOe];have hOG:O < G:=by omega
 obtain⟨Rq,hRq⟩ : ∃ Rq,eC v.key o.data=Rq:=⟨_,rfl⟩;have HRq:=SM hRq;clear hRq
 go_wp2_with fail
 have hdb:=(Sy w3).drew;have hcl:RR b O G V v.key d o (.slice ad nn cc) cv w3.drew:=⟨hM3.drew,hO3.drew,hG3.drew⟩;refine rp (.take 0 (.take 1 (.take 2 (.take 3 (.take 4 (.take 5 (.three 6 (.take 7 (.take 8 (.take 9 (.take 10 (.two 11 (.run 12 (.run 13 (.run 14 (.take 15 .done)))) 12 (.run 11 (.run 13 (.run 14 (.take 15 .done))))))))) 11 (.two 6 (.take 7 (.take 8 (.take 9 (.take 10 (.run 12 (.run 13 (.run 14 (.take 15 .done)))))))) 12 (.run 6 (.take 7 (.take 8 (.take 9 (.take 10 (.run 13 (.run 14 (.take 15 .done))))))))) 12 (.two 6 (.take 7 (.take 8 (.take 9 (.take 10 (.run 11 (.run 13 (.run 14 (.take 15 .done)))))))) 11 (.run 6 (.take 7 (.take 8 (.take 9 (.take 10 (.run 13 (.run 14 (.take 15 .done)))))))))))))))) (RR b O G V v.key d o (.slice ad nn cc) cv) (by kernel_rfl) (by kernel_rfl) rfl (by kernel_rfl) hcl ?_
 have hq0:∀ u,Below w3.drew.heap.size w3.drew u→Calls Tryz.prog 60 #[.agg (fw B8 v.key),.slice ad nn cc] u fun e w'=>pS (eC v.key o.data) u.heap.size e w'∧Below u.heap.size u w':=fun u hu=>sV v.key ad nn cc o.data u (HG3.out.below HG3.out.1 (bt hdb hu)) (hB3.below (bt hdb hu)) hnn;have Hq:=SM hq0;have HB3:Hid (∀ u,Below w3.drew.heap.size w3.drew u→Below w3.heap.size w3 u):=SM (fun u hu=>bt hdb hu)
 have hz4:w3.heap.size≤w3.drew.heap.size:=hdb.size;clear hdb hM3 hO3 hG3 hB3 hq0;generalize w3.drew=w2 at *
 repeat (first | (refine Mw rfl _ rfl rfl ?_;walk_nrm) | (refine Pn rfl rfl ?_;apply Exists.intro;refine⟨fun w' hC'=>?_,?_⟩;(obtain⟨hM',hO',_⟩:=hC';have c0:=hM'.f0;have c1:=Q6 hO';go_simp;first | done | exact rfl);walk_nrm))
 have hbO:b < w2.heap.size:=hcl.1.lt;have hOO:O < w2.heap.size:=hcl.2.1.lt;have hGG:G < w2.heap.size:=hcl.2.2.lt;generalize hwc:w2=wc;have hcc:Hid (RR b O G V v.key d o (.slice ad nn cc) cv wc):=SM (hwc ▸ hcl);have HBc:Hid (Below w2.heap.size w2 wc):=SM (by rw[← hwc];exact Below.refl _ _)
 have hzc:w2.heap.size≤wc.heap.size:=by rw[← hwc];exact Nat.le_refl _
 clear hwc hcl;refine⟨?_,?_,?_⟩
 iterate 4
  all_goals
   first
    | refine And.intro (?_:Tp _ _ _ (.run 11 _) _ _ _) (?_:Tp _ _ _ (.run 12 _) _ _ _)
    | refine And.intro (?_:Tp _ _ _ (.run 6 _) _ _ _) (?_:Tp _ _ _ (.run 12 _) _ _ _)
    | refine And.intro (?_:Tp _ _ _ (.run 6 _) _ _ _) (?_:Tp _ _ _ (.run 11 _) _ _ _)
    | (
      refine DF rfl rfl ?_;apply Exists.intro;apply Exists.intro;refine⟨?_,?_⟩;(go_simp;exact⟨rfl,rfl⟩);refine (Hq.out wc HBc.out).mono ?_;rintro e wd ⟨hq,hbd⟩;rw[HRq.out] at hq;obtain⟨r1,ad1,n1,c1,s1,en1,kk1,r2,ad2,n2,c2,tt,mm,qq,code,rfl,hqa⟩:=DA HRq.out hq;have hcd:=hcc.out.below hbd;obtain⟨L1,hL1⟩ : ∃ L,wc.heap.size=L:=⟨_,rfl⟩;obtain⟨L2,hL2⟩ : ∃ L,wd.heap.size=L:=⟨_,rfl⟩;have hL12:=hbd.size;rw[hL1,hL2] at hqa
      try (have h7:A7 < L1∨L2≤A7:=.inl (by have:=hT7.out.lt;omega))
      try (have h8:A8 < L1∨L2≤A8:=.inl (by have:=hU8.out.lt;omega))
      try (replace hT7:=SM (hT7.out.below hbd))
      try (replace hU8:=SM (hU8.out.below hbd))
      have HQA:=SM hqa;have HBd:=SM (bt HBc.out hbd);have hLd:L2≤wd.heap.size:=by omega
      have hzd:w2.heap.size≤wd.heap.size:=by omega
      refine⟨_,rfl,RR b O G V v.key d o (.slice ad nn cc) cv,fun _ h=>h,hcd,?_⟩
      walk_nrm
      clear hcc HBc hqa hq hbd hL1 hL2 hL12 hzc;have hcc:=SM hcd;have HBc:=HBd;have hzc:=hzd;clear hcd HBd hzd;obtain⟨wc,hwc⟩ : ∃ u,u=wd:=⟨_,rfl⟩;subst hwc
      repeat ((first | refine rg rfl rfl ?_ | refine kj rfl _ rfl rfl ?_ | refine ft rfl _ rfl rfl ?_ | (refine ju rfl rfl ?_;apply Exists.intro;refine⟨fun w' hC'=>?_,?_⟩;(skip;go_simp;(first | done | exact rfl))));walk_nrm))
    | (
      refine dd rfl rfl (fun K hK=>?_);go_simp;have hbd:=ba (.cells (tv ⟨#[]⟩ none 0 0 0 0 cM) 97) (Sy wc);have hcd:=hcc.out.below hbd;refine hK _ _ (RR b O G V v.key d o (.slice ad nn cc) cv) (fun _ h=>h) hcd ?_;clear hK;have hTd:=gS.made wc ⟨#[]⟩ none 0 0 0 0 cM;have hzd:=hbd.size;obtain⟨A7,hA7⟩ : ∃ A,wc.heap.size=A:=⟨_,rfl⟩;have hg7:w2.heap.size≤A7:=by omega
      try (have h78:A8 < A7:=by have:=hU8.out.lt;omega)
      try (have h7:A7 < L1∨L2≤A7:=.inr (by omega))
      try (replace hU8:=SM (hU8.out.below hbd))
      try (replace HQA:=SM (HQA.out.below hLd hbd))
      have HBd:=SM (bt HBc.out hbd);rw[hA7] at hTd ⊢
      try (replace hLd:L2≤(wc.alloc (.cells (tv ⟨#[]⟩ none 0 0 0 0 cM) 97)).heap.size:=by omega)
      have hzd:w2.heap.size≤(wc.alloc (.cells (tv ⟨#[]⟩ none 0 0 0 0 cM) 97)).heap.size:=by omega
      clear hA7 hbd;generalize wc.alloc (.cells (tv ⟨#[]⟩ none 0 0 0 0 cM) 97)=wd at *;have hT7:=SM hTd;clear hcc HBc hTd hzc;have hcc:=SM hcd;have HBc:=HBd;have hzc:=hzd;clear hcd HBd hzd;obtain⟨wc,hwc⟩ : ∃ u,u=wd:=⟨_,rfl⟩;subst hwc
      repeat ((first | refine rg rfl rfl ?_ | refine kj rfl _ rfl rfl ?_ | refine ft rfl _ rfl rfl ?_ | (refine ju rfl rfl ?_;apply Exists.intro;refine⟨fun w' hC'=>?_,?_⟩;(skip;go_simp;(first | done | exact rfl))));walk_nrm))
    | (
      refine dd rfl rfl (fun K hK=>?_);go_simp;have hbd:=ba (.cells (St ⟨#[]⟩ none 0 0 0 0 0) 99) (Sy wc);have hcd:=hcc.out.below hbd;refine hK _ _ (RR b O G V v.key d o (.slice ad nn cc) cv) (fun _ h=>h) hcd ?_;clear hK;have hTd:=gy.made wc ⟨#[]⟩ none 0 0 0 0 0;have hzd:=hbd.size;obtain⟨A8,hA8⟩ : ∃ A,wc.heap.size=A:=⟨_,rfl⟩;have hg8:w2.heap.size≤A8:=by omega
      try (have h78:A7 < A8:=by have:=hT7.out.lt;omega)
      try (have h8:A8 < L1∨L2≤A8:=.inr (by omega))
      try (replace hT7:=SM (hT7.out.below hbd))
      try (replace HQA:=SM (HQA.out.below hLd hbd))
      have HBd:=SM (bt HBc.out hbd);rw[hA8] at hTd ⊢
      try (replace hLd:L2≤(wc.alloc (.cells (St ⟨#[]⟩ none 0 0 0 0 0) 99)).heap.size:=by omega)
      have hzd:w2.heap.size≤(wc.alloc (.cells (St ⟨#[]⟩ none 0 0 0 0 0) 99)).heap.size:=by omega
      clear hA8 hbd;generalize wc.alloc (.cells (St ⟨#[]⟩ none 0 0 0 0 0) 99)=wd at *;have hU8:=SM hTd;clear hcc HBc hTd hzc;have hcc:=SM hcd;have HBc:=HBd;have hzc:=hzd;clear hcd HBd hzd;obtain⟨wc,hwc⟩ : ∃ u,u=wd:=⟨_,rfl⟩;subst hwc
      repeat ((first | refine rg rfl rfl ?_ | refine kj rfl _ rfl rfl ?_ | refine ft rfl _ rfl rfl ?_ | (refine ju rfl rfl ?_;apply Exists.intro;refine⟨fun w' hC'=>?_,?_⟩;(skip;go_simp;(first | done | exact rfl))));walk_nrm))
 all_goals (
       have k7:=hT7.out.k;refine dd rfl rfl (fun K hK=>?_);go_simp;have hk7:=cK wc A7 0 (tv r1 ad1 n1 c1 s1 en1 kk1);have hcd:=hcc.out.kb hk7 (by omega) (by omega) (by omega)
       refine hK _ _ (RR b O G V v.key d o (.slice ad nn cc) cv) (fun _ h=>h) hcd ?_;clear hK k7;have hU8':=hU8.out.apart A7 0 (tv r1 ad1 n1 c1 s1 en1 kk1) (by omega)
       have hqa':=HQA.out.same (u':=setAt wc A7 0 (tv r1 ad1 n1 c1 s1 en1 kk1)) (fun g hg1 hg2=>aw _ _ _ _ _ (by omega))
       have hbb:=aa HBc.out hg7 0 (tv r1 ad1 n1 c1 s1 en1 kk1);clear hcc HBc hk7 hT7;generalize setAt wc A7 0 (tv r1 ad1 n1 c1 s1 en1 kk1)=wd at *;have k8:=hU8'.k;refine dd rfl rfl (fun K hK=>?_);go_simp;have hk8:=cK wd A8 0 (St r2 ad2 n2 c2 tt mm qq);have hce:=hcd.kb hk8 (by omega) (by omega) (by omega)
       refine hK _ _ (RR b O G V v.key d o (.slice ad nn cc) cv) (fun _ h=>h) hce ?_;clear hK k8;have hAE:=hU8'.all r2 ad2 n2 c2 tt mm qq;have hqe:=hqa'.same (u':=setAt wd A8 0 (St r2 ad2 n2 c2 tt mm qq)) (fun g hg1 hg2=>aw _ _ _ _ _ (by omega))
       have hbe:=aa hbb hg8 0 (St r2 ad2 n2 c2 tt mm qq);clear hcd hk8 hU8' hqa' hbb HQA hU8;generalize setAt wd A8 0 (St r2 ad2 n2 c2 tt mm qq)=wE at *
       repeat ((first | refine rg rfl rfl ?_ | refine kj rfl _ rfl rfl ?_ | refine ft rfl _ rfl rfl ?_ | (refine ju rfl rfl ?_;apply Exists.intro;refine⟨fun w' hC'=>?_,?_⟩;(skip;go_simp;(first | done | exact rfl))));walk_nrm)
       refine al ?_;have hGE:=hce.2.2;have HAE:=SM hAE;have HQE:=SM hqe;have HBE:=SM hbe;have HGE:=SM hGE;clear hce hAE hqe hbe hGE
       (
        cases Rq with
        | error ec =>
         have hcode:code=ec:=HQE.out;have hne:=o8 HRq.out;have d:(((code:Nat):Int) != 0)=true:=IG code (by rw[hcode];exact hne)
         clear hcode hne;have hDG:DG=bO:=by rw[← HDG.out];unfold Jj;rw[HRq.out]
         subst hDG;have k5:=HGE.out.k;have hfin:=SM (aF.side Hbw.out (HN.out.post (HB3.out _ HBE.out)) (cK wE G 0 (fw B8 bO)) (by omega) (by omega) (fun hx=>by have:=(Hlt.out _ hx).2;omega))
         have hG5:=SM (HGE.out.put bO)
         go_wp2_with fail
         refine bodyPost_ret (d8 rfl rfl rfl (fX hG5.out)) rfl ⟨rfl,hfin.out⟩
        | ok ta =>
         obtain⟨t,a⟩:=ta;obtain⟨hcode,e1,e2,e3,e4,e5,hst,_⟩:=HQE.out;obtain⟨⟨_,_,ht⟩,hnv,hmi,hsq⟩:=qK HRq.out;subst hcode e1 e2 e3 e4 e5;have hDG:DG=iA a:=by rw[← HDG.out];unfold Jj;rw[HRq.out]
         subst hDG;have r8:=HAE.out.r;have hgE:=HG3.out.below HG3.out.1 (HB3.out _ HBE.out);have hdg:=ms (aY a.1) ad2 a.2.1.length c2 a.2.2.1 a.2.2.2.1 a.2.2.2.2 (a.2.1.map aY) wE hgE hst hnv ht hmi hsq;have Hdg:Hid (Calls Tryz.prog 63 #[.agg (St (aY a.1) ad2 a.2.1.length c2 (a.2.2.1:Nat) (a.2.2.2.1:Nat) (a.2.2.2.2:Nat))] wE fun e w'=>e = .returned (.tuple #[.agg (fw B8 (iA a)),.bool true])∧Below wE.heap.size wE w'):=SM hdg
         clear hdg hst hgE
         go_wp2_with fail
         refine Hdg.out.mono ?_;rintro _ w7 ⟨rfl,hb7⟩;have hG7:=HGE.out.below hb7;have hR8:=Row.made (f:=B8) w7 36 (iA a);have hb8:=ba (.cells (fw B8 (iA a)) 36) (Sy w7);have hG8:=hG7.below hb8;have hgt:G < w7.heap.size:=hG7.lt
         go_wp2_with fail
         obtain⟨D8,hD8⟩ : ∃ D,w7.heap.size=D:=⟨_,rfl⟩;rw[hD8] at hR8 hgt ⊢;have hbE8:=bt (HB3.out _ HBE.out) (bt hb7 hb8);clear hb7 hb8 hG7 r8 Hdg hD8;generalize w7.alloc (.cells (fw B8 (iA a)) 36)=w8 at *;have hdb8:=(Sy w8).drew;refine gm (.take 0 (.take 1 (.take 2 (.run 3 .done)))) (fun u=>Row B8 u D8 (iA a)) (by kernel_rfl) (by kernel_rfl) rfl (by kernel_rfl) hR8.drew ?_
         have hG9:=hG8.drew;have hR9:=hR8.drew;have hbE9:=bt hbE8 hdb8;clear hG8 hR8 hbE8 hdb8;generalize w8.drew=w9 at *
         repeat ((first | refine rg rfl rfl ?_ | refine kj rfl _ rfl rfl ?_ | refine ft rfl _ rfl rfl ?_ | (refine ju rfl rfl ?_;apply Exists.intro;refine⟨fun w' hC'=>?_,?_⟩;(have qd:=hC'.r;go_simp;(first | done | exact rfl))));walk_nrm)
         have k5:=hG9.k;refine dd rfl rfl (fun K hK=>?_);go_simp;refine hK _ _ (fun u=>Row B8 u D8 (iA a)) (fun _ h=>h) (hR9.same (aw _ _ _ _ _ (by omega))) ?_
         clear hK k5;refine al ?_;have hfin:=SM (aF.side Hbw.out (HN.out.post hbE9) (cK w9 G 0 (fw B8 (iA a))) (by omega) (by omega) (fun hx=>by have:=(Hlt.out _ hx).2;omega))
         have hG10:=SM (hG9.put (iA a));clear hG9 hR9 hbE9
         go_wp2_with fail
         refine bodyPost_ret (d8 rfl rfl rfl (fX hG10.out)) rfl ⟨rfl,hfin.out⟩))
end
section
structure R6 (o:R5):Prop where
 k:(o.kind=1∧0≤o.N∧o.N≤1099511627776)∨(o.kind=2∧o.N=0)∨(o.kind=3∧o.N=0)∨(o.kind=4∧o.N=0)∨(o.kind=5∧1≤o.N∧o.N≤1048576)∨(o.kind=6∧0≤o.N∧o.N≤1048576)
 d:o.kind≠3→o.data=[]
 c:o.kind≠6→o.cuts=[]
 cr:∀ x ∈ o.cuts,0≤x∧x≤64
 cl:o.cuts.length≤20
 dl:o.data.length≤131072
theorem y9(w:World)(key:RW)(skew n:Int)(h1:1≤skew)(h2:skew≤1073741824)(h3:2≤n)(h4:n≤4096):
  Calls prog 42 #[.agg (du key skew n)] w fun e w'=>e = .returned (.bool true)∧Below w.heap.size w w':=by
 have hM:=eU.made w key skew n;have hb:=ba (.cells (du key skew n) 33) (Sy w);have d1:decide ((1:Int)≤skew)=true:=decide_eq_true h1;have d2:decide (skew≤(1073741824:Int))=true:=decide_eq_true h2;have d3:decide ((2:Int)≤n)=true:=decide_eq_true h3;have d4:decide (n≤(4096:Int))=true:=decide_eq_true h4;have c1:=hM.f1;have c2:=hM.f2
 go_in
 go_wp2
 go_ret
 exact⟨rfl,hb⟩
theorem DH(ad:Option Addr)(n c:Nat)(cs:List Int)(w:World)(hl:cs.length=n)(h:Se w (.slice ad n c) n 1 (cs.map (Value.int .i64)))(hr:∀ x ∈ cs,0≤x∧x≤64)(hn:n≤20):
  Calls prog 71 #[.slice ad n c] w fun e w'=>e = .returned (.bool true)∧w=w':=by
 have H:=SM h;have Hl:=SM hl;have Hr:=SM hr;clear h hl hr
 go_in
 go_wp2
 go_loopw [7] (fun i wr=>∃ k:Nat,k≤n∧i = .int .i64 k∧w=wr) (fun i _=>n - (intOf i).toNat)
 case atStart=>exact⟨0,om,rfl,rfl⟩
 case round =>
  obtain⟨k,hk,rfl,rfl⟩:=hrel
  by_cases hlt:k < n
  ·have d1:decide ((k:Int) < (n:Int))=true:=dt;have hx:=Hr.o (cs[k]'(by rw[Hl.o];exact hlt)) (List.getElem_mem _)
   obtain⟨b,off,rfl,hc⟩ : ∃ b o,ad=some ⟨b,o,none⟩∧w.cell? ⟨b,o+k,none⟩=some (.int .i64 (cs[k]'(by rw[Hl.o];exact hlt))):=by
    obtain⟨ad',cap,hv,_,_,_,_,h6⟩:=H.o;simp only[Value.slice.injEq] at hv;obtain⟨rfl,_,rfl⟩:=hv;obtain⟨b,o,he,hrd⟩:=h6 om;refine⟨b,o,he,ab hrd k _ ?_⟩;simp[Hl.o,hlt]
   generalize cs[k]'(by rw[Hl.o];exact hlt)=x at *
   have d2:decide (x < 0)=false:=df;have d3:decide ((64:Int) < x)=false:=df;have wk:IntKind.i64.wrap ((k:Int)+1)=(k:Int)+1:=wi;clear hx
   go_wp2
   go_roundw
   case rel=>exact⟨k+1,om,by go_num,trivial⟩
   case measure=>simp[intOf];omega
  ·obtain rfl:k=n:=om;have d4:decide ((k:Int)≤20)=true:=dt
   go_wp2
   go_ret
   exact⟨rfl,rfl⟩
theorem Ak(w:World)(o:R5)(dv cv:Value)(h:uw w o dv cv)(hR:R6 o):
  Calls prog 43 #[.agg (Td o dv cv)] w fun e w'=>e = .returned (.bool true)∧Below w.heap.size w w':=by
 obtain⟨hk,hd,hc,hcr,hcl,hdl⟩:=hR;have hO:=Bk.new w (Td o dv cv) 42;have hb:=ba (.cells (Td o dv cv) 42) (Sy w);have h1:=h.below hb;obtain⟨⟨ad,c1,rfl,hBs⟩,hcu⟩:=h1;have hcu0:=hcu;obtain⟨ad2,c2,rfl,_⟩:=hcu0;obtain⟨kind,N,data,cuts⟩:=o;simp only at hk hd hc hcr hcl hdl hcu;obtain⟨dn,hdn⟩:=eY data.length;obtain⟨cn,hcn⟩:=eY cuts.length;have hdQ:kind≠3→dn=0:=fun hx=>by rw[← hdn,hd hx];rfl
 have hc':kind≠6→cn=0:=fun hx=>by rw[← hcn,hc hx];rfl
 have hrc:=fun (hx:cn≤20)=>DH ad2 cn c2 cuts (w.alloc (.cells (Td ⟨kind,N,data,cuts⟩ (.slice ad data.length c1) (.slice ad2 cuts.length c2)) 42)) hcn (by rw[← hcn];exact hcu) hcr hx
 simp only[hdn,hcn] at hO hb hrc hdl hcl ⊢;have o0:(w.alloc (.cells (Td ⟨kind,N,data,cuts⟩ (.slice ad dn c1) (.slice ad2 cn c2)) 42)).cell? ⟨w.heap.size,0,none⟩=some (.int .i64 kind):=hO.cell 0 _ rfl;have o1:(w.alloc (.cells (Td ⟨kind,N,data,cuts⟩ (.slice ad dn c1) (.slice ad2 cn c2)) 42)).cell? ⟨w.heap.size,1,none⟩=some (.int .i64 N):=hO.cell 1 _ rfl;have o2:(w.alloc (.cells (Td ⟨kind,N,data,cuts⟩ (.slice ad dn c1) (.slice ad2 cn c2)) 42)).cell? ⟨w.heap.size,2,none⟩=some (.slice ad dn c1):=hO.cell 2 _ rfl
 have o3:(w.alloc (.cells (Td ⟨kind,N,data,cuts⟩ (.slice ad dn c1) (.slice ad2 cn c2)) 42)).cell? ⟨w.heap.size,3,none⟩=some (.slice ad2 cn c2):=hO.cell 3 _ rfl;clear hO hcu hBs h hdn hcn hd hc hcr
 go_in
 go_upto_region 1 with fail
 generalize w.alloc (.cells (Td ⟨kind,N,data,cuts⟩ (.slice ad dn c1) (.slice ad2 cn c2)) 42)=w1 at *;have d0:∀ z:Nat,z=0→(((z:Nat):Int) != 0)=false:=fun z hz=>by subst hz;rfl
 rcases hk with ⟨rfl,n1,n2⟩ | ⟨rfl,rfl⟩ | ⟨rfl,rfl⟩ | ⟨rfl,rfl⟩ | ⟨rfl,n1,n2⟩ | ⟨rfl,n1,n2⟩
 ·have e1:=d0 dn (hdQ dc);have e2:=d0 cn (hc' dc);have e3:decide ((0:Int)≤N)=true:=decide_eq_true n1;have e4:decide (N≤(1099511627776:Int))=true:=decide_eq_true n2;clear hrc hdQ hc' d0
  go_wp2
  go_ret
  exact⟨rfl,hb⟩
 ·have e1:=d0 dn (hdQ dc);have e2:=d0 cn (hc' dc);clear hrc hdQ hc' d0
  go_wp2
  go_ret
  exact⟨rfl,hb⟩
 ·have e2:=d0 cn (hc' dc);have e3:decide ((dn:Int)≤131072)=true:=dt;clear hrc hdQ hc' d0
  go_wp2
  go_ret
  exact⟨rfl,hb⟩
 ·have e1:=d0 dn (hdQ dc);have e2:=d0 cn (hc' dc);clear hrc hdQ hc' d0
  go_wp2
  go_ret
  exact⟨rfl,hb⟩
 ·have e1:=d0 dn (hdQ dc);have e2:=d0 cn (hc' dc);have e3:decide ((1:Int)≤N)=true:=decide_eq_true n1;have e4:decide (N≤(1048576:Int))=true:=decide_eq_true n2;clear hrc hdQ hc' d0
  go_wp2
  go_ret
  exact⟨rfl,hb⟩
 ·have e1:=d0 dn (hdQ dc);have e3:decide ((0:Int)≤N)=true:=decide_eq_true n1;have e4:decide (N≤(1048576:Int))=true:=decide_eq_true n2;have hr:=hrc hcl;have Hr:=SM hr;clear hrc hdQ hc' d0 hr
  go_wp2_with fail
  refine Hr.out.mono ?_;rintro _ _ ⟨rfl,rfl⟩
  go_wp2
  go_ret
  exact⟨rfl,hb⟩
end
section
structure wO where
 kind:Int
 code:Int
 now:Int
 live:Int
 dig:RP
noncomputable def jt(n:Nat)(v:VM)(o:R5):wO:={ kind:=o.kind,code:=(aQ n v o).2,now:=(aQ n v o).1.now,live:=(dD (au (aQ n v o).1)).length,dig:=if o.kind=3 then Jj v.key o.data else bO }
noncomputable def Pb(n:Nat)(st:List wO × VM)(o:R5):List wO × VM:=(st.1 ++ [jt n st.2 o],au (aQ n st.2 o).1)
noncomputable def runL(n:Nat)(v:VM)(L:List R5):List wO × VM:=L.foldl (Pb n) ([],v)
theorem gJ(n:Nat)(v:VM)(L:List R5)(o:R5):runL n v (L ++ [o])=Pb n (runL n v L) o:=by simp[runL]
theorem qR(n:Nat)(v:VM)(L:List R5):(runL n v L).1.length=L.length:=by
 induction L using di with
 | h0=>rfl
 | h1 l a ih=>rw[gJ];simp[Pb,ih]
abbrev R3:=R5 × Value × Value
def jE(x:R3):Array Value:=Td x.1 x.2.1 x.2.2
theorem gL(x:R3):(jE x).size=4:=rfl
structure rC (w:World) (v:Value) (L:List R3):Prop where
 r:Se w v L.length 4 (aZ jE L)
 o:∀ x,x ∈ L→uw w x.1 x.2.1 x.2.2
theorem rC.below{w w':World}{v:Value}{L:List R3}(h:rC w v L)(hb:Below w.heap.size w w'):rC w' v L:=⟨h.r.below hb,fun x hx=>(h.o x hx).below hb⟩
theorem rC.cell{w:World}{ad:Option Addr}{n c:Nat}{L:List R3}(h:rC w (.slice ad n c) L)(hn:L.length=n)(k:Nat)(hk:k < n):∃ b o,ad=some ⟨b,o,none⟩∧readAt w b (o+k * 4) 4=some (jE (L[k]'(by rw[hn];exact hk))):=by
 obtain⟨ad',cap,hv,_,_,_,_,h6⟩:=h.r;simp only[Value.slice.injEq] at hv;obtain⟨rfl,h1,rfl⟩:=hv;obtain⟨b,o,he,hr⟩:=h6 om;refine⟨b,o,he,?_⟩;have h2:=aB hr (o+k * 4) 4 om om;rw[h2,show o+k * 4 - o=k * 4 by omega]
 exact congrArg some (dC jE 4 gL L k om)
theorem uW:(prog.info? 42).map (·.size)=some 4:=kr
theorem Px:prog.underlying 42=some (.struct (prog.fieldsOf 42)):=kr
theorem MW:(prog.info? 42).bind (·.zero)=some (.agg (Td ⟨0,0,[],[]⟩ (.slice none 0 0) (.slice none 0 0))):=kr
def AW(v:Value):Sem Value:=Instr.loadAt 42 v
def A9(v x:Value):Sem Unit:=Instr.storeAt 42 v x
def ue:Sem Value:=Instr.alloc 42 true (.tuple #[])
@[go_sem ↓] theorem OQ(v:Value):Instr.loadAt 42 v=AW v:=rfl
@[go_sem ↓] theorem NL(v x:Value):Instr.storeAt 42 v x=A9 v x:=rfl
@[go_sem ↓] theorem PL:Instr.alloc 42 true (.tuple #[])=ue:=rfl
@[simp,go_sem] theorem Qd(o:R5)(dv cv:Value):(Td o dv cv).size=4:=rfl
@[simp,go_sem] theorem NA(x:R3):(jE x).size=4:=rfl
@[go_sem ↓] theorem Nr(w:World)(b o:Nat)(h:(readAt w b o 4).isSome=true):(AW (.pointer (some ⟨b,o,none⟩))).run prog w = .ok (.agg ((readAt w b o 4).getD #[])) w:=by
 obtain⟨cs,hc⟩:=Option.isSome_iff_exists.1 h;unfold AW;rw[aJ w b o 4 42 _ cs hc Px rfl uW,hc];rfl
@[go_sem ↓] theorem L8(w:World)(b o:Nat)(q:R5)(ad:Option Addr)(n c:Nat)(ad2:Option Addr)(n2 c2:Nat)(h:canAt w b o 4=true):(A9 (.pointer (some ⟨b,o,none⟩)) (.agg (Td q (.slice ad n c) (.slice ad2 n2 c2)))).run prog w = .ok () (setAt w b o (Td q (.slice ad n c) (.slice ad2 n2 c2))) :=
 aH w b o 4 42 _ h rfl uW (by simp[Td,Value.oneCell'])
@[go_sem] theorem LG(w:World):ue.run prog w = .ok (.pointer (some ⟨w.heap.size,0,none⟩)) (w.alloc (.cells (Td ⟨0,0,[],[]⟩ (.slice none 0 0) (.slice none 0 0)) 42)):=by
 obtain⟨i,hi,hz⟩:=Option.bind_eq_some_iff.1 MW;unfold ue;simp[Instr.alloc,zeroValue,typeInfo,hi,hz,newVar,newRow,Value.cells]
def SH:Array Value:=#[.nilFunc,.func (.func 45) #[] #[],.func (.func 46) #[] #[],.func (.func 47) #[] #[],.func (.func 48) #[] #[],.func (.func 49) #[] #[],.func (.func 50) #[] #[]]
theorem Mg(w:World):(Instr.build 115 #[(1,.func (.func 45) #[] #[]),(2,.func (.func 46) #[] #[]),(3,.func (.func 47) #[] #[]),(4,.func (.func 48) #[] #[]),(5,.func (.func 49) #[] #[]),(6,.func (.func 50) #[] #[])]).run prog w = .ok (.agg SH) w:=kr
def S1(kind:Int):Nat:=if kind=1 then 45 else if kind=2 then 46 else if kind=3 then 47 else if kind=4 then 48 else if kind=5 then 49 else 50
theorem zw(w:World)(base n m V b:Nat)(p:DP)(q:CP)(v:VM)(o:R5)(dv cv:Value)(h:So w base p V q n v)(hI:VI n m v)(hM:bL w b v.key (some ⟨p.B,0,none⟩) (some ⟨V,0,none⟩))(hb : ¬ VX p V q v.c b)(hC:uw w o dv cv)(hR:R6 o)(hg:GK w)(hdv:0 < o.data.length→∀ g,dv.ownBlock=some g→g < base)(hm:m+120≤99000)(hn:n≤100)(h2:2≤n)(hb0:0 < base)(hbase:base≤w.heap.size):
  Calls prog (S1 o.kind) #[.pointer (some ⟨b,0,none⟩),.agg (Td o dv cv)] w fun e w'=>e = .returned (.tuple #[.int .i64 (aQ n v o).2,.agg (fw B8 (if o.kind=3 then Jj v.key o.data else bO))])∧aF w base p V q v.c n (aQ n v o).1 w':=by
 have hdl:o.data.length≤1000000:=by have:=hR.dl;omega
 have hcl:o.cuts.length≤100000:=by have:=hR.cl;omega
 rcases hR.k with ⟨hk,_,_⟩ | ⟨hk,_⟩ | ⟨hk,_⟩ | ⟨hk,_⟩ | ⟨hk,_,h5⟩ | ⟨hk,_,h5⟩
 ·have e1:aQ n v o=(dp v o.N,0):=by unfold aQ;rw[if_pos hk]
  rw[e1,if_neg om,show S1 o.kind=45 by rw[hk];rfl]
  exact C1 w base n m V b p q v o dv cv _ h hI hM hb
 ·have e1:aQ n v o=bG n v:=by unfold aQ;rw[if_neg om,if_pos hk]
  rw[e1,if_neg om,show S1 o.kind=46 by rw[hk];rfl]
  exact CV w base n m V b p q v o dv cv _ h hI hM hb om h2 hn hbase
 ·have e1:aQ n v o=aU v o.data:=by unfold aQ;rw[if_neg om,if_neg om,if_pos hk]
  rw[e1,if_pos hk,show S1 o.kind=47 by rw[hk];rfl]
  exact vh w base n m V b p q v o dv cv _ h hI hM hb hC hg hdv hdl om hn hb0 hbase
 ·have e1:aQ n v o=aW v:=by unfold aQ;rw[if_neg om,if_neg om,if_neg om,if_pos hk]
  rw[e1,if_neg om,show S1 o.kind=48 by rw[hk];rfl]
  exact sI w base n m V b p q v o dv cv _ h hI hM hb om hn hbase
 ·have e1:aQ n v o=({ v with D:=bP v.D o.N false [] },0):=by unfold aQ;rw[if_neg om,if_neg om,if_neg om,if_neg om,if_pos hk]
  rw[e1,if_neg om,show S1 o.kind=49 by rw[hk];rfl]
  exact CY w base n m V b p q v o dv cv h hI hM hb hC om hn h5 hcl hbase
 ·have e1:aQ n v o=((if o.N=0 then { v with D:=de v.D o.cuts } else { v with D:=bP v.D o.N true o.cuts }),0):=by
   unfold aQ;rw[if_neg om,if_neg om,if_neg om,if_neg om,if_neg om];split <;> rfl
  have e3:(if o.kind=3 then Jj v.key o.data else bO)=bO:=if_neg om;rw[e1,e3,show S1 o.kind=50 by rw[hk];rfl]
  exact zu w base n m V b p q v o dv cv h hI hM hb hC om hn h5 hcl hbase
end
section
def jy(r:wO):Array Value:=eS r.kind r.code r.now r.live r.dig
theorem fO(r:wO):(jy r).size=36:=Ei
theorem lS:prog.underlying 28=some (.slice 38):=kr
theorem yg:(prog.info? 38).map (fun i=>(i.zero,i.size,i.bytes))=some (some (.agg (jy ⟨0,0,0,0,bO⟩)),36,64):=by unfold jy;kernel_rfl
theorem x8(n:Nat)(v:VM)(o:R5):(aQ n v o).1.key=v.key:=by
 unfold aQ
 split
 ·exact dQ v
 ·split
  ·unfold bG;split <;> rfl
  ·split
   ·unfold aU
    split
    ·exact dQ v
    ·split
     ·split
      ·exact dQ v
      ·split
       ·exact dQ v
       ·rw[dQ]
     ·exact dQ v
   ·split
    ·unfold aW
     split
     ·exact dQ v
     ·rw[dQ]
    ·split
     ·rfl
     ·split <;> rfl
theorem Mh(n:Nat)(v:VM)(L:List R5):(runL n v L).2.key=v.key:=by
 induction L using di with
 | h0=>rfl
 | h1 l a ih=>rw[gJ];show (au (aQ n (runL n v l).2 a).1).key=_;rw[dQ,x8,ih]
theorem VI.run{n:Nat}{v:VM}(h:VI n 0 v)(hn:n≤100)(h2:2≤n)(L:List R5):VI n (120 * L.length) (runL n v L).2:=by
 induction L using di with
 | h0=>exact h
 | h1 l a ih =>
  rw[gJ]
  show VI n _ (au (aQ n (runL n v l).2 a).1)
  exact ((ih.step hn h2 a).look).more sO
theorem VI.new{n:Nat}(key:RW)(skew:Int)(h1:1≤skew)(h2:skew≤1073741824)(hn:n≤4096):VI n 0 (bN key skew (dG n)) :=
 ⟨⟨by simp[bN,dG];omega,fun p hp=>(by cases hp),Nat.le_refl _,Int.le_refl _,Int.le_refl _⟩,⟨Int.le_refl _,by show (0:Int)≤1099511627776;omega⟩,⟨h1,h2⟩,fun c hc=>by cases hc⟩
theorem Ce{u:World}{DB:Nat}(h:Bk u DB SH){o:R5}(hR:R6 o):∃ kN:Nat,o.kind=(kN:Int)∧kN < 7∧u.cell? ⟨DB,kN,none⟩=some (.func (.func (S1 o.kind)) #[] #[]):=by
 rcases hR.k with ⟨hk,_,_⟩ | ⟨hk,_⟩ | ⟨hk,_⟩ | ⟨hk,_⟩ | ⟨hk,_,_⟩ | ⟨hk,_,_⟩
 ·exact⟨1,hk,om,by rw[hk];exact h.cell 1 _ rfl⟩
 ·exact⟨2,hk,om,by rw[hk];exact h.cell 2 _ rfl⟩
 ·exact⟨3,hk,om,by rw[hk];exact h.cell 3 _ rfl⟩
 ·exact⟨4,hk,om,by rw[hk];exact h.cell 4 _ rfl⟩
 ·exact⟨5,hk,om,by rw[hk];exact h.cell 5 _ rfl⟩
 ·exact⟨6,hk,om,by rw[hk];exact h.cell 6 _ rfl⟩
theorem FW{o:R5}(hR:R6 o):∀ args w,(callFunc (S1 o.kind) args).run prog w = .ok (.enter (S1 o.kind) args) w:=by
 rcases hR.k with ⟨hk,_,_⟩ | ⟨hk,_⟩ | ⟨hk,_⟩ | ⟨hk,_⟩ | ⟨hk,_,_⟩ | ⟨hk,_,_⟩ <;> rw[hk]
 ·exact enters_of func45 kr rfl
 ·exact enters_of func46 kr rfl
 ·exact enters_of func47 kr rfl
 ·exact enters_of func48 kr rfl
 ·exact enters_of func49 kr rfl
 ·exact enters_of func50 kr rfl
def I5(n:Nat)(parts:Array (Nat × Value)):Sem Value:=Instr.buildSlice 28 n parts
@[go_sem ↓] theorem QK(n:Nat)(parts:Array (Nat × Value)):Instr.buildSlice 28 n parts=I5 n parts:=rfl
@[go_sem] theorem LX(w:World)(k c t l:Int)(g:RP):(I5 1 #[(0,.agg (eS k c t l g))]).run prog w = .ok (.slice (some ⟨w.heap.size,0,none⟩) 1 1) (w.alloc (.cells (eS k c t l g) 38)):=by
 obtain⟨i,hi,hz,hs,_⟩:=info_parts yg;exact eo w _ _ i _ (.agg (eS k c t l g)) lS hi hz (by first | (simp[hs,Value.cells];done) | (simp[Value.cells];exact fO _)) (by first | (simp[hs,Value.cells];done) | (simp[Value.cells];exact fO _)) (by first | (simp[hs,Value.cells];done) | (simp[Value.cells];exact fO _)) (by first | (simp[hs,Value.cells];done) | (simp[Value.cells];exact fO _))
theorem QD{u:World}{O:Nat}{o:R5}{dv cv:Value}(h:Bk u O (Td o dv cv)):u.cell? ⟨O,0,none⟩=some (.int .i64 o.kind):=h.cell 0 _ rfl
theorem Rs{u:World}{O:Nat}{o:R5}{dv cv:Value}(h:Bk u O (Td o dv cv)):readAt u O 0 4=some (Td o dv cv):=h.r
theorem aF.kb{w base p V q c n v w'}(h:aF w base p V q c n v w'):Kb (VX p V q c) w w':=by obtain⟨_,_,_,_,hk,_⟩:=h;exact hk
structure jz (w u:World) (base:Nat) (p:DP) (V:Nat) (q:CP) (n:Nat) (v:VM) (B m DB RB OB GB:Nat) (key:RW) (opcs:Array Value) (dig:RP) (k kk:Nat) (rs:List wO):Prop where
 pb:p.B=B
 va:So u base p V q n v
 X:∀ i,VX p V q v.c i→i≠m∧i≠DB∧i≠RB∧i≠OB∧i≠GB
 M:bL u m key (some ⟨B,0,none⟩) (some ⟨V,0,none⟩)
 D:Bk u DB SH
 O:Bk u OB opcs
 G:Row B8 u GB dig
 own:u.ownsRow base 38 36 (.slice (some ⟨RB,0,none⟩) kk k) kk (aZ jy rs)
 b:Below w.heap.size w u
 z:base≤u.heap.size
theorem jz.below{w u u':World}{base:Nat}{p:DP}{V:Nat}{q:CP}{n:Nat}{v:VM}{B m DB RB OB GB:Nat}{key:RW}{opcs:Array Value}{dig:RP}{k kk:Nat}{rs:List wO}(h:jz w u base p V q n v B m DB RB OB GB key opcs dig k kk rs)(hb:Below u.heap.size u u'):jz w u' base p V q n v B m DB RB OB GB key opcs dig k kk rs :=
 ⟨h.pb,h.va.below hb,h.X,h.M.below hb,h.D.below hb,h.O.below hb,h.G.below hb,ah h.own hb,bt h.b hb,Nat.le_trans h.z hb.size⟩
theorem jz.next{w u u':World}{base:Nat}{p:DP}{V:Nat}{q:CP}{n:Nat}{v v':VM}{B m DB RB OB GB:Nat}{key:RW}{opcs:Array Value}{dig:RP}{k kk:Nat}{rs:List wO}(h:jz w u base p V q n v B m DB RB OB GB key opcs dig k kk rs)(hbw:w.heap.size≤base)(hN:aF u base p V q v.c n v' u'):∃ p' q',jz w u' base p' V q' n v' B m DB RB OB GB key opcs dig k kk rs:=by
 obtain⟨p',q',h1,h2,h3,h4⟩:=hN;have hR:RB < u.heap.size:=(h.own.lt RB rfl).2;refine⟨p',q',h1.trans h.pb,h2,fun i hi=>?_,h.M.same (h3.block m h.M.lt (fun hx=>(h.X m hx).1 rfl)),h.D.same (h3.block DB h.D.lt (fun hx=>(h.X DB hx).2.1 rfl)),h.O.same (h3.block OB h.O.lt (fun hx=>(h.X OB hx).2.2.2.1 rfl)),h.G.same (h3.block GB h.G.lt (fun hx=>(h.X GB hx).2.2.2.2 rfl)),bu h.own (fun g hg hl=>?_),h.b.trans (h3.below (fun i hi=>Nat.le_trans hbw (h.va.lo' hi)) h.b.size),Nat.le_trans h.z h3.size⟩
 ·rcases h4 i hi with hh | hh
  ·exact h.X i hh
  ·have:=h.M.lt;have:=h.D.lt;have:=h.O.lt;have:=h.G.lt;exact⟨om,om,om,om,om⟩
 ·simp only[Value.ownBlock,Option.some.injEq] at hg;subst hg;exact h3.block RB hl (fun hx=>(h.X RB hx).2.2.1 rfl)
theorem jz.put{w u:World}{base:Nat}{p:DP}{V:Nat}{q:CP}{n:Nat}{v:VM}{B m DB RB OB GB:Nat}{key:RW}{opcs:Array Value}{dig:RP}{k kk:Nat}{rs:List wO}(h:jz w u base p V q n v B m DB RB OB GB key opcs dig k kk rs)(hd:m≠GB∧DB≠GB∧RB≠GB∧OB≠GB)(hw:w.heap.size≤GB)(dig':RP):jz w (setAt u GB 0 (fw B8 dig')) base p V q n v B m DB RB OB GB key opcs dig' k kk rs:=by
 have hk:=cK u GB 0 (fw B8 dig');have hR:RB < u.heap.size:=(h.own.lt RB rfl).2;refine⟨h.pb,h.va.kb hk (fun i hi=>(h.X i hi).2.2.2.2),h.X,h.M.same (hk.block m h.M.lt hd.1),h.D.same (hk.block DB h.D.lt hd.2.1),h.O.same (hk.block OB h.O.lt hd.2.2.2),h.G.put dig',bu h.own (fun g hg hl=>?_),aa h.b hw 0 _,Nat.le_trans h.z hk.size⟩;simp only[Value.ownBlock,Option.some.injEq] at hg;subst hg;exact hk.block RB hl hd.2.2.1
theorem jz.push{w u u':World}{base:Nat}{p:DP}{V:Nat}{q:CP}{n:Nat}{v:VM}{B m DB RB OB GB:Nat}{key:RW}{opcs:Array Value}{dig:RP}{k kk:Nat}{rs:List wO}{r:wO}(h:jz w u base p V q n v B m DB RB OB GB key opcs dig k kk rs)(h1:u'.ownsRow base 38 36 (.slice (some ⟨RB,0,none⟩) (kk+1) k) (kk+1) (aZ jy rs ++ (jy r).toList))(h2:u.grownBy u' (some RB))(hd:m≠RB∧DB≠RB∧OB≠RB∧GB≠RB)(hw:w.heap.size≤RB):jz w u' base p V q n v B m DB RB OB GB key opcs dig k (kk+1) (rs ++ [r]):=by
 have hb:∀ i,i < u.heap.size→i≠RB→u'.heap[i]? = u.heap[i]?:=fun i hi hne=>h2.block i hi (fun e=>hne (Option.some.inj e));refine⟨h.pb,h.va.same h2.size (fun i hi=>hb i (h.va.lt hi) (h.X i hi).2.2.1),h.X,h.M.same (hb m h.M.lt hd.1),h.D.same (hb DB h.D.lt hd.2.1),h.O.same (hb OB h.O.lt hd.2.2.1),h.G.same (hb GB h.G.lt hd.2.2.2),?_,h.b.grown h2 h.b.size (fun x e=>by cases e;exact hw),Nat.le_trans h.z h2.size⟩
 rw[iB];exact h1
theorem F6(w:World)(key:RW)(skew:Int)(n kn c:Nat)(ad:Option Addr)(L:List R3)(h1:1≤skew)(h2:skew≤1073741824)(hn2:2≤n)(hn:n≤100)(hL:L.length=kn)(hk:kn≤100)(hO:rC w (.slice ad kn c) L)(hR:∀ x ∈ L,R6 x.1)(hg:GK w):
  Calls prog 25 #[.agg (du key skew n),.slice ad kn c] w fun e w'=>(∃ rv B,e = .returned (.tuple #[rv,.pointer (some ⟨B,0,none⟩),.nilIface])∧w'.ownsRow w.heap.size 38 36 rv kn (aZ jy (runL n (bN key skew (dG n)) (L.map Prod.fst)).1))∧Below w.heap.size w w':=by
 have hM:=eU.made w key skew n;have hb1:=ba (.cells (du key skew n) 33) (Sy w);have HO:=SM hO;have HL:=SM hL;have HR:=SM hR;have HG:=SM hg;obtain⟨R,hRe⟩:=eY (runL n (bN key skew (dG n)) (L.map Prod.fst));rw[hRe];have HRe:=SM hRe;clear hO hL hR hg hRe
 go_in
 go_upto_region 1 with fail
 generalize w.alloc (.cells (du key skew n) 33)=w1 at *;have r0:=hM.r
 go_wp2_with fail
 refine (y9 w1 key skew n h1 h2 om om).mono ?_;rintro _ w2 ⟨rfl,hb2⟩;have HM2:=SM (hM.below hb2);have Hb2:=SM (bt hb1 hb2);have hz2:w.heap.size < w2.heap.size:=by have:=hM.lt;have:=hb2.size;omega
 clear hb1 hb2 hM r0
 go_wp2
 go_loopw [23] (fun i wr=>∃ k:Nat,k≤kn∧i = .int .i64 k∧Below w2.heap.size w2 wr) (fun i _=>kn - (intOf i).toNat)
 case atStart=>exact⟨0,om,rfl,Below.refl _ _⟩
 case round =>
  obtain⟨k,hkk,rfl,hbr⟩:=hrel
  by_cases hlt:k < kn
  ·have d1:decide ((k:Int) < (kn:Int))=true:=dt;have hOr:=HO.o.below (Hb2.o.trans (hbr.mono om));obtain⟨b,oo,rfl,hrd⟩:=hOr.cell HL.o k hlt;have hmem:L[k]'(by rw[HL.o];exact hlt) ∈ L:=List.getElem_mem _
   have hOx:=hOr.o _ hmem;have hRx:=HR.o _ hmem;obtain⟨x,hx⟩:=eY (L[k]'(by rw[HL.o];exact hlt))
   rw[hx] at hrd hOx hRx;clear hmem hx hOr;obtain⟨o,dv,cv⟩:=x;obtain⟨⟨a1,k1,hdv,hBs⟩,hcu⟩:=hOx;have hcu0:=hcu;obtain⟨a2,k2,hcv,_⟩:=hcu0;simp only at hdv hcv;subst hdv hcv;have hOx:uw wr o (.slice a1 o.data.length k1) (.slice a2 o.cuts.length k2):=⟨⟨a1,k1,rfl,hBs⟩,hcu⟩;have hrd':readAt wr b (oo+k * 4) 4=some (Td o (.slice a1 o.data.length k1) (.slice a2 o.cuts.length k2)):=hrd;have hk0:canAt (wr.alloc (.cells (Td ⟨0,0,[],[]⟩ (.slice none 0 0) (.slice none 0 0)) 42)) wr.heap.size 0 4=true:=by rw[aq _ _ _ _ _ _ rfl sm]
   have hB3:=Bk.new wr (Td o (.slice a1 o.data.length k1) (.slice a2 o.cuts.length k2)) 42;have hb3:=ba (.cells (Td o (.slice a1 o.data.length k1) (.slice a2 o.cuts.length k2)) 42) (Sy wr);have r3:readAt (wr.alloc (.cells (Td o (.slice a1 o.data.length k1) (.slice a2 o.cuts.length k2)) 42)) wr.heap.size 0 4=some (Td o (.slice a1 o.data.length k1) (.slice a2 o.cuts.length k2)):=hB3.r;have hse:=eK wr (Td ⟨0,0,[],[]⟩ (.slice none 0 0) (.slice none 0 0)) 42 wr.heap.size (Td o (.slice a1 o.data.length k1) (.slice a2 o.cuts.length k2)) rfl rfl
   have wk:IntKind.i64.wrap ((k:Int)+1)=(k:Int)+1:=wi;have k0:(0:Int)≤(k:Int):=om;have k3:(k:Int) < (kn:Int):=om;clear hrd hBs hcu;have HOx:=SM hOx;have HRx:=SM hRx;have Hbr:=SM hbr;clear hOx hRx hbr;have Hb3:=SM hb3;clear hb3 hB3
   go_wp2_with fail
   refine (Ak _ o _ _ (HOx.o.below Hb3.o) HRx.o).mono ?_;rintro _ w4 ⟨rfl,hb4⟩;have Hb4:=SM (bt Hbr.o (bt Hb3.o hb4));clear hb4 hk0 r3 hrd' hse
   go_wp2
   go_roundw
   case rel=>exact⟨k+1,om,by go_num,Hb4.o⟩
   case measure=>simp[intOf];omega
  ·obtain rfl:k=kn:=om;have Hb3:=SM (Hb2.o.trans (hbr.mono om));have HM3:=SM (HM2.o.below hbr);have hz3:=hbr.size;have c2:=HM3.o.f2;clear hbr
   go_wp2_with fail
   refine (qi wr (n:Nat) om).mono ?_;rintro _ w4 ⟨⟨p,rfl,hD⟩,hb4⟩;rw[show ((n:Nat):Int).toNat=n by omega] at hD
   have HM4:=SM (HM3.o.below hb4);have hz4:=hb4.size;have Hb4:=SM (bt Hb3.o hb4);have HD4:=SM hD;obtain⟨base,hbase⟩:=eY wr.heap.size;rw[hbase] at HD4;have hbz:w.heap.size < base:=om;have hb4z:base≤w4.heap.size:=om;clear c2 hb4 hD HM3 Hb3 hbase hz4 hz3
   go_wp2_with fail
   have hdb:=(Sy w4).drew;have hM5:=HM4.o.drew;refine yW (tk 0 8 (.run 8 (.take 9 (.run 10 (.take 11 .done))))) (fun u=>eU u w.heap.size key skew n) hM5 ?_;have hD5:=HD4.o.below hdb;have Hb5:=SM (bt Hb4.o hdb);have hz5:base≤w4.drew.heap.size:=hb4z;clear hdb HM4 HD4 Hb4;generalize w4.drew=w5 at *
   repeat((first|refine yO ?_|refine yM ?_|refine yF rfl rfl (fun w' hC'=>by have c0:=hC'.f0;have c1:=hC'.f1;go_simp;first|done|exact rfl) ?_);walk_nrm)
   refine yR ?_;refine (ro w5 base n p key skew (dG n) hD5 ⟨h1,h2⟩ hz5).mono ?_;rintro _ w6 ⟨⟨V,rfl,hVl,hVA⟩,hb6⟩;have hM6:=hM5.below hb6;refine kS hM6 ?_;walk_nrm
   repeat(refine yA ?_;walk_nrm)
   have hV6:=SM (hVA ⟨0,0,0,0⟩);have Hb6:=SM (bt Hb5.o hb6);have hz6:=hb6.size;clear hVA hb6 hD5 hM5;refine dd rfl rfl (fun K hK=>?_);go_simp;have hbm:=ba (.cells (ir key (some ⟨p.B,0,none⟩) (some ⟨V,0,none⟩)) 112) (Sy w6);refine hK _ _ (fun u=>eU u w.heap.size key skew n) (fun _ h=>h) (hM6.below hbm) ?_;clear hK;have hMc:=bL.made w6 key (some ⟨p.B,0,none⟩) (some ⟨V,0,none⟩);obtain⟨m,hme⟩:=eY w6.heap.size
   have hV7:=hV6.o.below hbm;have hb7:=bt Hb6.o hbm;have hmx:∀ q,¬ VX p V q (bN key skew (dG n)).c m:=fun q hx=>by
    have hx':VX p V ⟨0,0,0,0⟩ (bN key skew (dG n)).c m:=by
     rcases hx with hx | hx | hx
     ·exact .inl hx
     ·exact .inr (.inl hx)
     ·exact absurd rfl hx.1
    have:=hV6.o.lt hx';omega
   rw[hme] at hMc ⊢;have hz7:m < (w6.alloc (.cells (ir key (some ⟨p.B,0,none⟩) (some ⟨V,0,none⟩)) 112)).heap.size:=hMc.lt;generalize w6.alloc (.cells (ir key (some ⟨p.B,0,none⟩) (some ⟨V,0,none⟩)) 112)=w7 at *
   repeat(refine yA ?_;walk_nrm)
   refine al ?_;have HMc:=SM hMc;have HV7:=SM hV7;have Hb7:=SM hb7;have Hmx:=SM (hmx ⟨0,0,0,0⟩);have hzm:base≤m:=om;clear hbm hM6 hMc hV7 hb7 hmx hV6 Hb6 hme Hb5 hz6;have hdo:=fun w=>Mg w
   go_upto_region 12 with fail
   clear hdo;have hD8:=Bk.new w7 SH 115;have hbd:=ba (.cells SH 115) (Sy w7);obtain⟨i0,hi,hz0,hsz0,hby⟩:=info_parts yg;have hmw:m < w7.heap.size:=HMc.o.lt;have hVw:V < w7.heap.size:=HV7.o.vf.lt;have hltV:∀ i,VX p V ⟨0,0,0,0⟩ (bN key skew (dG n)).c i→i < w7.heap.size:=fun i hi=>HV7.o.lt hi;obtain⟨DB,hDB⟩:=eY w7.heap.size;rw[hDB] at hD8 hmw hVw hltV ⊢;rw[show w7.alloc (.cells #[.nilFunc,.func (.func 45) #[] #[],.func (.func 46) #[] #[],.func (.func 47) #[] #[],.func (.func 48) #[] #[],.func (.func 49) #[] #[],.func (.func 50) #[] #[]] 115)=w7.alloc (.cells SH 115) from rfl]
   have HM8:=SM (HMc.o.below hbd);have HV8:=SM (HV7.o.below hbd);have hb8:=bt Hb7.o hbd;have hz8:=hbd.size;have hDl:DB < (w7.alloc (.cells SH 115)).heap.size:=hD8.lt;clear hbd;generalize w7.alloc (.cells SH 115)=w8 at *;have hmk:=run_make (P:=prog) w8 28 38 i0 _ lS hi hz0 .i64 .i64 0 (k:Int) om om (by rw[hby];omega) om
   rw[hsz0] at hmk;simp only[Int.toNat_natCast,Int.toNat_zero] at hmk;obtain⟨MC,hMC⟩:=eY (madeCells (Value.cells (.agg (jy ⟨0,0,0,0,bO⟩))) (k * 36));have hMs:MC.size=k * 36:=by rw[← hMC];exact size_madeCells _ _
   rw[hMC] at hmk;have hown:=World.ownsRow_made (size:=36) (base:=base) (e:=38) w8 MC k om (by simp only[maxLen];omega) hMs
   have hb9:=ba (.cells MC 38) (Sy w8);obtain⟨RB,hRB⟩:=eY w8.heap.size;rw[hRB] at hmk hown;have hRl:RB < (w8.alloc (.cells MC 38)).heap.size:=by rw[← hRB];simp
   have HM9:=SM (HM8.o.below hb9);have HV9:=SM (HV8.o.below hb9);have HD9:=SM (hD8.below hb9);have Hb9:=SM (bt hb8 hb9);have Hown:=SM hown;have hz9:=hb9.size
   go_upto_region 13 with fail
   clear hmk hown hb9 hMC hD8 hb8 HM8 HV8;generalize w8.alloc (.cells MC 38)=w9 at *;clear hMs;have HltV:=SM hltV;clear hltV;have hV0:=VI.new (n:=n) key skew h1 h2 om;have HV0:=SM hV0
   go_wp2
   go_loopw [12,54] (fun rs i wr=>∃ (kk:Nat) (p':DP) (q':CP),kk≤k∧i = .int .i64 kk∧rs = .slice (some ⟨RB,0,none⟩) kk k∧p'.B=p.B ∧
    So wr base p' V q' n (runL n (bN key skew (dG n)) ((L.map Prod.fst).take kk)).2 ∧
    (∀ i,VX p' V q' (runL n (bN key skew (dG n)) ((L.map Prod.fst).take kk)).2.c i→i≠m∧i≠DB∧i≠RB) ∧
    bL wr m key (some ⟨p.B,0,none⟩) (some ⟨V,0,none⟩)∧Bk wr DB SH ∧
    wr.ownsRow base 38 36 (.slice (some ⟨RB,0,none⟩) kk k) kk (aZ jy (runL n (bN key skew (dG n)) ((L.map Prod.fst).take kk)).1)∧Below w.heap.size w wr∧base≤wr.heap.size) (fun _ i _=>k - (intOf i).toNat)
   case atStart =>
    exact⟨0,p,⟨0,0,0,0⟩,om,rfl,rfl,rfl,HV9.o,fun i hi=>by
     have:=HltV.o i hi;exact⟨fun e=>Hmx.o (e ▸ hi),om,om⟩,HM9.o,HD9.o,Hown.o,Hb9.o,om⟩
   case round =>
    clear HM9 HV9 HD9 Hb9 Hown HMc HV7 Hb7 HltV Hmx HM2 Hb2;obtain⟨kk,p',q',hkk,rfl,rfl,hB,hV,hX,hMm,hDm,hown,hbw,hzr⟩:=hrel
    by_cases hlt:kk < k
    ·have d1:decide ((kk:Int) < (k:Int))=true:=dt;have hOr:=HO.o.below hbw;obtain⟨b,oo,had,hrd⟩:=hOr.cell HL.o kk hlt;have hmem:L[kk]'(by rw[HL.o];exact hlt) ∈ L:=List.getElem_mem _
     have hOx:=hOr.o _ hmem;have hOw:=HO.o.o _ hmem;have hRx:=HR.o _ hmem;have htk:(L.map Prod.fst).take (kk+1)=(L.map Prod.fst).take kk ++ [(L[kk]'(by rw[HL.o];exact hlt)).1]:=by
      rw[List.take_add_one,List.getElem?_eq_getElem (by rw[List.length_map,HL.o];exact hlt)]
      simp
     obtain⟨x,hx⟩:=eY (L[kk]'(by rw[HL.o];exact hlt))
     rw[hx] at hrd hOx hRx hOw htk;clear hmem hx hOr;obtain⟨o,dv,cv⟩:=x;obtain⟨⟨a1,k1,hdv,hBs⟩,hcu⟩:=hOx;have hcu0:=hcu;obtain⟨a2,k2,hcv,_⟩:=hcu0;simp only at hdv hcv htk;subst hdv hcv;have hOx:uw wr o (.slice a1 o.data.length k1) (.slice a2 o.cuts.length k2):=⟨⟨a1,k1,rfl,hBs⟩,hcu⟩;have hdvb:0 < o.data.length→∀ g,(Value.slice a1 o.data.length k1).ownBlock=some g→g < base:=by
      intro h0 g hg;obtain⟨⟨a1',k1',hdv',hBs'⟩,_⟩:=hOw;simp only[Value.slice.injEq,true_and] at hdv';obtain⟨rfl,rfl⟩:=hdv';obtain⟨bb,o2,he,hr⟩:=hBs'.2.2.2.2 h0;subst he;simp only[Value.ownBlock,Option.some.injEq] at hg;have:=ac hr;omega
     have hrd':readAt wr b (oo+kk * 4) 4=some (Td o (.slice a1 o.data.length k1) (.slice a2 o.cuts.length k2)):=hrd;have hk0:canAt (wr.alloc (.cells (Td ⟨0,0,[],[]⟩ (.slice none 0 0) (.slice none 0 0)) 42)) wr.heap.size 0 4=true:=by rw[aq _ _ _ _ _ _ rfl sm]
     have hse:=eK wr (Td ⟨0,0,[],[]⟩ (.slice none 0 0) (.slice none 0 0)) 42 wr.heap.size (Td o (.slice a1 o.data.length k1) (.slice a2 o.cuts.length k2)) rfl rfl;have wk:IntKind.i64.wrap ((kk:Int)+1)=(kk:Int)+1:=wi;have k0:(0:Int)≤(kk:Int):=om;have k3:(kk:Int) < (k:Int):=om;obtain⟨⟨rs,v⟩,hS⟩ : ∃ S,runL n (bN key skew (dG n)) ((L.map Prod.fst).take kk)=S:=⟨_,rfl⟩;have hS1:runL n (bN key skew (dG n)) ((L.map Prod.fst).take (kk+1))=(rs ++ [jt n v o],au (aQ n v o).1):=by rw[htk,gJ,hS];rfl
     have hvk:v.key=key:=by have:=Mh n (bN key skew (dG n)) ((L.map Prod.fst).take kk);rw[hS] at this;exact this
     have hVI:VI n (120 * kk) v:=by
      have:=HV0.o.run hn hn2 ((L.map Prod.fst).take kk);rw[hS] at this;exact this.more (by rw[List.length_take];omega)
     rw[hS] at hV hX hown;simp only at hV hX hown;have HS1:=SM hS1;have HVI:=SM hVI;have HOx:=SM hOx;have HRx:=SM hRx;have Hdv:=SM hdvb;have HX:=SM hX;have Hbw:=SM hbw;clear hS hS1 hVI hOx hRx hdvb hrd hBs hcu hOw htk hX hbw;have hB3:=Bk.new wr (Td o (.slice a1 o.data.length k1) (.slice a2 o.cuts.length k2)) 42;have hb3:=ba (.cells (Td o (.slice a1 o.data.length k1) (.slice a2 o.cuts.length k2)) 42) (Sy wr)
     subst had
     go_upto_region 16 with fail
     clear hk0 hse hrd' d1;obtain⟨OB,hOB⟩:=eY wr.heap.size;rw[hOB] at hB3 ⊢;have hV3:=hV.below hb3;have hM3:=hMm.below hb3;have hD3:=hDm.below hb3;have hown3:=ah hown hb3;have hb03:=bt Hbw.o hb3;have HOx3:=SM (HOx.o.below hb3);have hltX:∀ i,VX p' V q' v.c i→i < OB:=fun i hi=>by rw[← hOB];exact hV.lt hi
     have hRBl:RB < OB:=by rw[← hOB];exact (hown.lt RB rfl).2
     have hzO:OB < (wr.alloc (.cells (Td o (.slice a1 o.data.length k1) (.slice a2 o.cuts.length k2)) 42)).heap.size:=by rw[← hOB];simp
     clear hb3 hV hMm hDm hown HOx;generalize wr.alloc (.cells (Td o (.slice a1 o.data.length k1) (.slice a2 o.cuts.length k2)) 42)=w3 at *;have hdb:=(Sy w3).drew;have hV4:=hV3.below hdb;have hM4:=hM3.drew;have hD4:=hD3.drew;have hO4:=hB3.drew;have hown4:=ah hown3 hdb;have hb04:=bt hb03 hdb;have HOx4:=SM (HOx3.o.below hdb);have hzO4:OB < w3.drew.heap.size:=hzO;have hz4:base≤w3.drew.heap.size:=om;refine yW (tk 0 6 (.two 6 (tk 7 3 (.run 10 (.take 11 (.run 12 .done)))) 10 (.run 6 (tk 7 3 (.take 11 (.run 12 .done)))))) (fun u=>bL u m key (some ⟨p.B,0,none⟩) (some ⟨V,0,none⟩)∧Bk u OB (Td o (.slice a1 o.data.length k1) (.slice a2 o.cuts.length k2))∧Bk u DB SH) ⟨hM4,hO4,hD4⟩ ?_
     clear hdb hV3 hM3 hD3 hB3 hown3 hb03 HOx3 hzO;generalize w3.drew=w4 at *;obtain⟨kN,hkN,hkN7,_⟩:=Ce hD4 HRx.o;have kn0:(0:Int)≤(kN:Int):=om;have kn7:(kN:Int) < 7:=om;have hent:=FW HRx.o;have hcl:∀ u,Bk u DB SH→u.cell? ⟨DB,kN,none⟩=some (.func (.func (S1 o.kind)) #[] #[]):=fun u hu=>by
      obtain⟨kN',h1',_,h3'⟩:=Ce hu HRx.o;have:kN'=kN:=om;rw[← this];exact h3'
     have Hcl:=SM hcl;have HkN:=SM hkN;obtain⟨mf,hmf⟩:=eY (S1 o.kind);rw[hmf] at Hcl hent;have hg4:=HG.o.below HG.o.1 hb04;have hcall:=fun u (hu:Below w4.heap.size w4 u)=>zw u base n (120 * kk) V m p' q' v o _ _ (hV4.below hu) HVI.o (by rw[hB,hvk];exact hM4.below hu) (fun hx=>(HX.o m hx).1 rfl) (HOx4.o.below hu) HRx.o (hg4.below hg4.1 hu) Hdv.o om hn hn2 om (by have:=hu.size;omega)
     rw[hmf] at hcall;have Hcall:=SM hcall;clear hcl hcall hmf hg4 hkN
     repeat((first|refine yO ?_|refine yM ?_|refine yF rfl rfl (fun w' hC'=>by obtain⟨hM',hO',hD'⟩:=hC';have c0':=QD hO';have c1':=Hcl.o _ hD';have ro':=Rs hO';rw[HkN.o] at c0';go_simp;first|done|exact rfl) ?_);walk_nrm)
     obtain⟨dig,hdig⟩ : ∃ dig,(if o.kind=3 then Jj v.key o.data else bO)=dig:=⟨_,rfl⟩;rw[hdig] at Hcall;have Hdig:=SM hdig;clear hdig;have hRm:∀ i,VX p' V q' v.c i→i≠m∧i≠DB∧i≠RB∧i≠OB:=fun i hi=>by
      have h1:=HX.o i hi;have h2:=hltX i hi;exact⟨h1.1,h1.2.1,h1.2.2,om⟩
     have hml:m < w4.heap.size:=hM4.lt;have hDl4:DB < w4.heap.size:=hD4.lt;have hRl4:RB < w4.heap.size:=om;refine And.intro (?_:Tp _ _ _ (.run 6 _) _ _ _) (?_:Tp _ _ _ (.run 10 _) _ _ _)
     ·refine yR ?_;refine (Hcall.o w4 (Below.refl _ _)).mono ?_;rintro _ w5a ⟨rfl,hN⟩;obtain⟨p5,q5,g1,g2,g3,g4⟩:=hN;have hM5:=hM4.same (g3.block m hM4.lt (fun hx=>(hRm m hx).1 rfl));have hO5:=hO4.same (g3.block OB hO4.lt (fun hx=>(hRm OB hx).2.2.2 rfl));have hD5:=hD4.same (g3.block DB hD4.lt (fun hx=>(hRm DB hx).2.1 rfl));have hown5:=bu hown4 (fun g hg hl=>g3.block g hl (fun hx=>by
       simp only[Value.ownBlock,Option.some.injEq] at hg;subst hg;exact (hRm RB hx).2.2.1 rfl))
      have hX5:∀ i,VX p5 V q5 (aQ n v o).1.c i→i≠m∧i≠DB∧i≠RB∧i≠OB:=fun i hi=>by
       rcases g4 i hi with hh | hh
       ·exact hRm i hh
       ·exact⟨om,om,om,om⟩
      have hb5:Below w.heap.size w w5a:=hb04.trans (g3.below (fun i hi=>by have:=hV4.lo' hi;omega) om)
      have hz5:=g3.size;refine kS ⟨hM5,hO5,hD5⟩ ?_;walk_nrm;clear g3 hV4 hM4 hO4 hD4 hown4 hb04 Hcl Hcall hent
      repeat(refine yA ?_;walk_nrm)
      refine dd rfl rfl (fun K hK=>?_);go_simp;have hbG:=ba (.cells (fw B8 bO) 36) (Sy w5a);have hG5:=Row.made (f:=B8) w5a 36 bO;refine hK _ _ (fun u=>bL u m key (some ⟨p.B,0,none⟩) (some ⟨V,0,none⟩)∧Bk u OB (Td o (.slice a1 o.data.length k1) (.slice a2 o.cuts.length k2))∧Bk u DB SH) (fun _ h=>h) ⟨hM5.below hbG,hO5.below hbG,hD5.below hbG⟩ ?_;clear hK;have hV5l:∀ i,VX p5 V q5 (aQ n v o).1.c i→i < w5a.heap.size:=fun i hi=>g2.lt hi
      obtain⟨GB,hGB⟩:=eY w5a.heap.size;have hSt:jz w (w5a.alloc (.cells (fw B8 bO) 36)) base p5 V q5 n (aQ n v o).1 p.B m DB RB OB GB key (Td o (.slice a1 o.data.length k1) (.slice a2 o.cuts.length k2)) bO k kk rs :=
       ⟨g1.trans hB,g2.below hbG,fun i hi=>(by have hx:=hX5 i hi;have:=hV5l i hi;exact⟨hx.1,hx.2.1,hx.2.2.1,hx.2.2.2,om⟩),hM5.below hbG,hD5.below hbG,hO5.below hbG,hGB ▸ hG5,ah hown5 hbG,bt hb5 hbG,sO⟩
      rw[hGB];have hmG:m≠GB∧DB≠GB∧RB≠GB∧OB≠GB:=⟨om,om,om,om⟩;have hdR:m≠RB∧DB≠RB∧OB≠RB∧GB≠RB:=⟨om,om,om,om⟩;have hwG:w.heap.size≤GB:=om;clear g2 g4 hbG hG5 hM5 hO5 hD5 hown5 hX5 hb5 hz5 hV5l hGB;generalize w5a.alloc (.cells (fw B8 bO) 36)=w5b at *
      repeat(refine yA ?_;walk_nrm)
      have kG:=hSt.G.k;refine dd rfl rfl (fun K hK=>?_);go_simp;have hSt2:=hSt.put hmG hwG dig;refine hK _ _ (fun u=>bL u m key (some ⟨p.B,0,none⟩) (some ⟨V,0,none⟩)∧Bk u OB (Td o (.slice a1 o.data.length k1) (.slice a2 o.cuts.length k2))∧Bk u DB SH) (fun _ h=>h) ⟨hSt2.M,hSt2.O,hSt2.D⟩ ?_;clear hK kG hSt;generalize setAt w5b GB 0 (fw B8 dig)=w5 at *;refine al ?_;have HS5:=SM hSt2;clear hSt2
      (
       go_wp2_with fail
       have hdb:=(Sy w5).drew;have hS6:=HS5.o.below hdb;refine yW (tk 0 8 (tk 9 4 (.take 15 (.run 8 (.run 13 (.take 14 (.take 16 (.run 17 (.run 18 (.take 19 .done)))))))))) (fun u=>Bk u OB (Td o (.slice a1 o.data.length k1) (.slice a2 o.cuts.length k2))∧bL u m key (some ⟨p.B,0,none⟩) (some ⟨V,0,none⟩)∧Row B8 u GB dig) ⟨hS6.O,hS6.M,hS6.G⟩ ?_;clear hdb HS5;generalize w5.drew=w6 at *
       repeat((first|refine yO ?_|refine yM ?_|refine yF rfl rfl (fun w' hC'=>by obtain⟨hO',hM',hG'⟩:=hC';have c0':=QD hO';have c2':=hM'.f2;have qd:=hG'.r;go_simp;first|done|exact rfl) ?_);walk_nrm)
       refine yR ?_;refine (lV w6 base n V p5 q5 _ hS6.va).mono ?_;rintro _ w7 ⟨rfl,hN7⟩;obtain⟨p7,q7,hS7⟩:=hS6.next (Nat.le_of_lt hbz) hN7;refine kS ⟨hS7.O,hS7.M,hS7.G⟩ ?_;walk_nrm;clear hN7 hS6
       repeat(refine yA ?_;walk_nrm)
       refine yR ?_;refine (tW w7 base n (120 * kk+120) V p7 q7 _ hS7.va (HVI.o.step hn hn2 o).look).mono ?_;rintro _ w8 ⟨⟨lv,rfl,hlo⟩,hN8,_⟩;obtain⟨p8,q8,hS8⟩:=hS7.next (Nat.le_of_lt hbz) hN8;rw[fH] at hS8;obtain⟨la,lc,rfl,_⟩:=aG hlo;refine kS ⟨hS8.O,hS8.M,hS8.G⟩ ?_;walk_nrm;clear hN8 hS7 hlo;obtain⟨row,hrow⟩:=eY (jt n v o);obtain⟨ll,hll⟩:=eY ((dD (au (aQ n v o).1)).length);obtain⟨cd,hcd⟩:=eY ((aQ n v o).2)
       obtain⟨nw,hnw⟩:=eY ((aQ n v o).1.now);have hrw:jy row=eS o.kind cd nw (ll:Nat) dig:=by rw[← hrow,← hll,← hcd,← hnw,← Hdig.o];rfl
       rw[hll,hcd,hnw];have Hrow:=SM hrow;clear hll hcd hnw hrow
       repeat(refine yA ?_;walk_nrm)
       have hb9:=ba (.cells (eS o.kind cd nw (ll:Nat) dig) 38) (Sy w8);have hJ9:=PF.made w8 o.kind cd nw (ll:Nat) dig;have hS9:=hS8.below hb9;refine dd rfl rfl (fun K hK=>?_);go_simp;refine hK _ _ (fun u=>Bk u OB (Td o (.slice a1 o.data.length k1) (.slice a2 o.cuts.length k2))∧bL u m key (some ⟨p.B,0,none⟩) (some ⟨V,0,none⟩)∧Row B8 u GB dig) (fun _ h=>h) ⟨hS9.O,hS9.M,hS9.G⟩ ?_;clear hK hS8 hb9;obtain⟨SB,hSB⟩:=eY w8.heap.size
       rw[hSB] at hJ9 ⊢;clear hSB;generalize w8.alloc (.cells (eS o.kind cd nw (ll:Nat) dig) 38)=w9 at *
       repeat(refine yA ?_;walk_nrm)
       have hsrc:∀ j u,(jy row).toList[j]? = some u→w9.cell? ((⟨SB,0,none⟩ : Addr).add j)=some u:=by rw[hrw];exact fv (n:=36) hJ9.r
       refine dd rfl rfl (fun K hK=>?_);refine wp_append_own_spare _ _ _ _ rfl base 38 i0 36 lS hi hsz0 RB kk k (aZ jy rs) rfl hS9.own ⟨SB,0,none⟩ 1 1 (jy row).toList rfl ?c1 hsrc ?c2 ?c3 (fun w10 hown10 hgr10=>?_)
       case c1=>simp[fO]
       case c2=>rw[hrw];intro u hu;exact xM u (Array.mem_toList_iff.1 hu)
       case c3=>omega
       have hS10:=hS9.push hown10 hgr10 hdR om;refine hK _ _ (fun u=>Bk u OB (Td o (.slice a1 o.data.length k1) (.slice a2 o.cuts.length k2))∧bL u m key (some ⟨p.B,0,none⟩) (some ⟨V,0,none⟩)∧Row B8 u GB dig) (fun _ h=>h) ⟨hS10.O,hS10.M,hS10.G⟩ ?_;clear hK hown10 hgr10 hS9 hsrc hJ9
       repeat(refine yA ?_;walk_nrm)
       refine al ?_;have HS10:=SM hS10;clear hS10 hrw
       go_wp2
       go_roundw
       case rel =>
        have e:=HS1.o;rw[Hrow.o] at e;exact⟨kk+1,p8,q8,om,by go_num,rfl,HS10.o.pb,by rw[e];exact HS10.o.va,by rw[e];exact fun i hi=>⟨(HS10.o.X i hi).1,(HS10.o.X i hi).2.1,(HS10.o.X i hi).2.2.1⟩,HS10.o.M,HS10.o.D,by rw[e];exact HS10.o.own,HS10.o.b,HS10.o.z⟩
       case measure=>simp[intOf];omega)
     ·refine dd rfl rfl (fun K hK=>?_);go_simp;have hbG:=ba (.cells (fw B8 bO) 36) (Sy w4);have hG4:=Row.made (f:=B8) w4 36 bO;refine hK _ _ (fun u=>bL u m key (some ⟨p.B,0,none⟩) (some ⟨V,0,none⟩)∧Bk u OB (Td o (.slice a1 o.data.length k1) (.slice a2 o.cuts.length k2))∧Bk u DB SH) (fun _ h=>h) ⟨hM4.below hbG,hO4.below hbG,hD4.below hbG⟩ ?_;clear hK;have hVl4:∀ i,VX p' V q' v.c i→i < w4.heap.size:=fun i hi=>hV4.lt hi
      have hcall:=Hcall.o _ hbG;obtain⟨GB,hGB⟩:=eY w4.heap.size;have hSt:jz w (w4.alloc (.cells (fw B8 bO) 36)) base p' V q' n v p.B m DB RB OB GB key (Td o (.slice a1 o.data.length k1) (.slice a2 o.cuts.length k2)) bO k kk rs :=
       ⟨hB,hV4.below hbG,fun i hi=>(by have hx:=hRm i hi;have:=hVl4 i hi;exact⟨hx.1,hx.2.1,hx.2.2.1,hx.2.2.2,om⟩),hM4.below hbG,hD4.below hbG,hO4.below hbG,hGB ▸ hG4,ah hown4 hbG,bt hb04 hbG,sO⟩
      rw[hGB];have hmG:m≠GB∧DB≠GB∧RB≠GB∧OB≠GB:=⟨om,om,om,om⟩;have hdR:m≠RB∧DB≠RB∧OB≠RB∧GB≠RB:=⟨om,om,om,om⟩;have hwG:w.heap.size≤GB:=om;have Hcal:=SM hcall;clear hbG hG4 hV4 hM4 hO4 hD4 hown4 hb04 hVl4 hGB hcall Hcall HOx4;generalize w4.alloc (.cells (fw B8 bO) 36)=w5b at *
      repeat(refine yA ?_;walk_nrm)
      refine yR ?_;refine Hcal.o.mono ?_;rintro _ w5a ⟨rfl,hN⟩;obtain⟨p5,q5,hSt5⟩:=hSt.next (Nat.le_of_lt hbz) hN;refine⟨_,rfl,fun u=>bL u m key (some ⟨p.B,0,none⟩) (some ⟨V,0,none⟩)∧Bk u OB (Td o (.slice a1 o.data.length k1) (.slice a2 o.cuts.length k2))∧Bk u DB SH,fun _ h=>h,⟨hSt5.M,hSt5.O,hSt5.D⟩,?_⟩;walk_nrm;clear hSt hN Hcal hent Hcl
      repeat(refine yA ?_;walk_nrm)
      have kG:=hSt5.G.k;refine dd rfl rfl (fun K hK=>?_);go_simp;have hSt2:=hSt5.put hmG hwG dig;refine hK _ _ (fun u=>bL u m key (some ⟨p.B,0,none⟩) (some ⟨V,0,none⟩)∧Bk u OB (Td o (.slice a1 o.data.length k1) (.slice a2 o.cuts.length k2))∧Bk u DB SH) (fun _ h=>h) ⟨hSt2.M,hSt2.O,hSt2.D⟩ ?_;clear hK kG hSt5;generalize setAt w5a GB 0 (fw B8 dig)=w5 at *;refine al ?_;have HS5:=SM hSt2;clear hSt2
      (
       go_wp2_with fail
       have hdb:=(Sy w5).drew;have hS6:=HS5.o.below hdb;refine yW (tk 0 8 (tk 9 4 (.take 15 (.run 8 (.run 13 (.take 14 (.take 16 (.run 17 (.run 18 (.take 19 .done)))))))))) (fun u=>Bk u OB (Td o (.slice a1 o.data.length k1) (.slice a2 o.cuts.length k2))∧bL u m key (some ⟨p.B,0,none⟩) (some ⟨V,0,none⟩)∧Row B8 u GB dig) ⟨hS6.O,hS6.M,hS6.G⟩ ?_;clear hdb HS5;generalize w5.drew=w6 at *
       repeat((first|refine yO ?_|refine yM ?_|refine yF rfl rfl (fun w' hC'=>by obtain⟨hO',hM',hG'⟩:=hC';have c0':=QD hO';have c2':=hM'.f2;have qd:=hG'.r;go_simp;first|done|exact rfl) ?_);walk_nrm)
       refine yR ?_;refine (lV w6 base n V p5 q5 _ hS6.va).mono ?_;rintro _ w7 ⟨rfl,hN7⟩;obtain⟨p7,q7,hS7⟩:=hS6.next (Nat.le_of_lt hbz) hN7;refine kS ⟨hS7.O,hS7.M,hS7.G⟩ ?_;walk_nrm;clear hN7 hS6
       repeat(refine yA ?_;walk_nrm)
       refine yR ?_;refine (tW w7 base n (120 * kk+120) V p7 q7 _ hS7.va (HVI.o.step hn hn2 o).look).mono ?_;rintro _ w8 ⟨⟨lv,rfl,hlo⟩,hN8,_⟩;obtain⟨p8,q8,hS8⟩:=hS7.next (Nat.le_of_lt hbz) hN8;rw[fH] at hS8;obtain⟨la,lc,rfl,_⟩:=aG hlo;refine kS ⟨hS8.O,hS8.M,hS8.G⟩ ?_;walk_nrm;clear hN8 hS7 hlo;obtain⟨row,hrow⟩:=eY (jt n v o);obtain⟨ll,hll⟩:=eY ((dD (au (aQ n v o).1)).length);obtain⟨cd,hcd⟩:=eY ((aQ n v o).2)
       obtain⟨nw,hnw⟩:=eY ((aQ n v o).1.now);have hrw:jy row=eS o.kind cd nw (ll:Nat) dig:=by rw[← hrow,← hll,← hcd,← hnw,← Hdig.o];rfl
       rw[hll,hcd,hnw];have Hrow:=SM hrow;clear hll hcd hnw hrow
       repeat(refine yA ?_;walk_nrm)
       have hb9:=ba (.cells (eS o.kind cd nw (ll:Nat) dig) 38) (Sy w8);have hJ9:=PF.made w8 o.kind cd nw (ll:Nat) dig;have hS9:=hS8.below hb9;refine dd rfl rfl (fun K hK=>?_);go_simp;refine hK _ _ (fun u=>Bk u OB (Td o (.slice a1 o.data.length k1) (.slice a2 o.cuts.length k2))∧bL u m key (some ⟨p.B,0,none⟩) (some ⟨V,0,none⟩)∧Row B8 u GB dig) (fun _ h=>h) ⟨hS9.O,hS9.M,hS9.G⟩ ?_;clear hK hS8 hb9;obtain⟨SB,hSB⟩:=eY w8.heap.size
       rw[hSB] at hJ9 ⊢;clear hSB;generalize w8.alloc (.cells (eS o.kind cd nw (ll:Nat) dig) 38)=w9 at *
       repeat(refine yA ?_;walk_nrm)
       have hsrc:∀ j u,(jy row).toList[j]? = some u→w9.cell? ((⟨SB,0,none⟩ : Addr).add j)=some u:=by rw[hrw];exact fv (n:=36) hJ9.r
       refine dd rfl rfl (fun K hK=>?_);refine wp_append_own_spare _ _ _ _ rfl base 38 i0 36 lS hi hsz0 RB kk k (aZ jy rs) rfl hS9.own ⟨SB,0,none⟩ 1 1 (jy row).toList rfl ?c1 hsrc ?c2 ?c3 (fun w10 hown10 hgr10=>?_)
       case c1=>simp[fO]
       case c2=>rw[hrw];intro u hu;exact xM u (Array.mem_toList_iff.1 hu)
       case c3=>omega
       have hS10:=hS9.push hown10 hgr10 hdR om;refine hK _ _ (fun u=>Bk u OB (Td o (.slice a1 o.data.length k1) (.slice a2 o.cuts.length k2))∧bL u m key (some ⟨p.B,0,none⟩) (some ⟨V,0,none⟩)∧Row B8 u GB dig) (fun _ h=>h) ⟨hS10.O,hS10.M,hS10.G⟩ ?_;clear hK hown10 hgr10 hS9 hsrc hJ9
       repeat(refine yA ?_;walk_nrm)
       refine al ?_;have HS10:=SM hS10;clear hS10 hrw
       go_wp2
       go_roundw
       case rel =>
        have e:=HS1.o;rw[Hrow.o] at e;exact⟨kk+1,p8,q8,om,by go_num,rfl,HS10.o.pb,by rw[e];exact HS10.o.va,by rw[e];exact fun i hi=>⟨(HS10.o.X i hi).1,(HS10.o.X i hi).2.1,(HS10.o.X i hi).2.2.1⟩,HS10.o.M,HS10.o.D,by rw[e];exact HS10.o.own,HS10.o.b,HS10.o.z⟩
       case measure=>simp[intOf];omega)
    ·obtain rfl:kk=k:=om;have htk:(L.map Prod.fst).take kk=L.map Prod.fst:=List.take_of_length_le (by rw[List.length_map,HL.o];exact Nat.le_refl _)
     rw[htk,HRe.o] at hown;have Hown:=SM (bj (base':=w.heap.size) hown om);have Hbw:=SM hbw;clear hown hbw hV hX hMm hDm htk
     go_wp2
     refine bodyPost_ret (cR rfl rfl rfl rfl) rfl ⟨⟨_,_,rfl,Hown.o⟩,Hbw.o⟩
theorem lG(w:World)(key:RW)(skew:Int)(n kn c:Nat)(ad:Option Addr)(L:List R3)(h1:1≤skew)(h2:skew≤1073741824)(hn2:2≤n)(hn:n≤100)(hL:L.length=kn)(hk:kn≤100)(hO:rC w (.slice ad kn c) L)(hR:∀ x ∈ L,R6 x.1)(hg:GK w):
  Calls prog 9 #[.agg (du key skew n),.slice ad kn c] w fun e w'=>(∃ rv,e = .returned (.tuple #[rv,.nilIface])∧w'.ownsRow w.heap.size 38 36 rv kn (aZ jy (runL n (bN key skew (dG n)) (L.map Prod.fst)).1))∧Below w.heap.size w w':=by
 have hM:=eU.made w key skew n;have hb1:=ba (.cells (du key skew n) 33) (Sy w);have hc:=F6 (w.alloc (.cells (du key skew n) 33)) key skew n kn c ad L h1 h2 hn2 hn hL hk (hO.below hb1) hR (hg.below hg.1 hb1);have r0:=hM.r;have Hc:=SM hc;clear hO hR hg hM hL hc
 go_in
 go_wp2_with fail
 refine Hc.o.mono ?_;rintro _ w2 ⟨⟨rv,B,rfl,hown⟩,hb2⟩;have Ho:=SM (bj (base':=w.heap.size) hown sm);have Hb:=SM (bt hb1 hb2);clear hown hb2 hb1 r0 Hc
 go_wp2
 go_ret2
 exact⟨⟨_,rfl,Ho.o⟩,Hb.o⟩
end
end Go.Proofs.YtlcfaaodmickbaaGreatDoor
