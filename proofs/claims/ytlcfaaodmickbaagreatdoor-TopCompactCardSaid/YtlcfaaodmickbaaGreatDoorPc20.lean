/- Part 20 of the proof: texts merged and shortened by a program. No conditions. -/
import Derived.Test.YtlcfaaodmickbaaGreatDoorPc19
set_option linter.unusedSimpArgs false
set_option linter.unusedVariables false
set_option maxRecDepth 100000
set_option maxHeartbeats 8000000
namespace Go.Proofs.YtlcfaaodmickbaaGreatDoor
open Go.RowKit Go.Proofs.Tryz
section
theorem R0.commitD{n m:Nat}{D:DM}(h:R0 D n m)(s:Int)(g:Nat):R0 (commitD D s g).1 n (m+4):=by
 unfold Go.Proofs.YtlcfaaodmickbaaGreatDoor.commitD
 split
 ·exact (h.write s _).sync.more om
 ·exact (h.write s _).more om
theorem R0.rewriteL{n m:Nat}{D:DM}(h:R0 D n m)(M:LM)(L:List RQ):R0 (rewriteL D M L).1 n (m+2 * L.length+6):=by
 unfold Go.Proofs.YtlcfaaodmickbaaGreatDoor.rewriteL;have h1:=h.fillD (aR M.half (1 - M.side):Nat) M.half (max M.last M.gen+1) L;have h2:=h1.commitD (aR M.half (1 - M.side):Nat) (max M.last M.gen+1)
 split
 ·exact h.more om
 ·split
  ·exact h.more om
  ·split
   ·split
    ·exact h2.more om
    ·exact h2.more om
   ·exact h1.more om
theorem iX{ix:RP→Option Nat}{now:Int}{d:RP}{x:Nat}(h:aO ix now d=some x):ix d=some x∧now≤(x:Int):=by
 unfold aO at h;rw[Option.filter_eq_some_iff] at h;exact⟨h.1,by simpa using h.2⟩
theorem Fc.note{M:LM}(h:Fc M)(c:Int):Fc (eA M c):=⟨h.h,h.s,h.l,h.g,h.c⟩
theorem Cp{D:DM}{s len:Int}{g:Nat}{L:List RQ}(h:(fillD D s len g L).2=0):(L.length:Int)≤bp len:=by
 unfold fillD at h
 by_cases hr:bp len < L.length
 ·rw[if_pos hr] at h;cases h
 ·omega
theorem tg(D:DM)(M:LM)(L:List RQ):((rewriteL D M L).2.2≠0∧((rewriteL D M L).2.1=M∨∃ c,(rewriteL D M L).2.1=eA M c)) ∨
  ((rewriteL D M L).2.2=0∧(rewriteL D M L).2.1={ M with side:=1 - M.side,gen:=max M.last M.gen+1,count:=L.length }∧(L.length:Int)≤bp M.half∧max M.last M.gen≠4294967295∧M.broken=false):=by
 unfold rewriteL
 by_cases h1:M.broken=true
 ·rw[if_pos h1];exact .inl ⟨sm,.inl rfl⟩
 ·rw[if_neg h1]
  by_cases h2:max M.last M.gen=4294967295
  ·rw[if_pos h2];exact .inl ⟨sm,.inl rfl⟩
  ·rw[if_neg h2]
   by_cases h3:(fillD D (aR M.half (1 - M.side):Nat) M.half (max M.last M.gen+1) L).2=0
   ·rw[if_pos h3]
    by_cases h4:(commitD (fillD D (aR M.half (1 - M.side):Nat) M.half (max M.last M.gen+1) L).1 (aR M.half (1 - M.side):Nat) (max M.last M.gen+1)).2=0
    ·rw[if_pos h4];exact .inr ⟨rfl,rfl,Cp h3,h2,by simpa using h1⟩
    ·rw[if_neg h4];exact .inl ⟨h4,.inr ⟨_,rfl⟩⟩
   ·rw[if_neg h3];exact .inl ⟨h3,.inr ⟨_,rfl⟩⟩
theorem CI.note{n:Nat}{c:CM}{M':LM}(h:CI n c)(hM:M'=c.M∨∃ k,M'=eA c.M k):CI n { c with M:=M' }:=by
 rcases hM with rfl | ⟨k,rfl⟩
 ·exact h
 ·exact⟨h.half,h.ok.note k,h.room,h.keys,h.exp⟩
theorem CI.compact{n:Nat}{c:CM}(h:CI n c)(D:DM)(now:Int)(hL:ef c.ix now (cy c.ix now)):CI n (compactC D c now).2.1:=by
 unfold compactC
 rcases tg D c.M (cy c.ix now) with ⟨h1,h2⟩ | ⟨h1,h2,h3,h4,h5⟩
 ·rw[if_neg h1];exact h.note h2
 ·rw[if_pos h1,h2];have hlen:(cy c.ix now).length≤c.M.count:=by obtain⟨K,hK1,hK2⟩:=h.keys;exact Nat.le_trans (jM hL hK2) hK1
  refine⟨h.half,⟨h.ok.h,by show 1 - c.M.side≤1;omega,h.ok.l,?_,Nat.le_trans hlen h.ok.c⟩,h3,⟨(cy c.ix now).map Prod.fst,sm,fun d hd=>?_⟩,fun d x hx=>h.exp d x (iX hx).1⟩
  ·have:=h.ok.l;have:=h.ok.g;show max c.M.last c.M.gen+1 < _;omega
  ·obtain⟨x,hx⟩:=Option.ne_none_iff_exists'.1 hd;obtain⟨a,b⟩:=iX hx;exact List.mem_map.2 ⟨(d,x),(hL.mem (d,x)).2 ⟨a,b⟩,rfl⟩
theorem R0.compactC{n m:Nat}{D:DM}(h:R0 D n m)(c:CM)(now:Int):R0 (compactC D c now).1 n (m+2 * (cy c.ix now).length+6):=by
 unfold Go.Proofs.YtlcfaaodmickbaaGreatDoor.compactC
 split <;> exact h.rewriteL _ _
theorem Qw{u:World}{q:CP}{til:Int}(h:Bk u q.C (SD q til)):u.cell? ⟨q.C,0,none⟩=some (.pointer (some ⟨q.l,0,none⟩)):=h.cell 0 _ rfl
theorem PX{u:World}{q:CP}{til:Int}(h:Bk u q.C (SD q til)):u.cell? ⟨q.C,1,none⟩=some (.pointer (some ⟨q.x,0,none⟩)):=h.cell 1 _ rfl
theorem li(w:World)(base n m:Nat)(p:DP)(q:CP)(D:DM)(c:CM)(now:Int)(h:RJ w base p q n D c)(hI:CI n c)(hD:R0 D n m)(hm:m+2 * c.M.count+8≤100000)(hn:n≤5000)(hbase:base≤w.heap.size):
  Calls prog 33 #[.pointer (some ⟨q.C,0,none⟩),.int .i64 now] w fun e w'=>(∃ k,e = .returned (fg (compactC D c now).2.2 k))∧ef c.ix now (cy c.ix now)∧bF w base p q n (compactC D c now).1 (compactC D c now).2.1 w':=by
 have H:=SM h;have HI:=SM hI;have HD:=SM hD;clear h hI hD;obtain⟨R,hR⟩:=eY (compactC D c now);rw[hR];unfold compactC at hR;have HR:=SM hR;clear hR
 go_in
 go_wp2_with fail
 have hbd:=(Sy w).drew;refine yW (tk 0 9 (.run 9 (.run 10 (.take 11 .done)))) (fun u=>Bk u q.C (SD q c.til)) H.o.C.drew ?_;have h1:=H.o.below hbd;have hz1:=hbd.size;generalize w.drew=w1 at *;have H1:=SM h1;have Hbd:=SM hbd;clear h1 hbd
 repeat((first|refine yO ?_|refine yM ?_|refine yF rfl rfl (fun w' hC'=>by have c0:=Qw hC';have c1:=PX hC';go_simp;first|done|exact rfl) ?_);walk_nrm)
 refine yR ?_;obtain⟨K,hK1,hK2⟩:=HI.o.keys;refine (su q.x q.b c.ix now K w1 H1.o.I hK2 (Nat.le_trans hK1 HI.o.ok.c)).mono ?_;rintro _ w2 ⟨⟨v,rfl,ho,hL⟩,hb2⟩;have hlen:(cy c.ix now).length≤c.M.count:=Nat.le_trans (jM hL hK2) hK1;have hx:∀ e ∈ cy c.ix now,e.2≤4611686018427387904:=fun e he=>HI.o.exp _ _ ((hL.mem e).1 he).1;have h2:=H1.o.below hb2;refine kS h2.C ?_;walk_nrm;have HL:=SM hL;have Hb2:=SM (bt Hbd.o hb2)
 have hz2:=hb2.size;clear hL hK2 hb2;have hRd:=aG ho;obtain⟨ad,cap,rfl,_⟩:=hRd;have hRd:=aG ho;obtain⟨L,hLe⟩:=eY (cy c.ix now);rw[hLe] at HR HL hlen hx hRd ⊢;clear ho;refine yR ?_;refine (sF q.l p base n m L.length cap D c.M ad L w2 h2.L HI.o.ok h2.D HD.o om hn om h2.ok.c.2.1 rfl (Nat.le_trans hlen HI.o.ok.c) hx hRd).mono ?_;rintro _ w3 ⟨⟨k,rfl⟩,hN⟩;have hC3:=(iv.cache h2 hN).pre Hb2.o;clear hN hRd hx
 obtain⟨D3,hD3⟩:=eY ((rewriteL D c.M L).1);obtain⟨M3,hM3⟩:=eY ((rewriteL D c.M L).2.1);obtain⟨c3,hc3⟩:=eY ((rewriteL D c.M L).2.2);rw[hD3,hM3] at hC3;rw[hD3,hM3,hc3] at HR;rw[hc3];clear hD3 hM3 hc3;have HC3:=SM hC3;obtain⟨p3,hB3,hA3,hk3,hh3⟩:=hC3;refine kS hA3.C ?_;walk_nrm
 repeat(refine yA ?_;walk_nrm)
 refine al ?_;clear h2;have c1:=SA hA3
 by_cases h0:c3=0
 ·subst h0;have hr:=HR.o;rw[if_pos rfl] at hr;subst hr;rw[dM];have HA3:=SM hA3;have Hk3:=SM hk3;have Hh3:=SM hh3;clear hA3 hk3 hh3 HR
  go_wp2_with fail
  refine (ss q.x q.b c.ix now w3 HA3.o.I).mono ?_;rintro _ w4 ⟨⟨z,rfl⟩,hI4,hk4⟩;have hN4:=SM (bF.trans hB3 Hk3.o Hh3.o (bF.index HA3.o hI4 hk4));clear hI4 hk4
  go_wp2
  go_ret
  exact⟨⟨0,(congrArg Ending.returned (dM 0)).symm⟩,HL.o,hN4.o⟩
 ·have hr:=HR.o;rw[if_neg h0] at hr;subst hr;obtain⟨T,u,he⟩:=cG (k:=k) h0;rw[he];clear hA3 hk3 hh3 HR c1
  go_wp2
  go_ret
  exact⟨⟨k,congrArg Ending.returned he.symm⟩,HL.o,HC3.o⟩
end
section
theorem R0.putD{n m:Nat}{D:DM}(h:R0 D n m)(s len place:Int)(g:Nat)(d:RP)(x:Nat):R0 (putD D s len place g d x).1 n (m+4):=by
 unfold Go.Proofs.YtlcfaaodmickbaaGreatDoor.putD
 split
 ·exact h.more om
 ·split
  ·exact (h.write _ _).sync.more om
  ·exact (h.write _ _).more om
theorem R0.appendL{n m:Nat}{D:DM}(h:R0 D n m)(M:LM)(d:RP)(x:Nat):R0 (appendL D M d x).1 n (m+4):=by
 unfold Go.Proofs.YtlcfaaodmickbaaGreatDoor.appendL
 split
 ·exact h.more om
 ·split <;> exact h.putD _ _ _ _ _ _
theorem R0.putC{n m:Nat}{D:DM}(h:R0 D n m)(c:CM)(d:RP)(x:Nat):R0 (putC D c d x).1 n (m+4):=by
 unfold Go.Proofs.YtlcfaaodmickbaaGreatDoor.putC
 split <;> exact h.appendL _ _ _
theorem R0.insertC{n m:Nat}{D:DM}(h:R0 D n m)(c:CM)(d:RP)(x:Nat)(now:Int):R0 (insertC D c d x now).1 n (m+2 * (cy c.ix now).length+10):=by
 unfold Go.Proofs.YtlcfaaodmickbaaGreatDoor.insertC;have h1:=h.compactC c now
 split
 ·exact h.more om
 ·split
  ·exact h.more om
  ·split
   ·exact (h.putC c d x).more om
   ·split
    ·split
     ·exact (h1.putC _ d x).more om
     ·exact h1.more om
    ·exact h1.more om
theorem uD(D:DM)(M:LM)(d:RP)(x:Nat):((appendL D M d x).2.2≠0∧((appendL D M d x).2.1=M∨∃ c,(appendL D M d x).2.1=eA M c)) ∨
  ((appendL D M d x).2.2=0∧(appendL D M d x).2.1={ M with count:=M.count+1 }):=by
 unfold appendL
 by_cases h1:M.broken=true
 ·rw[if_pos h1];exact .inl ⟨sm,.inl rfl⟩
 ·rw[if_neg h1]
  by_cases h3:(putD D (aR M.half M.side:Nat) M.half ((M.count:Int)+1) M.gen d x).2=0
  ·rw[if_pos h3];exact .inr ⟨rfl,rfl⟩
  ·rw[if_neg h3];exact .inl ⟨h3,.inr ⟨_,rfl⟩⟩
theorem na{ix:RP→Option Nat}{d:RP}{n:Nat}{e:RP}{y:Nat}(h:(oh ix d n).1 e=some y):(e=d∧y=n)∨ix e=some y:=by
 unfold oh at h
 split at h
 ·exact .inr h
 ·simp only at h
  split at h
  ·rename_i he;exact .inl ⟨he,by simpa using h.symm⟩
  ·exact .inr h
theorem CI.put{n:Nat}{c:CM}(h:CI n c)(D:DM)(d:RP)(x:Nat)(hr:(c.M.count:Int) < bp c.M.half)(hx:x≤4611686018427387904):CI n (putC D c d x).2.1:=by
 unfold putC
 rcases uD D c.M d x with ⟨h1,h2⟩ | ⟨h1,h2⟩
 ·rw[if_neg h1];exact h.note h2
 ·rw[if_pos h1,h2];obtain⟨K,hK1,hK2⟩:=h.keys;have hc:c.M.count+1≤5000:=by
   have:=h.ok.h;unfold bp at hr
   split at hr <;> omega
  refine⟨h.half,⟨h.ok.h,h.ok.s,h.ok.l,h.ok.g,hc⟩,by show ((c.M.count+1:Nat):Int)≤bp c.M.half;omega,⟨d :: K,by simp;exact hK1,fun e he=>?_⟩,fun e y hy=>?_⟩
  ·obtain⟨y,hy⟩:=Option.ne_none_iff_exists'.1 he
   rcases na hy with ⟨rfl,_⟩ | h3
   ·simp
   ·exact List.mem_cons_of_mem _ (hK2 e (by rw[h3];simp))
  ·rcases na hy with ⟨_,rfl⟩ | h3
   ·exact hx
   ·exact h.exp e y h3
theorem CI.insert{n:Nat}{c:CM}(h:CI n c)(D:DM)(d:RP)(x:Nat)(now:Int)(hL:ef c.ix now (cy c.ix now)):CI n (insertC D c d x now).2.1:=by
 unfold insertC
 split
 ·exact h
 ·split
  ·exact h
  ·rename_i hx
   have hx':x≤4611686018427387904:=by
    have:=mt Or.inr hx;omega
   have h1:=h.compact D now hL
   split
   ·rename_i hr;exact h.put D d x hr hx'
   ·split
    ·split
     ·rename_i hr;exact h1.put _ d x hr hx'
     ·exact h1
    ·exact h1
theorem nq(w:World)(base n m:Nat)(p:DP)(q:CP)(D:DM)(c:CM)(d:RP)(x:Nat)(now:Int)(h:RJ w base p q n D c)(hI:CI n c)(hD:R0 D n m)(hm:m+2 * c.M.count+20≤100000)(hn:n≤5000)(hbase:base≤w.heap.size):
  Calls prog 65 #[.pointer (some ⟨q.C,0,none⟩),.agg (ev d (x:Int)),.int .i64 now] w fun e w'=>e = .returned (.int .i64 (insertC D c d x now).2.2)∧bF w base p q n (insertC D c d x now).1 (insertC D c d x now).2.1 w':=by
 have H:=SM h;have HI:=SM hI;have HD:=SM hD;have hE0:=lx w d (x:Int);have hb0:=ba (.cells (ev d (x:Int)) 89) (Sy w);have hnE:∀ i,CX p q i→i≠w.heap.size:=fun i hi e=>by have:=h.x_lt hi;omega
 obtain⟨R,hR⟩:=eY (insertC D c d x now);rw[hR];unfold insertC at hR;have HR:=SM hR;have HnE:Hd (∀ i,CX p q i→i≠w.heap.size):=SM hnE;clear h hI hD hR hnE
 go_in
 go_upto_region 1 with fail
 generalize w.alloc (.cells (ev d (x:Int)) 89)=w0 at *;have hA0:=H.o.below hb0;have hz0:=hb0.size;have HA0:=SM hA0;have HE0:=SM hE0;have hltE:=ac hE0;have Hb0:=SM hb0;clear hA0 hE0 hb0
 go_wp2_with fail
 have hdb:=(Sy w0).drew;have hA1:=HA0.o.below hdb;have hE1:readAt w0.drew w.heap.size 0 33=some (ev d (x:Int)):=HE0.o;refine yW (tk 0 7 (.run 7 .done)) (fun u=>Bk u q.C (SD q c.til)∧readAt u w.heap.size 0 33=some (ev d (x:Int))) ⟨hA1.C,hE1⟩ ?_;have Hb1:=SM (bt Hb0.o hdb);have hz1:=hdb.size;clear hdb HA0 HE0 Hb0;generalize w0.drew=w1 at *
 repeat((first|refine yO ?_|refine yM ?_|refine yF rfl rfl (fun w' hC'=>by obtain⟨hC1',hC2'⟩:=hC';have c1:=PX hC1';have qd:=rZ hC2';go_simp;first|done|exact rfl) ?_);walk_nrm)
 rw[nZ];refine yR ?_;refine (Gi q.x q.b c.ix d now w1 hA1.I).mono ?_;rintro _ w2 ⟨rfl,hb2⟩;have hA2:=hA1.below hb2;have hE2:readAt w2 w.heap.size 0 33=some (ev d (x:Int)):=by rw[ak hb2 (ac hE1)];exact hE1
 have Hb2:=SM (bt Hb1.o hb2);have hz2:=hb2.size;refine kS ⟨hA2.C,hE2⟩ ?_;walk_nrm
 repeat(refine yA ?_;walk_nrm)
 refine al ?_;clear hA1 hE1 Hb1 hb2;obtain⟨hs,hhs⟩:=eY (Ge c d now);have HR0:=HR.o;rw[hhs] at HR0;unfold Ge at hhs;rw[hhs];clear hhs HR;have HA2:=SM hA2;have HE2:=SM hE2;clear hA2 hE2;cases hs
 case true =>
  rw[if_pos rfl] at HR0;subst HR0;have HN:=SM ((bF.same HA2.o (Below.refl _ _)).pre Hb2.o)
  go_wp2
  go_ret
  exact⟨rfl,HN.o⟩
 rw[if_neg dc] at HR0;have HRx:=SM HR0;clear HR0
 go_wp2_with fail
 refine (vz w2 base n p q D c HA2.o).mono ?_;rintro _ _ ⟨rfl,rfl⟩;have cx:w2.cell? ⟨w.heap.size,32,none⟩=some (.int .i64 x):=by have:=ab HE2.o 32 _ (qo d (x:Int));rwa [Nat.zero_add] at this
 obtain⟨br,hbr⟩:=eY c.M.broken;rw[hbr];have HR0:=HRx.o;rw[hbr] at HR0;clear hbr HRx;cases br
 case true =>
  rw[if_pos (.inl rfl)] at HR0;subst HR0;have HN:=SM ((bF.same HA2.o (Below.refl _ _)).pre Hb2.o)
  go_wp2
  go_ret
  exact⟨rfl,HN.o⟩
 have d1:decide ((x:Int) < 0)=false:=df
 by_cases hxx:4611686018427387904 < x
 ·rw[if_pos (.inr hxx)] at HR0;subst HR0;have d2:decide ((4611686018427387904:Int) < (x:Int))=true:=dt;have HN:=SM ((bF.same HA2.o (Below.refl _ _)).pre Hb2.o)
  go_wp2
  go_ret
  exact⟨rfl,HN.o⟩
 have d2:decide ((4611686018427387904:Int) < (x:Int))=false:=df;rw[if_neg sO] at HR0;have hx:x≤4611686018427387904:=om;have HRx:=SM HR0;clear HR0;have hcnt:c.M.count≤5000:=HI.o.ok.c
 go_wp2_with fail
 clear cx d1 d2;refine (nu w2 base n p q D c HA2.o).mono ?_;rintro _ _ ⟨rfl,rfl⟩
 go_wp2_with fail
 refine (nr w2 base n p q D c HA2.o HI.o.ok).mono ?_;rintro _ w1 ⟨rfl,hb1⟩;have HA1:=SM (HA2.o.below hb1);have HE1:Hd (readAt w1 w.heap.size 0 33=some (ev d (x:Int))):=SM (by rw[ak hb1 (ac HE2.o)];exact HE2.o)
 have Hb1:=SM (bt Hb2.o hb1);have hz3:=hb1.size;clear hb1 HA2 HE2 Hb2;have HR0:=HRx.o;clear HRx
 by_cases hr0:(c.M.count:Int) < bp c.M.half
 ·have d4:decide (bp c.M.half≤(c.M.count:Int))=false:=df
  go_wp2_with fail
  obtain⟨p1,hp1⟩:=eY p;obtain⟨c1,hc1⟩:=eY c;obtain⟨D1,hD1⟩:=eY D;obtain⟨m1,hm1⟩:=eY m;have hm1':m1+4≤100000:=om;rw[if_pos hr0] at HR0;have HN1:Hd (∀ D2 c2 w3,bF w1 base p1 q n D2 c2 w3→bF w base p q n D2 c2 w3):=SM (fun D2 c2 w3 hh=>by subst hp1;exact hh.pre Hb1.o)
  have hnX : ¬ CX p1 q w.heap.size:=fun hh=>HnE.o _ (hp1 ▸ hh) rfl;have HR1:Hd ((if (c1.M.count:Int) < bp c1.M.half then putC D1 c1 d x else (D1,c1,9))=R):=SM (by subst hc1 hD1;rw[if_pos hr0];exact HR0)
  have HI1:Hd (CI n c1):=SM (hc1 ▸ HI.o);have HD1:Hd (R0 D1 n m1):=SM (by subst hD1 hm1;exact HD.o)
  rw[hp1,hD1] at HA1;rw[hc1] at HA1;clear Hb1 HnE H HI HD hm1 hr0 d4;clear hc1 hD1 hp1
  (
   clear HR0
   go_wp2_with fail
   refine (nu w1 base n p1 q D1 c1 HA1.o).mono ?_;rintro _ _ ⟨rfl,rfl⟩
   go_wp2_with fail
   refine (nr w1 base n p1 q D1 c1 HA1.o HI1.o.ok).mono ?_;rintro _ w2 ⟨rfl,hb2⟩;have hA2:=HA1.o.below hb2;have hE2:readAt w2 w.heap.size 0 33=some (ev d (x:Int)):=by rw[ak hb2 (ac HE1.o)];exact HE1.o
   have HN2:Hd (∀ D2 c2 w3,bF w2 base p1 q n D2 c2 w3→bF w base p q n D2 c2 w3):=SM (fun D2 c2 w3 hh=>HN1.o D2 c2 w3 (hh.pre hb2));have hzt:=hb2.size;clear hb2
   by_cases hr:(c1.M.count:Int) < bp c1.M.half
   ·have d3:decide (bp c1.M.half≤(c1.M.count:Int))=false:=df;have hR1:=HR1.o;rw[if_pos hr] at hR1;unfold putC at hR1;have HR2:=SM hR1;clear hR1 HR1;have HA2:=SM hA2;have HE2:=SM hE2;clear hA2 hE2
    go_wp2_with fail
    have hdb:=(Sy w2).drew;have hA3:=HA2.o.below hdb;have hE3:readAt w2.drew w.heap.size 0 33=some (ev d (x:Int)):=HE2.o;refine yW (tk 0 5 (.run 5 (.take 6 .done))) (fun u=>Bk u q.C (SD q c1.til)∧readAt u w.heap.size 0 33=some (ev d (x:Int))) ⟨hA3.C,hE3⟩ ?_;have HN3:Hd (∀ D2 c2 w3,bF w2.drew base p1 q n D2 c2 w3→bF w base p q n D2 c2 w3):=SM (fun D2 c2 w3 hh=>HN2.o D2 c2 w3 (hh.pre hdb));have hz3:=hdb.size
    clear hdb HN2 HA2 HE2;generalize w2.drew=w3 at *
    repeat((first|refine yO ?_|refine yM ?_|refine yF rfl rfl (fun w' hC'=>by obtain⟨hC1',hC2'⟩:=hC';have c0:=Qw hC1';go_simp;first|done|exact rfl) ?_);walk_nrm)
    refine yR ?_;refine (mP q.l p1 base n m1 D1 c1.M d x w3 hA3.L HI1.o.ok hA3.D HD1.o om hn om hA3.ok.c.2.1 hx).mono ?_;rintro _ w4 ⟨⟨k,rfl⟩,hN4⟩;have hN4:=iv.cache hA3 hN4;obtain⟨D4,hD4⟩:=eY ((appendL D1 c1.M d x).1);obtain⟨M4,hM4⟩:=eY ((appendL D1 c1.M d x).2.1);obtain⟨c4,hc4⟩:=eY ((appendL D1 c1.M d x).2.2);rw[hD4,hM4] at hN4;rw[hD4,hM4,hc4] at HR2;rw[hc4];clear hD4 hM4 hc4;obtain⟨p4,hB4,hA4,hk4,hh4⟩:=hN4
    have hE4:readAt w4 w.heap.size 0 33=some (ev d (x:Int)):=by
     rw[← hE3];simp[readAt,hk4.block w.heap.size (ac hE3) hnX]
    refine kS ⟨hA4.C,hE4⟩ ?_;walk_nrm
    repeat(refine yA ?_;walk_nrm)
    refine al ?_;have HA4:=SM hA4;have HN4:Hd (∀ D2 c2 w5,bF w4 base p4 q n D2 c2 w5→bF w base p q n D2 c2 w5):=SM (fun D2 c2 w5 hh=>HN3.o D2 c2 w5 (bF.trans hB4 hk4 hh4 hh));clear hk4 hh4 HN3 hA3 hE3
    by_cases h0:c4=0
    ·subst h0;have hr2:=HR2.o;rw[if_pos rfl] at hr2;subst hr2;rw[dM];clear hA4 HR2
     go_wp2_with fail
     have hdb:=(Sy w4).drew;have hA5:=HA4.o.below hdb;have hE5:readAt w4.drew w.heap.size 0 33=some (ev d (x:Int)):=hE4;refine yW (tk 0 5 (.run 5 .done)) (fun u=>Bk u q.C (SD q c1.til)∧readAt u w.heap.size 0 33=some (ev d (x:Int))) ⟨hA5.C,hE5⟩ ?_;have HN5:Hd (∀ D2 c2 w5,bF w4.drew base p4 q n D2 c2 w5→bF w base p q n D2 c2 w5):=SM (fun D2 c2 w5 hh=>HN4.o D2 c2 w5 (hh.pre hdb));clear hdb HN4 HA4 hE4
     generalize w4.drew=w5 at *
     repeat((first|refine yO ?_|refine yM ?_|refine yF rfl rfl (fun w' hC'=>by obtain⟨hC1',hC2'⟩:=hC';have c1':=PX hC1';go_simp;first|done|exact rfl) ?_);walk_nrm)
     refine yR ?_;refine (qD q.x q.b c1.ix d x w5 hA5.I).mono ?_;rintro _ w6 ⟨rfl,hI6,hk6⟩;have HN6:=SM (HN5.o _ _ _ (bF.index hA5 hI6 hk6));have hC6:=hA5.C.same (hk6.block q.C hA5.C.lt hA5.ok.d.2.2.1);have hE6:readAt w6 w.heap.size 0 33=some (ev d (x:Int)):=by
      rw[← hE5];simp[readAt,hk6.block w.heap.size (ac hE5) (fun hx2=>hnX (.inr (.inr hx2)))]
     clear hI6 hk6 hA5;refine kS ⟨hC6,hE6⟩ ?_;walk_nrm
     repeat(refine yA ?_;walk_nrm)
     refine al ?_
     go_wp2
     go_ret
     exact⟨rfl,HN6.o⟩
    ·have hr2:=HR2.o;rw[if_neg h0] at hr2;subst hr2;obtain⟨T,u,he⟩:=cG (k:=k) h0;have ha:=fun W=>js c4 k W;rw[he] at ha ⊢;clear hA4 HR2 hE4
     go_wp2_with fail
     refine (ha w4).mono ?_;rintro _ w5 ⟨rfl,hb5⟩;have HN5:=SM (HN4.o _ _ _ (bF.same HA4.o hb5));clear hb5 ha
     go_wp2
     go_ret
     exact⟨rfl,HN5.o⟩
   ·have d3:decide (bp c1.M.half≤(c1.M.count:Int))=true:=dt;have hR1:=HR1.o;rw[if_neg hr] at hR1;subst hR1;have HN3:=SM (HN2.o _ _ _ (bF.same hA2 (Below.refl _ _)));clear hA2 hE2 HR1 HN2
    go_wp2
    go_ret
    exact⟨rfl,HN3.o⟩)
 ·have d4:decide (bp c.M.half≤(c.M.count:Int))=true:=dt;rw[if_neg hr0] at HR0;have HRx:=SM HR0;clear HR0
  go_wp2_with fail
  refine (li w1 base n m p q D c now HA1.o HI.o HD.o om hn om).mono ?_;rintro _ w4 ⟨⟨k,rfl⟩,hLv,hN⟩;have hI4:=HI.o.compact D now hLv;have hlen:(cy c.ix now).length≤c.M.count:=by obtain⟨K,hK1,hK2⟩:=HI.o.keys;exact Nat.le_trans (jM hLv hK2) hK1
  have hD4:=(HD.o.compactC c now).more (m':=m+2 * c.M.count+6) om;obtain⟨D1,hD1⟩:=eY ((compactC D c now).1);obtain⟨c1,hc1⟩:=eY ((compactC D c now).2.1);obtain⟨k1,hk1⟩:=eY ((compactC D c now).2.2);rw[hc1] at hI4;rw[hD1] at hD4;rw[hD1,hc1] at hN;rw[hD1,hc1,hk1] at HRx;rw[hk1];clear hD1 hc1 hk1 hLv;have HNN:=SM (hN.pre Hb1.o);obtain⟨p1,hB1,hA1,hk1,hh1⟩:=hN;have hE1:readAt w4 w.heap.size 0 33=some (ev d (x:Int)):=by
   rw[← HE1.o];simp[readAt,hk1.block w.heap.size (ac HE1.o) (fun hx2=>HnE.o _ hx2 rfl)]
  have hz4:=hk1.size;have HNk:Hd (∀ D2 c2 w3,bF w4 base p1 q n D2 c2 w3→bF w base p q n D2 c2 w3):=SM (fun D2 c2 w3 hh=>(bF.trans hB1 hk1 hh1 hh).pre Hb1.o);have hnX : ¬ CX p1 q w.heap.size:=fun hi=>by
   rcases hi with hi | hi
   ·rcases hh1 _ hi with hh | hh
    ·exact HnE.o _ (.inl hh) rfl
    ·omega
   ·exact HnE.o _ (.inr hi) rfl
  clear HA1 HE1 hk1 hh1
  by_cases h0:k1=0
  ·subst h0;have HR0:=HRx.o;rw[if_pos rfl] at HR0;rw[dM];have HA1:=SM hA1;have HE1:=SM hE1;have HI1:=SM hI4;have HN1:=HNk;obtain⟨m1,hm1⟩:=eY (m+2 * c.M.count+6);rw[hm1] at hD4;have hm1':m1+4≤100000:=om;have HD1:=SM hD4;have HR1:=SM HR0;clear hA1 hE1 hI4 hD4 HRx HNk HNN HI HD H Hb1 HnE hm1 hr0 d4;have hz3:w.heap.size≤w4.heap.size:=om;clear hz4;obtain⟨w1,hw⟩ : ∃ u,u=w4:=⟨_,rfl⟩;subst hw
   go_wp2_with fail
   (
    clear HR0
    go_wp2_with fail
    refine (nu w1 base n p1 q D1 c1 HA1.o).mono ?_;rintro _ _ ⟨rfl,rfl⟩
    go_wp2_with fail
    refine (nr w1 base n p1 q D1 c1 HA1.o HI1.o.ok).mono ?_;rintro _ w2 ⟨rfl,hb2⟩;have hA2:=HA1.o.below hb2;have hE2:readAt w2 w.heap.size 0 33=some (ev d (x:Int)):=by rw[ak hb2 (ac HE1.o)];exact HE1.o
    have HN2:Hd (∀ D2 c2 w3,bF w2 base p1 q n D2 c2 w3→bF w base p q n D2 c2 w3):=SM (fun D2 c2 w3 hh=>HN1.o D2 c2 w3 (hh.pre hb2));have hzt:=hb2.size;clear hb2
    by_cases hr:(c1.M.count:Int) < bp c1.M.half
    ·have d3:decide (bp c1.M.half≤(c1.M.count:Int))=false:=df;have hR1:=HR1.o;rw[if_pos hr] at hR1;unfold putC at hR1;have HR2:=SM hR1;clear hR1 HR1;have HA2:=SM hA2;have HE2:=SM hE2;clear hA2 hE2
     go_wp2_with fail
     have hdb:=(Sy w2).drew;have hA3:=HA2.o.below hdb;have hE3:readAt w2.drew w.heap.size 0 33=some (ev d (x:Int)):=HE2.o;refine yW (tk 0 5 (.run 5 (.take 6 .done))) (fun u=>Bk u q.C (SD q c1.til)∧readAt u w.heap.size 0 33=some (ev d (x:Int))) ⟨hA3.C,hE3⟩ ?_;have HN3:Hd (∀ D2 c2 w3,bF w2.drew base p1 q n D2 c2 w3→bF w base p q n D2 c2 w3):=SM (fun D2 c2 w3 hh=>HN2.o D2 c2 w3 (hh.pre hdb));have hz3:=hdb.size
     clear hdb HN2 HA2 HE2;generalize w2.drew=w3 at *
     repeat((first|refine yO ?_|refine yM ?_|refine yF rfl rfl (fun w' hC'=>by obtain⟨hC1',hC2'⟩:=hC';have c0:=Qw hC1';go_simp;first|done|exact rfl) ?_);walk_nrm)
     refine yR ?_;refine (mP q.l p1 base n m1 D1 c1.M d x w3 hA3.L HI1.o.ok hA3.D HD1.o om hn om hA3.ok.c.2.1 hx).mono ?_;rintro _ w4 ⟨⟨k,rfl⟩,hN4⟩;have hN4:=iv.cache hA3 hN4;obtain⟨D4,hD4⟩:=eY ((appendL D1 c1.M d x).1);obtain⟨M4,hM4⟩:=eY ((appendL D1 c1.M d x).2.1);obtain⟨c4,hc4⟩:=eY ((appendL D1 c1.M d x).2.2);rw[hD4,hM4] at hN4;rw[hD4,hM4,hc4] at HR2;rw[hc4];clear hD4 hM4 hc4;obtain⟨p4,hB4,hA4,hk4,hh4⟩:=hN4
     have hE4:readAt w4 w.heap.size 0 33=some (ev d (x:Int)):=by
      rw[← hE3];simp[readAt,hk4.block w.heap.size (ac hE3) hnX]
     refine kS ⟨hA4.C,hE4⟩ ?_;walk_nrm
     repeat(refine yA ?_;walk_nrm)
     refine al ?_;have HA4:=SM hA4;have HN4:Hd (∀ D2 c2 w5,bF w4 base p4 q n D2 c2 w5→bF w base p q n D2 c2 w5):=SM (fun D2 c2 w5 hh=>HN3.o D2 c2 w5 (bF.trans hB4 hk4 hh4 hh));clear hk4 hh4 HN3 hA3 hE3
     by_cases h0:c4=0
     ·subst h0;have hr2:=HR2.o;rw[if_pos rfl] at hr2;subst hr2;rw[dM];clear hA4 HR2
      go_wp2_with fail
      have hdb:=(Sy w4).drew;have hA5:=HA4.o.below hdb;have hE5:readAt w4.drew w.heap.size 0 33=some (ev d (x:Int)):=hE4;refine yW (tk 0 5 (.run 5 .done)) (fun u=>Bk u q.C (SD q c1.til)∧readAt u w.heap.size 0 33=some (ev d (x:Int))) ⟨hA5.C,hE5⟩ ?_;have HN5:Hd (∀ D2 c2 w5,bF w4.drew base p4 q n D2 c2 w5→bF w base p q n D2 c2 w5):=SM (fun D2 c2 w5 hh=>HN4.o D2 c2 w5 (hh.pre hdb));clear hdb HN4 HA4 hE4
      generalize w4.drew=w5 at *
      repeat((first|refine yO ?_|refine yM ?_|refine yF rfl rfl (fun w' hC'=>by obtain⟨hC1',hC2'⟩:=hC';have c1':=PX hC1';go_simp;first|done|exact rfl) ?_);walk_nrm)
      refine yR ?_;refine (qD q.x q.b c1.ix d x w5 hA5.I).mono ?_;rintro _ w6 ⟨rfl,hI6,hk6⟩;have HN6:=SM (HN5.o _ _ _ (bF.index hA5 hI6 hk6));have hC6:=hA5.C.same (hk6.block q.C hA5.C.lt hA5.ok.d.2.2.1);have hE6:readAt w6 w.heap.size 0 33=some (ev d (x:Int)):=by
       rw[← hE5];simp[readAt,hk6.block w.heap.size (ac hE5) (fun hx2=>hnX (.inr (.inr hx2)))]
      clear hI6 hk6 hA5;refine kS ⟨hC6,hE6⟩ ?_;walk_nrm
      repeat(refine yA ?_;walk_nrm)
      refine al ?_
      go_wp2
      go_ret
      exact⟨rfl,HN6.o⟩
     ·have hr2:=HR2.o;rw[if_neg h0] at hr2;subst hr2;obtain⟨T,u,he⟩:=cG (k:=k) h0;have ha:=fun W=>js c4 k W;rw[he] at ha ⊢;clear hA4 HR2 hE4
      go_wp2_with fail
      refine (ha w4).mono ?_;rintro _ w5 ⟨rfl,hb5⟩;have HN5:=SM (HN4.o _ _ _ (bF.same HA4.o hb5));clear hb5 ha
      go_wp2
      go_ret
      exact⟨rfl,HN5.o⟩
    ·have d3:decide (bp c1.M.half≤(c1.M.count:Int))=true:=dt;have hR1:=HR1.o;rw[if_neg hr] at hR1;subst hR1;have HN3:=SM (HN2.o _ _ _ (bF.same hA2 (Below.refl _ _)));clear hA2 hE2 HR1 HN2
     go_wp2
     go_ret
     exact⟨rfl,HN3.o⟩)
  ·have HR0:=HRx.o;rw[if_neg h0] at HR0;subst HR0;obtain⟨T,u,he⟩:=cG (k:=k) h0;have ha:=fun W=>js k1 k W;rw[he] at ha ⊢;have HA1:=SM hA1;clear hA1 hE1 hI4 hD4 HRx
   go_wp2_with fail
   refine (ha w4).mono ?_;rintro _ w5 ⟨rfl,hb5⟩;have HN5:=SM (HNN.o.post hb5);clear hb5 ha
   go_wp2
   go_ret
   exact⟨rfl,HN5.o⟩
end
section
theorem R0.openD{n m:Nat}{D:DM}(h:R0 D n m)(n':Nat):R0 (openD D n').1 n (m+8):=by
 unfold Go.Proofs.YtlcfaaodmickbaaGreatDoor.openD;have h1:=h.sync;have h2:=h1.commitD 0 ((dN (bz D).1 n').1+1)
 split
 ·split
  ·split
   ·exact h1.more om
   ·split
    ·exact h1.more om
    ·split
     ·exact h1.more om
     ·split <;> exact h2.more om
  ·exact h1.more om
 ·exact h1.more om
theorem R0.openC{n m:Nat}{D:DM}(h:R0 D n m)(n':Nat)(skew now:Int):R0 (openC D n' skew now).1 n (m+8):=by
 unfold Go.Proofs.YtlcfaaodmickbaaGreatDoor.openC
 split <;> exact h.openD n'
theorem xy{len:Nat}{D:DM}{s:Int}: ∀ (L:List SE) (st:Si),(gv st L).1.2.2.length≤st.2.2.length+(if st.1=true then L.length else L.length - 1)
 | [],st=>by simp[gv]
 | x :: r,st=>by
  rw[gv]
  by_cases hc:x.2.1=0
  ·rw[if_pos hc];cases hg:jq st x with
   | none=>simp only;omega
   | some st' =>
    simp only;have ih:=xy (len:=len) (D:=D) (s:=s) r st';unfold jq at hg
    split at hg
    ·rename_i h1
     split at hg
     ·cases hg;simp only[h1,if_true] at ih ⊢;simp;simpa using ih
     ·cases hg
    ·rename_i h1
     have h1:st.1=true:=by simpa using h1
     split at hg
     ·cases hg;simp only[h1,if_true] at ih ⊢;simp at ih ⊢;omega
     ·cases hg
  ·rw[if_neg hc];simp
theorem Ec(D:DM)(s:Int)(len:Nat):(dh D s len).1.2.2.length≤len - 1:=by
 have:=xy (len:=len) (D:=D) (s:=s) (Tn (SI D s) len) (false,0,[])
 simpa [dh,jd] using this
theorem tu:∀ (L:List SE) (st:Si),st.2.1 < 4294967296→(gv st L).1.2.1 < 4294967296
 | [],st,h=>h
 | x :: r,st,h=>by
  rw[gv]
  by_cases hc:x.2.1=0
  ·rw[if_pos hc];cases hg:jq st x with
   | none=>exact h
   | some st' =>
    refine tu r st' ?_;unfold jq at hg
    split at hg
    ·split at hg
     ·cases hg;unfold ej;split <;> first | exact yc _ | decide
     ·cases hg
    ·split at hg
     ·cases hg;exact h
     ·cases hg
  ·rw[if_neg hc];show 0 < 4294967296;omega
theorem ts:∀ (L:List SE) (st:Si),(∀ e ∈ st.2.2,e.2≤4611686018427387904)→∀ e ∈ (gv st L).1.2.2,e.2≤4611686018427387904
 | [],st,h=>h
 | x :: r,st,h=>by
  rw[gv]
  by_cases hc:x.2.1=0
  ·rw[if_pos hc];cases hg:jq st x with
   | none=>exact h
   | some st' =>
    refine ts r st' ?_;unfold jq at hg
    split at hg
    ·split at hg
     ·cases hg;exact h
     ·cases hg
    ·split at hg
     ·rename_i h2
      cases hg;intro e he
      rcases List.mem_append.1 he with he | he
      ·exact h e he
      ·obtain rfl:=List.mem_singleton.1 he;have h3:=h2.1;unfold S9 at h3;simp at h3;exact h3.2.2
     ·cases hg
  ·rw[if_neg hc];intro e he;cases he
theorem F9(D:DM)(M:LM)(k:Nat)(M':LM)(f:Bool)(es:List RQ)(h:dm D M k = .ok (M',f,es)):(f=false∧es=[]∧M'=M) ∨
  (f=true∧∃ s,s < k∧M'={ M with side:=s,gen:=(dh D (aR M.half s:Nat) M.half).1.2.1,count:=(dh D (aR M.half s:Nat) M.half).1.2.2.length }∧es=(dh D (aR M.half s:Nat) M.half).1.2.2∧(dh D (aR M.half s:Nat) M.half).2=0∧(dh D (aR M.half s:Nat) M.half).1.1=true):=by
 induction k generalizing M' f es with
 | zero=>unfold dm at h;cases h;exact .inl ⟨rfl,rfl,rfl⟩
 | succ k ih =>
  unfold dm at h;cases h2:dm D M k with
  | error c=>rw[h2] at h;cases h
  | ok t =>
   obtain⟨M2,f2,e2⟩:=t;rw[h2] at h;simp only at h;have ih:=ih M2 f2 e2 h2
   by_cases h3:(dh D (aR M.half k:Nat) M.half).2=0
   ·rw[if_pos h3] at h
    by_cases h4:(dh D (aR M.half k:Nat) M.half).1.1=false∨(f2=true∧(dh D (aR M.half k:Nat) M.half).1.2.1≤M2.gen)
    ·rw[if_pos h4] at h;cases h
     rcases ih with ih | ⟨a,s,b,c⟩
     ·exact .inl ih
     ·exact .inr ⟨a,s,om,c⟩
    ·rw[if_neg h4] at h;cases h;refine .inr ⟨rfl,k,om,?_,rfl,h3,by simpa using fun h5=>h4 (.inl h5)⟩
     rcases ih with ⟨_,_,rfl⟩ | ⟨_,s,_,rfl,_⟩ <;> rfl
   ·rw[if_neg h3] at h;cases h
theorem sA(L:List RQ):∀ d x,gR L d=some x→(d,x) ∈ L:=by
 induction L using di with
 | h0=>intro d x h;cases h
 | h1 l a ih =>
  intro d x h;rw[jK] at h
  rcases na h with ⟨rfl,rfl⟩ | h
  ·simp
  ·exact List.mem_append_left _ (ih d x h)
theorem sM{D:DM}{n:Nat}{M:LM}{es:List RQ}(h:(openD D n).2 = .ok (M,es))(hn:n≤5000)(h2:2≤n):M.half=n / 2∧Fc M∧es.length=M.count∧(M.count:Int)≤bp M.half∧(∀ e ∈ es,e.2≤4611686018427387904)∧M.broken=false:=by
 have hroom:bp ((n / 2:Nat):Int)=((n / 2:Nat):Int) - 1:=by unfold bp;rw[if_neg om]
 have hlt:=xG (Tn (SI (bz D).1 0) n) 0 om;rw[show gY (Tn (SI (bz D).1 0) n) 0=dN (bz D).1 n from rfl] at hlt
 unfold openD at h
 split at h
 ·split at h
  ·split at h
   ·cases h
   ·rename_i M2 f es2 hf
    rcases F9 _ _ _ _ _ _ hf with ⟨rfl,rfl,rfl⟩ | ⟨rfl,s,hs,rfl,rfl,_⟩
    ·rw[if_neg dc] at h
     split at h
     ·cases h
     ·split at h
      ·cases h;refine⟨rfl,⟨by show n / 2≤5000;omega,by show 0≤1;omega,hlt,by show (dN (bz D).1 n).1+1 < 4294967296;omega,by show 0≤5000;omega⟩,rfl,?_,fun e he=>(by cases he),rfl⟩
       show ((0:Nat):Int)≤bp ((n / 2:Nat):Int)
       rw[hroom];omega
      ·cases h
    ·rw[if_pos rfl] at h;cases h;have hl:=Ec (bz D).1 (aR (n / 2) s:Nat) (n / 2);refine⟨rfl,⟨by show n / 2≤5000;omega,by show s≤1;omega,hlt,tu _ _ (by show 0 < 4294967296;omega),by show (dh (bz D).1 (aR (n / 2) s:Nat) (n / 2)).1.2.2.length≤5000;omega⟩,rfl,?_,ts _ _ (fun e he=>by cases he),rfl⟩
     show (((dh (bz D).1 (aR (n / 2) s:Nat) (n / 2)).1.2.2.length:Nat):Int)≤bp ((n / 2:Nat):Int)
     rw[hroom];omega
  ·cases h
 ·cases h
theorem CI.opened{D:DM}{n:Nat}{skew now:Int}{c:CM}(h:(openC D n skew now).2 = .ok c)(hn:n≤5000)(h2:2≤n):CI n c:=by
 unfold openC at h;cases hr:(openD D n).2 with
 | error k=>rw[hr] at h;cases h
 | ok t =>
  obtain⟨M,es⟩:=t;rw[hr] at h;cases h;obtain⟨a,b,c,d,e,_⟩:=sM hr hn h2;refine⟨a,b,d,⟨es.map Prod.fst,by simp[c],fun k hk=>?_⟩,fun k x hx=>e _ (sA es k x (iX hx).1)⟩
  obtain⟨x,hx⟩:=Option.ne_none_iff_exists'.1 hk;exact List.mem_map.2 ⟨(k,x),sA es k x (iX hx).1,rfl⟩
def Ff(w:World)(base:Nat)(p:DP)(n:Nat)(R:DM × Except Int CM)(e:Ending)(w':World):Prop :=
 ∃ p',p'.B=p.B∧RM w' base p' n R.1∧Kb p.has w w'∧(∀ b,p'.has b→p.has b∨w.heap.size≤b) ∧
  match R.2 with
  | .error c=>∃ k,c≠0∧e = .returned (.tuple #[.pointer none,fg c k])
  | .ok c=>∃ q:CP,e = .returned (.tuple #[.pointer (some ⟨q.C,0,none⟩),.nilIface])∧RJ w' base p' q n R.1 c∧w.heap.size≤q.C∧w.heap.size≤q.l∧w.heap.size≤q.x∧w.heap.size≤q.b
theorem mZ{D:DM}{n:Nat}{c:Int}(h:(openD D n).2 = .error c):c≠0:=by
 unfold openD at h
 split at h
 ·split at h
  ·split at h
   ·rename_i c' hf
    cases h;exact se _ _ _ _ hf
   ·split at h
    ·cases h
    ·split at h
     ·cases h;decide
     ·split at h
      ·cases h
      ·rename_i h3;cases h;exact h3
  ·rename_i h3;cases h;exact h3
 ·rename_i h3;cases h;exact h3
theorem DV(p:DP)(base n m:Nat)(D:DM)(skew now:Int)(w:World)(h:RM w base p n D)(hD:R0 D n m)(hm:m+8≤100000)(hn:n≤5000)(h2:2≤n)(hbase:base≤w.heap.size)(hs:0≤skew∧skew≤1073741824)(hw:0≤now∧now≤1099511627776):
  Calls prog 35 #[.pointer (some ⟨p.B,0,none⟩),.int .i64 skew,.int .i64 now] w fun e w'=>Ff w base p n (openC D n skew now) e w':=by
 have ho:=CS p base n m D w h hD hm hn h2 hbase;obtain⟨R,hR⟩:=eY (openC D n skew now);rw[hR];unfold openC at hR;have HR:=SM hR;clear hR h hD
 go_in
 go_wp2_with fail
 refine ho.mono ?_;rintro e w1 ⟨p1,hB,hA,hk,hh,hO,hnl⟩;have hR:=HR.o;clear HR;cases hr:(openD D n).2 with
 | error c =>
  rw[hr] at hO hR;have hc:=mZ hr;obtain⟨k,rfl⟩:=hO;subst hR;obtain⟨T,u,he⟩:=cG (k:=k) hc;rw[he];have hfin:Hd (Ff w base p n ((openD D n).1,.error c) (.returned (.tuple #[.pointer none,.iface T u])) w1):=SM ⟨p1,hB,hA,hk,hh,k,hc,by rw[he]⟩
  clear hA hk hh hnl hr he
  go_wp2
  go_ret2
  exact hfin.o
 | ok t =>
  obtain⟨M,es⟩:=t;rw[hr] at hO hR;obtain⟨_,hok,hlen,hroom,hex,_⟩:=sM hr hn h2;obtain⟨l,v,rfl,hl0,hown,hL⟩:=hO;have hnl1:=hnl l v rfl;subst hR;obtain⟨D1,hD1⟩:=eY ((openD D n).1);rw[hD1] at hA;have HD1:=SM hD1;have hRd:=aG hown;obtain⟨ad,cap,rfl,_⟩:=hRd;have hRd:=aG hown;have HA:=SM hA;have Hk:=SM hk;have Hh:=SM hh;have HL:=SM hL;have Hnl:=SM hnl1;have hz1:=hk.size;have hll:=hL.lt;have h5:es.length≤5000:=by have:=hok.c;omega
  have hin:=Gj ad es.length cap es w1 rfl h5 hRd;clear hnl1 hlen hok h5 hA hk hh hnl hL hown hRd hr hD1 hroom hex ho
  go_wp2_with fail
  refine hin.mono ?_;rintro _ w2 ⟨⟨x,b,rfl,hx,hb,hI⟩,hb2⟩;have HI:=SM hI;have Hb2:=SM hb2;have hz2:=hb2.size;clear hin hI hb2
  go_wp2_with fail
  have hb3:=ba (.cells #[.int .i64 skew] 2) (Sy w2);refine (uA now skew w2.heap.size (w2.alloc (.cells #[.int .i64 skew] 2)) (by simp[fk];omega) (by simp[fk];omega) sm (by simp[go_sem])).mono ?_
  rintro _ w3 ⟨rfl,hb4⟩;have hsat:Ti (now+skew)=now+skew:=by unfold Ti;rw[if_neg om,if_neg om]
  rw[hsat];have hb34:=bt hb3 hb4;have Hb3:=SM (bt Hb2.o hb34);have HI3:=SM (HI.o.below hb34);have hz3:=hb34.size;clear hb3 hb4 hb34 HI
  go_wp2_with fail
  have hC:=Bk.new w3 #[.pointer (some ⟨l,0,none⟩),.pointer (some ⟨x,0,none⟩),.int .i64 (now+skew)] 121;have hb4:=ba (.cells #[.pointer (some ⟨l,0,none⟩),.pointer (some ⟨x,0,none⟩),.int .i64 (now+skew)] 121) (Sy w3);have hI4:=HI3.o.below hb4;refine (ss x b (gR es) now (w3.alloc (.cells #[.pointer (some ⟨l,0,none⟩),.pointer (some ⟨x,0,none⟩),.int .i64 (now+skew)] 121)) hI4).mono ?_;rintro _ w5 ⟨⟨z,rfl⟩,hI5,hk5⟩
  have hxl:=HI3.o.s.lt;have hbl:=HI3.o.m.lt;have hxb:=Gp HI3.o;have hb14:Below w1.heap.size w1 (w3.alloc (.cells #[.pointer (some ⟨l,0,none⟩),.pointer (some ⟨x,0,none⟩),.int .i64 (now+skew)] 121)):=bt Hb3.o hb4;have hb15:Below w1.heap.size w1 w5:=hb14.trans (hk5.below (fun i hi=>by subst hi;exact hb) hb14.size)
  have hC5:=hC.same (hk5.block _ hC.lt om);have hA5:=HA.o.below hb15;have hfin:Hd (Ff w base p n ((openD D n).1,.ok { M:=M,ix:=aO (gR es) now,til:=now+skew }) (.returned (.tuple #[.pointer (some ⟨w3.heap.size,0,none⟩),.nilIface])) w5):=SM (by
   rw[HD1.o];refine⟨p1,hB,hA5,Hk.o.blw hb15,Hh.o,⟨w3.heap.size,l,x,b⟩,rfl,⟨hA5,⟨⟨?_,Hnl.o,?_,?_⟩,⟨?_,?_,?_,?_,?_⟩,?_,?_,?_,?_⟩,hC5,?_,hI5⟩,?_,?_,?_,?_⟩
   ·exact fun hh=>by have:w3.heap.size < w1.heap.size:=HA.o.has_lt _ hh;have:=Hb3.o.size;omega
   ·exact fun hh=>by have:x < w1.heap.size:=HA.o.has_lt _ hh;omega
   ·exact fun hh=>by have:b < w1.heap.size:=HA.o.has_lt _ hh;omega
   ·show w3.heap.size≠l;have:=Hb3.o.size;omega
   ·show w3.heap.size≠x;omega
   ·show w3.heap.size≠b;omega
   ·show l≠x;omega
   ·show l≠b;omega
   ·show base≤w3.heap.size;omega
   ·show base≤l;omega
   ·show base≤x;omega
   ·show base≤b;omega
   ·rw[hB];exact HL.o.below hb15
   ·show w.heap.size≤w3.heap.size;omega
   ·exact hl0
   ·show w.heap.size≤x;omega
   ·show w.heap.size≤b;omega)
  clear hI5 hk5 hb14 hb15 hC5 hA5 hC hI4 hb4 HA Hk Hh HL
  go_wp2
  go_ret2
  exact hfin.o
end
section
structure VM where
 key:RW
 skew:Int
 now:Int
 D:DM
 c:Option CM
def au(v:VM):VM:=if v.D.down=true then { v with c:=none } else v
def bW:Int:=1099511627776
def dp(v:VM)(n:Int):VM:={ au v with now:=if bW - v.now < n then bW else if 0 < n then v.now+n else v.now }
noncomputable def dD(v:VM):List RQ:=match (au v).c with
 | none=>[]
 | some c=>cy c.ix v.now
def bG(n:Nat)(v:VM):VM × Int:=match (openC (bT v.D) n v.skew v.now).2 with
 | .error c=>({ v with D:=(openC (bT v.D) n v.skew v.now).1,c:=none },c)
 | .ok c=>({ v with D:=(openC (bT v.D) n v.skew v.now).1,c:=some c },0)
noncomputable def aW(v:VM):VM × Int:=match (au v).c with
 | none=>(au v,12)
 | some c=>(au { v with D:=(compactC v.D c v.now).1,c:=some (compactC v.D c v.now).2.1 },(compactC v.D c v.now).2.2)
def iz(now skew:Int)(t:t6)(a:iq):Int :=
 rest (decide (now < Ti ((t.2.2.1:Nat) - skew))) (decide (Ti ((t.2.2.2.1:Nat)+skew) < now)) (!kL (aY t.1) (aY a.1) (t.2.1.map aY) (a.2.1.map aY)) (decide (skew < Ti (max ((a.2.2.1:Nat):Int) now - min ((a.2.2.1:Nat):Int) now))) 0
def iA(a:iq):RP:=d9 (bZ (aY a.1) (a.2.1.map aY) a.2.2.1 a.2.2.2.1 a.2.2.2.2)
noncomputable def aU(v:VM)(l:List UInt8):VM × Int:=match eC v.key l with
 | .error c=>(au v,c)
 | .ok (t,a) =>
  if iz v.now v.skew t a=0 then
   (match (au v).c with
   | none=>(au v,7)
   | some c=>if v.now≤c.til then (au v,7) else
    (au { v with D:=(insertC v.D c (iA a) (a.2.2.1+v.skew.toNat) v.now).1,c:=some (insertC v.D c (iA a) (a.2.2.1+v.skew.toNat) v.now).2.1 },(insertC v.D c (iA a) (a.2.2.1+v.skew.toNat) v.now).2.2))
  else (au v,iz v.now v.skew t a)
structure VI (n m:Nat) (v:VM):Prop where
 D:R0 v.D n m
 now:0≤v.now∧v.now≤bW
 skew:1≤v.skew∧v.skew≤1073741824
 c:∀ c,v.c=some c→CI n c
theorem fY(v:VM):(au v).now=v.now:=by unfold au;split <;> rfl
theorem dQ(v:VM):(au v).key=v.key:=by unfold au;split <;> rfl
theorem dz(v:VM):(au v).skew=v.skew:=by unfold au;split <;> rfl
theorem oV(v:VM):(au v).D=v.D:=by unfold au;split <;> rfl
theorem gF{v:VM}{c:CM}(h:(au v).c=some c):v.c=some c∧v.D.down=false∧au v=v:=by
 unfold au at h ⊢
 split at h
 ·cases h
 ·rename_i hd;exact⟨h,by simpa using hd,by rw[if_neg hd]⟩
theorem fH(v:VM):au (au v)=au v:=by
 unfold au
 by_cases h:v.D.down=true
 ·rw[if_pos h];simp only;split <;> rfl
 ·rw[if_neg h,if_neg h]
theorem VI.look{n m:Nat}{v:VM}(h:VI n m v):VI n m (au v):=by
 unfold au
 split
 ·exact⟨h.D,h.now,h.skew,fun c hc=>by cases hc⟩
 ·exact h
theorem VI.more{n m m':Nat}{v:VM}(h:VI n m v)(hm:m≤m'):VI n m' v:=⟨h.D.more hm,h.now,h.skew,h.c⟩
theorem VI.tick{n m:Nat}{v:VM}(h:VI n m v)(k:Int):VI n m (dp v k):=by
 have hl:=h.look;refine⟨hl.D,?_,hl.skew,hl.c⟩;have:=h.now
 show 0≤(if bW - v.now < k then bW else if 0 < k then v.now+k else v.now)∧(if bW - v.now < k then bW else if 0 < k then v.now+k else v.now)≤bW
 have hc:bW=1099511627776:=rfl;rw[hc] at this ⊢
 split
 ·omega
 ·split <;> omega
def xh(q:CP)(c:Option CM):Option Addr:=c.map fun _=>⟨q.C,0,none⟩
def VX(p:DP)(V:Nat)(q:CP)(c:Option CM)(i:Nat):Prop:=p.has i∨i=V∨(c≠none∧(i=q.C∨i=q.l∨i=q.x∨i=q.b))
structure So (w:World) (base:Nat) (p:DP) (V:Nat) (q:CP) (n:Nat) (v:VM):Prop where
 D:RM w base p n v.D
 vf:bg w V v.key v.skew (some ⟨p.B,0,none⟩) v.now (xh q v.c)
 lo:base≤V
 nV : ¬ p.has V
 c:∀ c,v.c=some c→RJ w base p q n v.D c∧V≠q.C∧V≠q.l∧V≠q.x∧V≠q.b
def aF(w:World)(base:Nat)(p:DP)(V:Nat)(q:CP)(c:Option CM)(n:Nat)(v:VM)(w':World):Prop :=
 ∃ p' q',p'.B=p.B∧So w' base p' V q' n v∧Kb (VX p V q c) w w'∧∀ i,VX p' V q' v.c i→VX p V q c i∨w.heap.size≤i
section
variable {w w1 w2 w':World} {base n V:Nat} {p p1:DP} {q q1:CP} {v v1:VM} {c c1:Option CM}
theorem So.lt(h:So w base p V q n v){i:Nat}(hi:VX p V q v.c i):i < w.heap.size:=by
 rcases hi with hi | rfl | ⟨hc,hi⟩
 ·exact h.D.has_lt i hi
 ·exact h.vf.lt
 ·obtain⟨c,hc⟩:=Option.ne_none_iff_exists'.1 hc;obtain⟨hA,_⟩:=h.c c hc;have:=hA.lt
  rcases hi with rfl | rfl | rfl | rfl
  ·exact this.1
  ·exact this.2.1
  ·exact this.2.2.1
  ·exact this.2.2.2
theorem So.lo'(h:So w base p V q n v){i:Nat}(hi:VX p V q v.c i):base≤i:=by
 rcases hi with hi | rfl | ⟨hc,hi⟩
 ·exact h.D.ok.lo i hi
 ·exact h.lo
 ·obtain⟨c,hc⟩:=Option.ne_none_iff_exists'.1 hc;obtain⟨hA,_⟩:=h.c c hc;have:=hA.ok.lo
  rcases hi with rfl | rfl | rfl | rfl
  ·exact this.1
  ·exact this.2.1
  ·exact this.2.2.1
  ·exact this.2.2.2
theorem So.same(h:So w base p V q n v)(hs:w.heap.size≤w'.heap.size)(hb:∀ i,VX p V q v.c i→w'.heap[i]? = w.heap[i]?):So w' base p V q n v:=by
 refine⟨h.D.same hs (fun b hb1=>hb b (.inl hb1)),h.vf.same (hb V (.inr (.inl rfl))),h.lo,h.nV,fun c hc=>?_⟩;obtain⟨hA,hne⟩:=h.c c hc;refine⟨hA.same hs (fun i hi=>?_),hne⟩
 rcases hi with hi | hi
 ·exact hb i (.inl hi)
 ·exact hb i (.inr (.inr ⟨by rw[hc];simp,hi⟩))
theorem So.below(h:So w base p V q n v)(hb:Below w.heap.size w w'):So w' base p V q n v:=h.same hb.size (fun i hi=>hb.block i (h.lt hi))
theorem So.kb{X:Nat→Prop}(h:So w base p V q n v)(hk:Kb X w w')(hX:∀ i,VX p V q v.c i→¬ X i):So w' base p V q n v:=h.same hk.size (fun i hi=>hk.block i (h.lt hi) (hX i hi))
theorem aF.same(h:So w base p V q n v)(hb:Below w.heap.size w w'):aF w base p V q v.c n v w':=⟨p,q,rfl,h.below hb,Kb.of_below hb,fun i hi=>.inl hi⟩
theorem aF.pre(hb:Below w.heap.size w w1)(h:aF w1 base p V q c n v w2):aF w base p V q c n v w2:=by
 obtain⟨p',q',h1,h2,h3,h4⟩:=h;exact⟨p',q',h1,h2,(Kb.of_below (X:=VX p V q c) hb).trans h3 (fun i hi=>.inl hi),fun i hi=>by
  rcases h4 i hi with h | h
  ·exact .inl h
  ·exact .inr (Nat.le_trans hb.size h)⟩
theorem aF.post(h:aF w base p V q c n v w1)(hb:Below w1.heap.size w1 w2):aF w base p V q c n v w2:=by
 obtain⟨p',q',h1,h2,h3,h4⟩:=h;exact⟨p',q',h1,h2.below hb,h3.blw hb,h4⟩
theorem aF.trans(hB:p1.B=p.B)(hk:Kb (VX p V q c) w w1)(hp:∀ i,VX p1 V q1 c1 i→VX p V q c i∨w.heap.size≤i)(h:aF w1 base p1 V q1 c1 n v w2):aF w base p V q c n v w2:=by
 obtain⟨p',q',h1,h2,h3,h4⟩:=h;refine⟨p',q',h1.trans hB,h2,hk.trans h3 hp,fun i hi=>?_⟩
 rcases h4 i hi with h | h
 ·exact hp i h
 ·exact .inr (Nat.le_trans hk.size h)
theorem aF.own(h:So w base p V q n v)(hV:bg w' V v1.key v1.skew (some ⟨p.B,0,none⟩) v1.now (xh q v1.c))(hk:Kb (fun i=>i=V) w w')(hD:v1.D=v.D)(hc:v1.c=none∨v1.c=v.c):aF w base p V q v.c n v1 w':=by
 refine⟨p,q,rfl,⟨by rw[hD];exact h.D.kb hk (fun b hb e=>h.nV (e ▸ hb)),hV,h.lo,h.nV,fun c hc1=>?_⟩,hk.wide (fun i hi=>.inr (.inl hi)),fun i hi=>?_⟩
 ·have hvc:v.c=some c:=by
   rcases hc with hc | hc
   ·rw[hc] at hc1;cases hc1
   ·rw[← hc];exact hc1
  obtain⟨hA,hne⟩:=h.c c hvc;rw[hD];refine⟨hA.same hk.size (fun i hi=>hk.block i ?_ ?_),hne⟩
  ·rcases hi with hi | hi
   ·exact h.D.has_lt i hi
   ·exact h.lt (.inr (.inr ⟨by rw[hvc];simp,hi⟩))
  ·intro e
   rcases hi with hi | hi
   ·exact h.nV (e ▸ hi)
   ·obtain⟨a,b,d,f⟩:=hne
    rcases hi with hi | hi | hi | hi
    ·exact a (e.symm.trans hi)
    ·exact b (e.symm.trans hi)
    ·exact d (e.symm.trans hi)
    ·exact f (e.symm.trans hi)
 ·rcases hi with hi | hi | ⟨h1,hi⟩
  ·exact .inl (.inl hi)
  ·exact .inl (.inr (.inl hi))
  ·rcases hc with hc | hc
   ·exact absurd hc h1
   ·rw[hc] at h1;exact .inl (.inr (.inr ⟨h1,hi⟩))
theorem bF.ver{c:CM}(h:So w base p V q n v)(hc:v.c=some c){D':DM}{c':CM}(hN:bF w base p q n D' c' w'):aF w base p V q v.c n { v with D:=D',c:=some c' } w':=by
 obtain⟨p',h1,h2,h3,h4⟩:=hN;obtain⟨hA,hne⟩:=h.c c hc;have hcn:v.c≠none:=by rw[hc];simp
 have hV : ¬ CX p q V:=fun hx=>by
  rcases hx with hx | hx | hx
  ·exact h.nV hx
  ·exact hne.2.1 hx
  ·exact hne.2.2.2 hx
 have hVe:xh q v.c=xh q (some c'):=by rw[hc];rfl
 refine⟨p',q,h1,⟨h2.D,?_,h.lo,fun hx=>?_,fun c1 hc1=>?_⟩,h3.wide (fun i hi=>?_),fun i hi=>?_⟩
 ·rw[h1];have:=h.vf.same (h3.block V h.vf.lt hV);rw[hVe] at this;exact this
 ·rcases h4 V hx with h5 | h5
  ·exact h.nV h5
  ·have:=h.vf.lt;omega
 ·cases hc1;exact⟨h2,hne⟩
 ·rcases hi with hi | hi | hi
  ·exact .inl hi
  ·exact .inr (.inr ⟨hcn,.inr (.inl hi)⟩)
  ·exact .inr (.inr ⟨hcn,.inr (.inr (.inr hi))⟩)
 ·rcases hi with hi | hi | ⟨_,hi⟩
  ·rcases h4 i hi with h5 | h5
   ·exact .inl (.inl h5)
   ·exact .inr h5
  ·exact .inl (.inr (.inl hi))
  ·exact .inl (.inr (.inr ⟨hcn,hi⟩))
theorem bm.ver(h:So w base p V q n v){D':DM}(hN:bm w base p n D' w'):aF w base p V q v.c n { v with D:=D' } w':=by
 obtain⟨p',h1,h2,h3,h4⟩:=hN;refine⟨p',q,h1,⟨h2,?_,h.lo,fun hx=>?_,fun c hc=>?_⟩,h3.wide (fun i hi=>.inl hi),fun i hi=>?_⟩
 ·rw[h1];exact h.vf.same (h3.block V h.vf.lt h.nV)
 ·rcases h4 V hx with h5 | h5
  ·exact h.nV h5
  ·have:=h.vf.lt;omega
 ·obtain⟨hA,hne⟩:=h.c c hc;have ok:=hA.ok;obtain⟨lC,lL,lX,lB⟩:=hA.lt;have hn:∀ i,i < w.heap.size→¬ p.has i→¬ p'.has i:=fun i hi hp hp'=>by
   rcases h4 i hp' with h | h
   ·exact hp h
   ·omega
  refine⟨⟨h2,⟨⟨hn _ lC ok.c.1,hn _ lL ok.c.2.1,hn _ lX ok.c.2.2.1,hn _ lB ok.c.2.2.2⟩,ok.d,ok.lo⟩,hA.C.same (h3.block _ lC ok.c.1),?_,iu.same hA.I (h3.block _ lX ok.c.2.2.1) (h3.block _ lB ok.c.2.2.2)⟩,hne⟩;rw[h1];exact hA.L.same (h3.block _ lL ok.c.2.1)
 ·rcases hi with hi | hi | hi
  ·rcases h4 i hi with h5 | h5
   ·exact .inl (.inl h5)
   ·exact .inr h5
  ·exact .inl (.inr (.inl hi))
  ·exact .inl (.inr (.inr hi))
end
theorem dE(w:World)(b o:Nat)(x:Value):Kb (fun i=>i=b) w (w.setCell ⟨b,o,none⟩ x):=(Kb.refl (fun i=>i=b) w).cell1 ⟨b,o,none⟩ x rfl
theorem eI(w:World)(base n V:Nat)(p:DP)(q:CP)(v:VM)(h:So w base p V q n v):
  Calls prog 31 #[.pointer (some ⟨V,0,none⟩)] w fun e w'=>e = .returned (.tuple #[])∧aF w base p V q v.c n (au v) w':=by
 have H:=SM h;have c2:=h.vf.f2;have f4:=h.vf.free 19;have c4:=h.vf.f4;have hd:=FU w h.D;obtain⟨dn,hdn⟩:=eY v.D.down;rw[hdn] at hd;have Hdn:=SM hdn;clear h hdn
 go_in
 go_wp2_with fail
 refine hd.mono ?_;rintro _ _ ⟨rfl,rfl⟩;cases dn
 ·have hl:au v=v:=by unfold au;rw[if_neg (by rw[Hdn.o];decide)]
  have hN:Hd (aF w base p V q v.c n (au v) w):=SM (by rw[hl];exact aF.same H.o (Below.refl _ _))
  clear hl
  go_wp2
  go_end0
  exact⟨rfl,hN.o⟩
 ·have hl:au v={ v with c:=none }:=by unfold au;rw[if_pos Hdn.o]
  have hN:Hd (aF w base p V q v.c n (au v) (w.setCell ⟨V,19,none⟩ (.pointer none))):=SM (by rw[hl];exact aF.own (v1:={ v with c:=none }) H.o (H.o.vf.set4 none) (dE _ _ _ _) rfl (.inl rfl))
  clear hl
  go_wp2
  go_end0
  exact⟨rfl,hN.o⟩
theorem lV(w:World)(base n V:Nat)(p:DP)(q:CP)(v:VM)(h:So w base p V q n v):
  Calls prog 18 #[.pointer (some ⟨V,0,none⟩)] w fun e w'=>e = .returned (.int .i64 v.now)∧aF w base p V q v.c n (au v) w':=by
 have hl:=eI w base n V p q v h;clear h
 go_in
 go_wp2_with fail
 refine hl.mono ?_;rintro _ w1 ⟨rfl,hN⟩;have c3:w1.cell? ⟨V,18,none⟩=some (.int .i64 v.now):=by obtain⟨p',q',_,hA,_⟩:=hN;rw[← fY];exact hA.vf.f3
 have HN:=SM hN;clear hN hl
 go_wp2
 go_ret
 exact⟨rfl,HN.o⟩
theorem eF(w:World)(base n V:Nat)(p:DP)(q:CP)(v:VM)(h:So w base p V q n v):
  Calls prog 12 #[.pointer (some ⟨V,0,none⟩)] w fun e w'=>e = .returned (.bool (au v).c.isSome)∧aF w base p V q v.c n (au v) w':=by
 have hl:=eI w base n V p q v h;obtain⟨bs,hbs⟩:=eY ((au v).c.isSome);rw[hbs];have Hbs:=SM hbs;clear h hbs
 go_in
 go_wp2_with fail
 refine hl.mono ?_;rintro _ w1 ⟨rfl,hN⟩;have c4:∃ q',w1.cell? ⟨V,19,none⟩=some (.pointer (xh q' (au v).c)):=by obtain⟨p',q',_,hA,_⟩:=hN;exact⟨q',hA.vf.f4⟩
 have HN:=SM hN;clear hN hl;obtain⟨q',c4⟩:=c4;obtain⟨c,hc⟩:=eY ((au v).c);have hb:=Hbs.o;rw[hc] at c4 hb;clear hc Hbs;cases c with
 | none =>
  subst hb;have c4':w1.cell? ⟨V,19,none⟩=some (.pointer none):=c4;clear c4
  go_wp2
  go_ret
  exact⟨rfl,HN.o⟩
 | some c =>
  subst hb;have c4':w1.cell? ⟨V,19,none⟩=some (.pointer (some ⟨q'.C,0,none⟩)):=c4;clear c4
  go_wp2
  go_ret
  exact⟨rfl,HN.o⟩
theorem kq(w:World)(base n m V:Nat)(p:DP)(q:CP)(v:VM)(k:Int)(h:So w base p V q n v)(hI:VI n m v):
  Calls prog 19 #[.pointer (some ⟨V,0,none⟩),.int .i64 k] w fun e w'=>e = .returned (.int .i64 (dp v k).now)∧aF w base p V q v.c n (dp v k) w':=by
 have hl:=eI w base n V p q v h;have hnow:=hI.now;have hcm:bW=1099511627776:=rfl;rw[hcm] at hnow;obtain⟨R,hR⟩:=eY (dp v k);rw[hR];unfold dp at hR;rw[hcm] at hR;have HR:=SM hR;clear h hR hcm hI
 go_in
 go_wp2_with fail
 refine hl.mono ?_;rintro _ w1 ⟨rfl,hN⟩;obtain⟨p1,q1,hB,hA,hk,hx⟩:=hN;have hT:=fun c2 v2 w2 (hh:aF w1 base p1 V q1 c2 n v2 w2) (hc:c2=(au v).c)=>aF.trans (c1:=c2) hB hk (by rw[hc];exact hx) hh
 have HT:=SM hT;have c3:w1.cell? ⟨V,18,none⟩=some (.int .i64 v.now):=by rw[← fY];exact hA.vf.f3
 have f3:=hA.vf.free 18;have HA:=SM hA;clear hA hk hx hT hl;have wk:IntKind.i64.wrap (1099511627776 - v.now)=1099511627776 - v.now:=wi
 by_cases h1:1099511627776 - v.now < k
 ·have d1:decide (1099511627776 - v.now < k)=true:=decide_eq_true h1;have hr:=HR.o;rw[if_pos h1] at hr;subst hr;have hN:Hd (aF w base p V q v.c n { au v with now:=1099511627776 } (w1.setCell ⟨V,18,none⟩ (.int .i64 1099511627776))):=SM (HT.o _ _ _ (aF.own (v1:={ au v with now:=1099511627776 }) HA.o (HA.o.vf.set3 1099511627776) (dE _ _ _ _) rfl (.inr rfl)) rfl)
  clear h1
  go_wp2
  go_ret
  exact⟨rfl,hN.o⟩
 ·have d1:decide (1099511627776 - v.now < k)=false:=decide_eq_false h1;have hr:=HR.o;rw[if_neg h1] at hr
  by_cases h2:0 < k
  ·have d2:decide (0 < k)=true:=decide_eq_true h2;rw[if_pos h2] at hr;subst hr;have wk2:IntKind.i64.wrap (v.now+k)=v.now+k:=wi;have hN:Hd (aF w base p V q v.c n { au v with now:=v.now+k } (w1.setCell ⟨V,18,none⟩ (.int .i64 (v.now+k)))):=SM (HT.o _ _ _ (aF.own (v1:={ au v with now:=v.now+k }) HA.o (HA.o.vf.set3 (v.now+k)) (dE _ _ _ _) rfl (.inr rfl)) rfl)
   clear h1 h2
   go_wp2
   go_ret
   exact⟨rfl,hN.o⟩
  ·have d2:decide (0 < k)=false:=decide_eq_false h2;rw[if_neg h2] at hr;subst hr;have hN:Hd (aF w base p V q v.c n { au v with now:=v.now } w1):=SM (HT.o _ _ _ (by
    have:=aF.same HA.o (Below.refl _ _)
    rwa [show ({ au v with now:=v.now } : VM)=au v by rw[← fY]]) rfl)
   clear h1 h2
   go_wp2
   go_ret
   exact⟨rfl,hN.o⟩
theorem kY(w:World)(base n m V:Nat)(p:DP)(q:CP)(v:VM)(h:So w base p V q n v)(hI:VI n m v):
  Calls prog 11 #[.pointer (some ⟨V,0,none⟩)] w fun e w'=>(∃ x w1,e = .returned x∧w'.ownsRow w1.heap.size 89 33 x (dD v).length (aZ SK (dD v))∧aF w base p V q v.c n (au v) w1∧Below w1.heap.size w1 w')∧∀ c,(au v).c=some c→ef c.ix v.now (dD v):=by
 have hl:=eF w base n V p q v h;obtain⟨R,hR⟩:=eY (dD v);rw[hR];unfold dD at hR;have HR:=SM hR;have HI:=SM hI.look;clear h hR hI
 go_in
 go_wp2_with fail
 refine hl.mono ?_;rintro _ w1 ⟨rfl,hN⟩;obtain⟨c,hc⟩:=eY ((au v).c);have hr:=HR.o;rw[hc] at hr ⊢;cases c with
 | none =>
  have HN:=SM hN;have Hc:=SM hc;simp only at hr;subst hr;clear hc hN hl HR
  go_wp2
  go_ret
  exact⟨⟨_,w1,rfl,World.ownsRow_nil _ _ _ _,HN.o,Below.refl _ _⟩,fun c hc=>by rw[Hc.o] at hc;cases hc⟩
 | some c =>
  simp only at hr;obtain⟨p1,q1,hB,hA,hk,hx⟩:=hN;have HN:=SM (show aF w base p V q v.c n (au v) w1 from ⟨p1,q1,hB,hA,hk,hx⟩)
  have hz1:=hk.size;obtain⟨hC,_⟩:=hA.c c hc;have hrl:=fun u (hb:Below w1.heap.size w1 u)=>DU u base n p1 q1 (au v).D c v.now (hC.below hb) (HI.o.c c hc);have hV:bg w1 V v.key v.skew (some ⟨p1.B,0,none⟩) v.now (some ⟨q1.C,0,none⟩):=by
   have:=hA.vf;rw[dQ,dz,fY,hc] at this;exact this
  have Hc:=SM hc;have Hrl:=SM hrl;clear hc hA hk hx hl HR hC hrl
  go_wp2_with fail
  have hdb:=(Sy w1).drew;refine yW (tk 0 8 (.run 8 (.take 9 .done))) (fun u=>bg u V v.key v.skew (some ⟨p1.B,0,none⟩) v.now (some ⟨q1.C,0,none⟩)) hV.drew ?_;have hcall:=Hrl.o _ hdb;have hV2:=hV.drew;have hN2:=SM (HN.o.post hdb);have hz2:=hdb.size;clear hV HN hdb Hrl;generalize w1.drew=w2 at *
  repeat((first|refine yO ?_|refine yM ?_|refine yF rfl rfl (fun w' hC'=>by have c3:=hC'.f3;have c4:=hC'.f4;go_simp;first|done|exact rfl) ?_);walk_nrm)
  refine yR ?_;refine hcall.mono ?_;rintro _ w3 ⟨⟨x,rfl,ho,hL⟩,hb3⟩;rw[hr] at ho hL;refine kS (hV2.below hb3) ?_;walk_nrm
  repeat(refine yA ?_;walk_nrm)
  refine al ?_;have Ho:=SM ho;have HL:=SM hL;have Hb3:=SM hb3;clear ho hL hcall hV2 hb3
  go_wp2
  go_ret
  exact⟨⟨_,w2,rfl,Ho.o,hN2.o,Hb3.o⟩,fun c2 hc2=>by rw[Hc.o] at hc2;cases hc2;exact HL.o⟩
theorem tW(w:World)(base n m V:Nat)(p:DP)(q:CP)(v:VM)(h:So w base p V q n v)(hI:VI n m v):
  Calls prog 11 #[.pointer (some ⟨V,0,none⟩)] w fun e w'=>(∃ x,e = .returned x∧w'.ownsRow w.heap.size 89 33 x (dD v).length (aZ SK (dD v)))∧aF w base p V q v.c n (au v) w'∧∀ c,(au v).c=some c→ef c.ix v.now (dD v):=by
 refine (kY w base n m V p q v h hI).mono ?_;rintro _ w' ⟨⟨x,w1,rfl,ho,hN,hb⟩,hL⟩;have hz:w.heap.size≤w1.heap.size:=by obtain⟨_,_,_,_,hk,_⟩:=hN;exact hk.size
 exact⟨⟨x,rfl,bj ho hz⟩,hN.post hb,hL⟩
end
section
open Go.RowKit Go.ChangeMaps
theorem eB(k x:Nat)(l:List UInt8)(h:x < 256 ^ k):bS k (some (be k x ++ l))=x:=by
 have e:(be k x ++ l).take k=be k x:=List.take_left' (aL k x);simp only[bS,List.length_append,aL,e,GH k x h];rw[if_pos om]
theorem kM(k x:Nat)(l:List UInt8):aI k (some (be k x ++ l))=some l:=by
 have e:(be k x ++ l).drop k=l:=List.drop_left' (aL k x);simp only[aI,List.length_append,aL,e];rw[if_pos om]
theorem kh(k:Nat)(a l:List UInt8)(h:a.length < 256 ^ k):fT k (some (gi k a ++ l))=a:=by
 unfold gi;rw[List.append_assoc];simp only[fT,kM,eB k _ _ h,List.length_append];rw[if_pos om,List.take_left]
theorem kg(k:Nat)(a l:List UInt8)(h:a.length < 256 ^ k):fz k (some (gi k a ++ l))=some l:=by
 unfold gi;rw[List.append_assoc];simp only[fz,kM,eB k _ _ h,List.length_append];rw[if_pos om,List.drop_left]
theorem zQ(a b:List UInt8)(ha:a.length≤30000)(hb:b.length≤30000):eQ (zW a b)=some (a,b):=by
 have hl:(zW a b).length=7+a.length+b.length:=by simp[zW,gi];omega
 have e:zW a b=be 1 65 ++ (be 1 80 ++ (be 1 1 ++ (gi 2 a ++ (gi 2 b ++ [])))):=by simp[zW,my]
 unfold eQ;rw[if_neg om,e];simp only[kM,eB 1 65 _ dc,eB 1 80 _ dc,eB 1 1 _ dc,if_true,kg 2 a _ (show a.length < 256 ^ 2 by omega),kg 2 b _ (show b.length < 256 ^ 2 by omega),kh 2 a _ (show a.length < 256 ^ 2 by omega),kh 2 b _ (show b.length < 256 ^ 2 by omega)]
theorem ph(r s:ByteArray)(l:List UInt8)(hr:db r.data.toList=true)(hs:db s.data.toList=true):
  fh (some (bR r [s] ++ l))=some (r.data.toList,[s.data.toList],some l):=by
 have h1:=(gP hr).2;have h2:=(gP hs).2;have e:bR r [s] ++ l=gi 1 r.data.toList ++ (be 1 1 ++ (gi 1 s.data.toList ++ l)):=by simp[bR,iI]
 rw[e];unfold fh;simp only[kh 1 _ _ (show r.data.toList.length < 256 ^ 1 by omega),kg 1 _ _ (show r.data.toList.length < 256 ^ 1 by omega),hr,if_true,eB 1 1 _ dc,kM]
 simp only[bV,kh 1 _ _ (show s.data.toList.length < 256 ^ 1 by omega),kg 1 _ _ (show s.data.toList.length < 256 ^ 1 by omega),hs,if_true]
 simp
theorem KZ(k:RW):SO k.toList=k:=by
 apply Vector.ext;intro i hi
 simp[SO,List.getD,hi]
theorem tM(r s:ByteArray)(st en:Nat)(k:RW)(hr:db r.data.toList=true)(hs:db s.data.toList=true)(h1:st≤en)(h2:en≤1099511627776):
  io (fR r [s] st en k)=some (r.data.toList,[s.data.toList],st,en,k):=by
 have e:fR r [s] st en k=be 1 1 ++ (bR r [s] ++ (be 8 st ++ (be 8 en ++ k.toList))):=by simp[fR,my]
 have hk:k.toList.length=16:=sm;have e16:aI 16 (some k.toList)=some []:=by
  simp only[aI,hk];simp
 have t16:tO 16 (some k.toList)=k.toList:=by
  simp only[tO,hk];rw[if_pos (Nat.le_refl _),List.take_of_length_le om]
 unfold io;rw[e];simp only[kM,eB 1 1 _ dc,if_true,ph r s _ hr hs,eB 8 st _ (show st < 256 ^ 8 by omega),eB 8 en _ (show en < 256 ^ 8 by omega),e16,t16,KZ]
 rw[if_pos ⟨trivial,h1,h2⟩]
theorem rH(r s:ByteArray)(t m q:Nat)(hr:db r.data.toList=true)(hs:db s.data.toList=true)(h1:t≤1099511627776)(h2:m≤999999)(hq:q < 4294967296):
  ij (bZ r [s] t m q)=some (r.data.toList,[s.data.toList],t,m,q):=by
 have e:bZ r [s] t m q=be 1 2 ++ (bR r [s] ++ (be 8 t ++ (be 4 m ++ (be 4 q ++ [])))):=by simp[bZ,my]
 unfold ij;rw[e];simp only[kM,eB 1 2 _ dc,if_true,ph r s _ hr hs,eB 8 t _ (show t < 256 ^ 8 by omega),eB 4 m _ (show m < 256 ^ 4 by omega),eB 4 q _ (show q < 256 ^ 4 by omega)]
 rw[if_pos ⟨trivial,h1,h2⟩]
def IE(s e:Nat):t6:=([82],[[97,108,105,99,101]],s,e,ik)
def yv(t q:Nat):iq:=([82],[[97,108,105,99,101]],t,0,q)
theorem J0:db dW.data.toList=true:=by decide +kernel
theorem EK:db fe.data.toList=true:=by decide +kernel
theorem tL(r s:ByteArray)(st en:Nat)(k:RW)(hr:r.size≤200)(hs:s.size≤200):(fR r [s] st en k).length≤2000:=by
 have:=gZ r s hr hs;simp only[fR,List.length_append,aL];simp;omega
theorem rG(r s:ByteArray)(t m q:Nat)(hr:r.size≤200)(hs:s.size≤200):(bZ r [s] t m q).length≤2000:=by
 have:=gZ r s hr hs;simp only[bZ,List.length_append,aL];simp;omega
theorem Qx:dW.data.toList=[82]:=rfl
theorem OE:fe.data.toList=[97,108,105,99,101]:=rfl
theorem GW(key k:RW)(nonce:N8)(a b:List UInt8)(T:t6)(A:iq)(ha:a.length≤2000)(hb:b.length≤2000)(hT:io a=some T)(hk:T.2.2.2.2=k)(hA:ij b=some A):
  eC key (zW (lz key 2 nonce a) (lz k 11 nonce b)) = .ok (T,A):=by
 obtain⟨r,ps,st,en,k'⟩:=T;simp only at hk;subst hk;unfold eC;rw[zQ _ _ (by rw[iR];omega) (by rw[iR];omega)]
 simp only[nJ,mn,Di,hT,hA]
theorem sU(s e t q:Nat)(h1:s≤e)(h2:e≤1099511627776)(ht:t≤1099511627776)(hq:q < 4294967296):eC gE (pn s e t q) = .ok (IE s e,yv t q):=by
 have hT:=tM dW fe s e ik J0 EK h1 h2;have hA:=rH dW fe t 0 q J0 EK ht om hq;rw[Qx,OE] at hT hA;exact GW gE ik (mX q) _ _ (IE s e) (yv t q) (tL dW fe s e ik dc dc) (rG dW fe t 0 q dc dc) hT rfl hA
end
end Go.Proofs.YtlcfaaodmickbaaGreatDoor
