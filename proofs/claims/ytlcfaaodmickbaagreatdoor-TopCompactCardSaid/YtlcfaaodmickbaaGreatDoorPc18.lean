/- Part 18 of the proof: texts merged and shortened by a program. No conditions. -/
import Derived.DeepKeys4
import Derived.Test.YtlcfaaodmickbaaGreatDoorPc17
set_option linter.unusedSimpArgs false
set_option linter.unusedVariables false
set_option maxRecDepth 100000
set_option maxHeartbeats 8000000
namespace Go.Proofs.YtlcfaaodmickbaaGreatDoor
open Go.RowKit Go.Proofs.Tryz
section
def gY:List SE→Nat→Nat × Int
 | [],a=>(a,0)
 | x :: r,a=>if x.2.1=0 then gY r (if a < aX x.1 then aX x.1 else a) else (0,x.2.1)
def dN(D:DM)(n:Nat):Nat × Int:=gY (Tn (SI D 0) n) 0
theorem rl{α:Type}(f:Nat→α)(n k:Nat)(h:k < n):(Tn f n).drop k=f k :: (Tn f n).drop (k+1):=by
 have hl:k < (Tn f n).length:=by rw[jd];exact h
 rw[List.drop_eq_getElem_cons hl];simp[Tn]
theorem vd(p:DP)(base n m:Nat)(D:DM)(w:World)(h:RM w base p n D)(hD:R0 D n m)(hm:m≤100000)(hn:n≤5000):
  Calls prog 83 #[.pointer (some ⟨p.B,0,none⟩)] w fun e w'=>(∃ k,e = .returned (.tuple #[.int .u32 ((dN D n).1:Nat),fg (dN D n).2 k]))∧Below w.heap.size w w':=by
 have H:=SM h;have HD:=SM hD;clear h hD;obtain⟨R,hR⟩:=eY (dN D n);rw[hR];have HR:=SM hR;clear hR
 go_in
 go_wp2_with fail
 refine wp_scope_jumps 0 (fun a' w'=>∃ (k a:Nat) (u6 u7 u8 u9 u10 u11 u12 u13 u14 u15 u16 u17 u18 u19 u20 u21 u22 u23 u24 u25 u26 u27 u28 u29 u30:Value),k≤n∧a'={ tmps:=#[.pointer (some ⟨p.B,0,none⟩),undef,.int .u32 0,.nilIface,.int .u32 a,.int .i64 k,u6,u7,u8,u9,u10,u11,u12,u13,u14,u15,u16,u17,u18,u19,u20,u21,u22,u23,u24,u25,u26,u27,u28,u29,u30],defers:=[] }∧Hd (gY ((Tn (SI D 0) n).drop k) a=R)∧Below w.heap.size w w') (fun a' _=>n - (intOf (a'.tmps.getD 5 undef)).toNat) rfl ?_ ?_
 ·go_wp2_with fail
  go_step3
  have HF:Hd (gY (Tn (SI D 0) n) 0=R):=HR
  go_wp2_with fail
  refine (lP w H.o).mono ?_;rintro _ _ ⟨rfl,rfl⟩
  by_cases hlt:0 < n
  ·have d1:decide ((0:Int) < (n:Int))=true:=dt;have hF:=HF.o;rw[show (Tn (SI D 0) n)=SI D 0 0 :: (Tn (SI D 0) n).drop 1 from by have:=rl (SI D 0) n 0 hlt;simpa using this] at hF
   unfold gY at hF;simp only[SI,Int.zero_add,show ((0:Nat):Int)=0 from rfl] at hF
   have HF1:=SM hF;clear hF HF
   go_wp2_with fail
   refine (mD w (0:Int) m H.o HD.o hm hn).mono ?_;rintro _ w2 ⟨rfl,hb2⟩;obtain⟨x,hx⟩:=eY ((eD D (0:Int)).1);obtain⟨c,hc⟩:=eY ((eD D (0:Int)).2);rw[hx,hc] at HF1 ⊢;have Hb2:=SM (hb2);have q3:readAt (w2.alloc (.cells (av x) 201)) w2.heap.size 0 64=some (av x):=by simp[go_sem]
   have Hb3:=SM (bt Hb2.o (ba (.cells (av x) 201) (Sy w2)));clear hx hc hb2
   by_cases h0:c=0
   ·subst h0;rw[dM];have hF2:=HF1.o;rw[if_pos rfl] at hF2;have HF3:=SM hF2;clear hF2 HF1
    go_wp2_with fail
    generalize w2.alloc (.cells (av x) 201)=w3 at *;refine (xw x w3).mono ?_;rintro _ w4 ⟨rfl,hb4⟩;have Hb4:=SM (bt Hb3.o hb4);clear hb4 q3
    by_cases ht:0 < aX x
    ·have d2:decide ((0:Int) < (aX x:Int))=true:=dt;have HF2:Hd (gY ((Tn (SI D 0) n).drop 1) (aX x)=R):=SM (by have:=HF3.o;rwa [if_pos ht] at this)
     clear HF3
     go_wp2_with fail
     go_step3
     exact⟨rfl,1,_,_,_,_,_,_,_,_,_,_,_,_,_,_,_,_,_,_,_,_,_,_,_,_,_,_,om,rfl,HF2,Hb4.o⟩
    ·have d2:decide ((0:Int) < (aX x:Int))=false:=df;have HF2:Hd (gY ((Tn (SI D 0) n).drop 1) 0=R):=SM (by have:=HF3.o;rwa [if_neg ht] at this)
     clear HF3
     go_wp2_with fail
     go_step3
     exact⟨rfl,1,_,_,_,_,_,_,_,_,_,_,_,_,_,_,_,_,_,_,_,_,_,_,_,_,_,_,om,rfl,HF2,Hb4.o⟩
   ·have hR2:=HF1.o;rw[if_neg h0] at hR2;have HR2:=SM hR2;obtain⟨T,u,he⟩:=cG (k:=(0:Int)) h0;rw[he];have Hhe:=SM he;clear he hR2
    go_wp2_with fail
    simp only[Exit.jump]
    go_ret2
    exact⟨⟨(0:Int),by rw[← HR2.o];exact congrArg (fun z=>Ending.returned (.tuple #[.int .u32 0,z])) Hhe.o.symm⟩,Hb3.o⟩
  ·obtain rfl:n=0:=om;have d1:True:=trivial;have hR2:R=(0,0):=by rw[← HF.o];rfl
   have HR2:=SM hR2;clear hR2
   go_wp2_with fail
   simp only[Exit.jump]
   go_ret2
   exact⟨⟨0,by rw[HR2.o];rfl⟩,Below.refl _ _⟩
 ·rintro a' w' ⟨k,a,u6,u7,u8,u9,u10,u11,u12,u13,u14,u15,u16,u17,u18,u19,u20,u21,u22,u23,u24,u25,u26,u27,u28,u29,u30,hk,rfl,HF,hb⟩;have Hb:=SM hb;clear hb
  go_wp2_with fail
  refine (lP w' (H.o.below Hb.o)).mono ?_;rintro _ _ ⟨rfl,rfl⟩
  by_cases hlt:k < n
  ·have d1:decide ((k:Int) < (n:Int))=true:=dt;have hF:=HF.o;rw[rl _ _ _ hlt] at hF;unfold gY at hF;simp only[SI,Int.zero_add] at hF;have HF1:=SM hF;have wk:IntKind.i64.wrap ((k:Int)+1)=(k:Int)+1:=wi;clear hF HF
   go_wp2_with fail
   refine (mD w' (k:Int) m (H.o.below Hb.o) HD.o hm hn).mono ?_;rintro _ w2 ⟨rfl,hb2⟩;obtain⟨x,hx⟩:=eY ((eD D (k:Int)).1);obtain⟨c,hc⟩:=eY ((eD D (k:Int)).2);rw[hx,hc] at HF1 ⊢;have Hb2:=SM (bt Hb.o hb2);have q3:readAt (w2.alloc (.cells (av x) 201)) w2.heap.size 0 64=some (av x):=by simp[go_sem]
   have Hb3:=SM (bt Hb2.o (ba (.cells (av x) 201) (Sy w2)));clear hx hc hb2
   by_cases h0:c=0
   ·subst h0;rw[dM];have hF2:=HF1.o;rw[if_pos rfl] at hF2;have HF3:=SM hF2;clear hF2 HF1
    go_wp2_with fail
    generalize w2.alloc (.cells (av x) 201)=w3 at *;refine (xw x w3).mono ?_;rintro _ w4 ⟨rfl,hb4⟩;have Hb4:=SM (bt Hb3.o hb4);clear hb4 q3
    by_cases ht:a < aX x
    ·have d2:decide ((a:Int) < (aX x:Int))=true:=dt;have HF2:Hd (gY ((Tn (SI D 0) n).drop (k+1)) (aX x)=R):=SM (by have:=HF3.o;rwa [if_pos ht] at this)
     clear HF3
     go_wp2_with fail
     go_step3
     exact⟨rfl,⟨k+1,_,_,_,_,_,_,_,_,_,_,_,_,_,_,_,_,_,_,_,_,_,_,_,_,_,_,om,rfl,HF2,Hb4.o⟩,by simp[intOf];omega⟩
    ·have d2:decide ((a:Int) < (aX x:Int))=false:=df;have HF2:Hd (gY ((Tn (SI D 0) n).drop (k+1)) a=R):=SM (by have:=HF3.o;rwa [if_neg ht] at this)
     clear HF3
     go_wp2_with fail
     go_step3
     exact⟨rfl,⟨k+1,_,_,_,_,_,_,_,_,_,_,_,_,_,_,_,_,_,_,_,_,_,_,_,_,_,_,om,rfl,HF2,Hb4.o⟩,by simp[intOf];omega⟩
   ·have hR2:=HF1.o;rw[if_neg h0] at hR2;have HR2:=SM hR2;obtain⟨T,u,he⟩:=cG (k:=(k:Int)) h0;rw[he];have Hhe:=SM he;clear he hR2
    go_wp2_with fail
    simp only[Exit.jump]
    go_ret2
    exact⟨⟨(k:Int),by rw[← HR2.o];exact congrArg (fun z=>Ending.returned (.tuple #[.int .u32 0,z])) Hhe.o.symm⟩,Hb3.o⟩
  ·obtain rfl:k=n:=om;have d1:decide ((k:Int) < (k:Int))=false:=df;have hR2:R=(a,0):=by rw[← HF.o,List.drop_of_length_le (by rw[jd];exact Nat.le_refl _)];rfl
   have HR2:=SM hR2;clear hR2
   go_wp2_with fail
   simp only[Exit.jump]
   go_ret2
   exact⟨⟨0,by rw[HR2.o];rfl⟩,Hb.o⟩
end
section
def dm(D:DM)(M:LM):Nat→Except Int (LM × Bool × List RQ)
 | 0=>.ok (M,false,[])
 | k+1=>match dm D M k with
  | .error c=>.error c
  | .ok (M',f,es) =>
   if (dh D (aR M.half k:Nat) M.half).2=0 then
    (if (dh D (aR M.half k:Nat) M.half).1.1=false∨(f=true∧(dh D (aR M.half k:Nat) M.half).1.2.1≤M'.gen) then .ok (M',f,es)
    else .ok ({ M' with side:=k,gen:=(dh D (aR M.half k:Nat) M.half).1.2.1,count:=(dh D (aR M.half k:Nat) M.half).1.2.2.length },true,(dh D (aR M.half k:Nat) M.half).1.2.2))
   else .error (dh D (aR M.half k:Nat) M.half).2
def J7(r:Except Int (LM × Bool × List RQ))(base l B:Nat)(e:Ending)(w:World):Prop :=
 match r with
 | .error c=>∃ k,e = .returned (.tuple #[.slice none 0 0,.bool false,fg c k])
 | .ok (M,f,es)=>∃ v,e = .returned (.tuple #[v,.bool f,.nilIface])∧w.ownsRow base 89 33 v es.length (aZ SK es)∧Bk w l (SX B M)
theorem cR{P:Program}{fn:Func}{p q r:Nat}{tmps:Array Value}{x y z:Value}{w:World}(h:fn.results=#[.tmp p,.tmp q,.tmp r])(hp:tmps.getD p undef=x)(hq:tmps.getD q undef=y)(hr:tmps.getD r undef=z):(results fn tmps).run P w = .ok (.tuple #[x,y,z]) w:=by
 have hp':tmps[p]?.getD undef=x:=by simpa using hp
 have hq':tmps[q]?.getD undef=y:=by simpa using hq
 have hr':tmps[r]?.getD undef=z:=by simpa using hr
 simp[results,h,hp',hq',hr']
theorem Cw(h s:Nat)(hs:s < 2)(w:World):(Instr.index 154 (.agg #[.int .i64 0,.int .i64 h,.int .i64 h,.int .i64 h]) (.int .i64 s)).run prog w = .ok (.agg #[.int .i64 (aR h s:Nat),.int .i64 h]) w:=by
 have hs2:s=0∨s=1:=om
 rcases hs2 with rfl | rfl
 ·rfl
 ·rfl
theorem zb(D:DM)(M:LM)(k:Nat)(M':LM)(f:Bool)(es:List RQ)(h:dm D M k = .ok (M',f,es)):M'.half=M.half:=by
 induction k generalizing M' f es with
 | zero=>cases h;rfl
 | succ k ih =>
  unfold dm at h;cases hk:dm D M k with
  | error c=>rw[hk] at h;cases h
  | ok t =>
   obtain⟨M2,f2,es2⟩:=t;rw[hk] at h;simp only at h;have:=ih M2 f2 es2 hk
   split at h
   ·split at h
    ·cases h;exact this
    ·cases h;exact this
   ·cases h
theorem Ga(l:Nat)(p:DP)(base n m:Nat)(D:DM)(M:LM)(w:World)(hL:Bk w l (SX p.B M))(hk:M.half≤5000)(h:RM w base p n D)(hD:R0 D n m)(hm:m≤100000)(hn:n≤5000)(hl : ¬ p.has l):
  Calls prog 84 #[.pointer (some ⟨l,0,none⟩)] w fun e w'=>J7 (dm D M 2) w.heap.size l p.B e w'∧Kb (fun b=>b=l) w w':=by
 have H:=SM h;have HD:=SM hD;have Hl:=SM hl;have hlw:=hL.lt;have HL:=SM hL;clear h hD hl hL;obtain⟨R,hR⟩:=eY (dm D M 2);rw[hR];have HR:=SM hR;clear hR;have c1:w.cell? ⟨l,1,none⟩=some (.int .i64 0):=HL.o.cell 1 _ rfl;have c2:w.cell? ⟨l,2,none⟩=some (.int .i64 M.half):=HL.o.cell 2 _ rfl;have c3:w.cell? ⟨l,3,none⟩=some (.int .i64 M.half):=HL.o.cell 3 _ rfl;have c4:w.cell? ⟨l,4,none⟩=some (.int .i64 M.half):=HL.o.cell 4 _ rfl
 go_in
 go_wp2_with fail
 clear c1 c2 c3 c4
 go_loopw [5,6,15] (fun fo en i wr=>∃ (k:Nat) (M':LM) (f:Bool) (es:List RQ) (v:Value),k≤2∧i = .int .i64 k∧fo = .bool f∧en=v∧Hd (dm D M k = .ok (M',f,es))∧wr.ownsRow w.heap.size 89 33 v es.length (aZ SK es)∧Bk wr l (SX p.B M')∧Kb (fun b=>b=l) w wr) (fun _ _ i _=>2 - (intOf i).toNat)
 case atStart=>exact⟨0,M,false,[],_,om,rfl,rfl,rfl,rfl,World.ownsRow_nil _ _ _ _,HL.o,Kb.refl _ _⟩
 case round =>
  clear HL;obtain⟨k,M',f,es,v,hk2,rfl,rfl,rfl,hF,ho,hL,hkb⟩:=hrel;obtain⟨av',cv,rfl,_⟩:=aG ho;have HF:=SM hF.o;have Ho:=SM ho;have HL:=SM hL;have Hkb:=SM hkb;have hsz:=hkb.size;have HA:=SM (H.o.kb hkb (fun b hb e=>Hl.o (e ▸ hb)));clear hF ho hL hkb
  by_cases hlt:k < 2
  ·have d1:decide ((k:Int) < 2)=true:=dt;have ix:=Cw M.half k hlt;have i0:(0:Int)≤(k:Int):=om
   go_wp2_with fail
   have hSlot:=P2.made wr 153 (.int .i64 (aR M.half k:Nat)) (.int .i64 M.half);have hbS:=ba (.cells #[.int .i64 (aR M.half k:Nat),.int .i64 M.half] 153) (Sy wr);have hlr:=HL.o.lt;refine yW (tk 0 5 (.two 5 (tk 6 3 (.run 9 (.run 10 (.take 11 .done)))) 9 (.run 5 (tk 6 3 (.run 10 (.take 11 .done)))))) (fun u=>Bk u l (SX p.B M')∧P2 u wr.heap.size (.int .i64 (aR M.half k:Nat)) (.int .i64 M.half)) ⟨(HL.o.below hbS).drew,hSlot.drew⟩ ?_
   have HL1:=SM (HL.o.below hbS).drew;have HS1:=SM hSlot.drew;have HO1:=SM (ah Ho.o hbS.drew);have HA1:=SM (HA.o.below hbS.drew);have HK1:=SM (Hkb.o.blw hbS.drew);have hz1:wr.heap.size < (wr.alloc (.cells #[.int .i64 (aR M.half k:Nat),.int .i64 M.half] 153)).drew.heap.size:=sm;generalize (wr.alloc (.cells #[.int .i64 (aR M.half k:Nat),.int .i64 M.half] 153)).drew=w1 at *;clear hSlot hbS HL Ho HA Hkb
   have hst:(0:Int)≤(aR M.half k:Nat)∧((aR M.half k:Nat):Int)≤5000:=by unfold aR;split <;> omega
   repeat((first|refine yO ?_|refine yM ?_|refine yF rfl rfl (fun w' hC'=>by have c0:=SR hC'.1;have s0:=hC'.2.c0;have s1:=hC'.2.c1;go_simp;first|done|exact rfl) ?_);walk_nrm)
   have hw1:w.heap.size≤w1.heap.size:=om;obtain⟨r,hr⟩:=eY (dh D (aR M.half k:Nat) M.half);obtain⟨⟨lv,gg,es2⟩,cc⟩:=r;have Hr1:=SM (show (dh D (aR M.half k:Nat) M.half).1=(lv,gg,es2) by rw[hr])
   have Hr2:=SM (show (dh D (aR M.half k:Nat) M.half).2=cc by rw[hr])
   have hscan:=fun (u:World) (hu:RM u base p n D)=>Im p base n m D (aR M.half k:Nat) M.half u hu HD.o hm hn hst hk;rw[hr] at hscan;have Hscan:=SM hscan;clear hscan hr;refine And.intro (?_:Tp _ _ _ (.run 5 _) _ _ _) (?_:Tp _ _ _ (.run 9 _) _ _ _)
   focus
    refine yR ?_;refine (Hscan.o w1 HA1.o).mono ?_;rintro _ w2 ⟨⟨v2,kk,rfl,ho2⟩,hb2⟩;obtain⟨a2,c2,rfl,_⟩:=aG ho2;have hz2:=hb2.size;refine kS ⟨HL1.o.below hb2,HS1.o.below hb2⟩ ?_;walk_nrm
    repeat(refine yA ?_;walk_nrm)
    have hb3:=ba (.cells #[.bool false,.int .u32 0,.slice none 0 0] 222) (Sy w2);have hB3:=Bk.new w2 #[.bool false,.int .u32 0,.slice none 0 0] 222;refine dd rfl rfl (fun K hK=>?_);go_simp;refine hK _ _ (fun u=>Bk u l (SX p.B M')∧P2 u wr.heap.size (.int .i64 (aR M.half k:Nat)) (.int .i64 M.half)) (fun _ h=>h) ⟨(HL1.o.below hb2).below hb3,(HS1.o.below hb2).below hb3⟩ ?_;clear hK;have HB3:=SM hB3;have HL3:=SM ((HL1.o.below hb2).below hb3)
    have HO3:=SM (ah ho2 hb3);have HP3:=SM (ah (ah HO1.o hb2) hb3);have HK3:=SM ((HK1.o.blw hb2).blw hb3);have HS3:=SM ((HS1.o.below hb2).below hb3);obtain⟨BK,hBK⟩:=eY w2.heap.size;have hBKz:w1.heap.size≤BK:=om;have hob:∀ g,(Value.slice a2 es2.length c2).ownBlock=some g→g < BK:=fun g hg=>by rw[← hBK];exact (ho2.lt g hg).2
    rw[hBK] at HB3 ⊢;generalize w2.alloc (.cells #[.bool false,.int .u32 0,.slice none 0 0] 222)=w3 at *;clear ho2 hb2 hb3 hB3 hBK hz2
   rotate_left
   focus
    have hb2:=ba (.cells #[.bool false,.int .u32 0,.slice none 0 0] 222) (Sy w1);have hB2:=Bk.new w1 #[.bool false,.int .u32 0,.slice none 0 0] 222;have hz2:(w1.alloc (.cells #[.bool false,.int .u32 0,.slice none 0 0] 222)).heap.size=w1.heap.size+1:=sm;refine dd rfl rfl (fun K hK=>?_);go_simp;refine hK _ _ (fun u=>Bk u l (SX p.B M')∧P2 u wr.heap.size (.int .i64 (aR M.half k:Nat)) (.int .i64 M.half)) (fun _ h=>h) ⟨HL1.o.below hb2,HS1.o.below hb2⟩ ?_
    clear hK;obtain⟨BK,hBK⟩:=eY w1.heap.size;have hBKz:w1.heap.size≤BK:=om;rw[hBK] at hB2 ⊢;generalize w1.alloc (.cells #[.bool false,.int .u32 0,.slice none 0 0] 222)=w2 at *;refine yR ?_;refine (Hscan.o w2 (HA1.o.below hb2)).mono ?_;rintro _ w3 ⟨⟨v2,kk,rfl,ho2⟩,hb3⟩;obtain⟨a2,c2,rfl,_⟩:=aG ho2;refine kS ⟨(HL1.o.below hb2).below hb3,(HS1.o.below hb2).below hb3⟩ ?_;walk_nrm
    repeat(refine yA ?_;walk_nrm)
    have HB3:=SM (hB2.below hb3);have HL3:=SM ((HL1.o.below hb2).below hb3);have HO3:=SM ho2;have HP3:=SM (ah (ah HO1.o hb2) hb3);have HK3:=SM ((HK1.o.blw hb2).blw hb3);have HS3:=SM ((HS1.o.below hb2).below hb3);have hob:∀ g,(Value.slice a2 es2.length c2).ownBlock=some g→BK < g:=fun g hg=>by have:=(ho2.lt g hg).1;omega
    have hz3:=hb3.size;clear ho2 hb2 hb3 hB2
   all_goals
    have e0:=HB3.o.free 0;have e1:=HB3.o.free 1;have e2:=HB3.o.free 2;have b0:=HB3.o.cell 0 _ rfl;have b1:=HB3.o.cell 1 _ rfl;have b2:=HB3.o.cell 2 _ rfl;refine dd rfl rfl (fun K hK=>?_);go_simp;have nl:BK≠l:=om;have HL2:=SM (((HL3.o.other ⟨BK,0,none⟩ (.bool lv) nl).other ⟨BK,1,none⟩ (.int .u32 gg) nl).other ⟨BK,2,none⟩ (.slice a2 es2.length c2) nl);have nS:BK≠wr.heap.size:=om;have HS2:=SM (((HS3.o.other ⟨BK,0,none⟩ (.bool lv) nS).other ⟨BK,1,none⟩ (.int .u32 gg) nS).other ⟨BK,2,none⟩ (.slice a2 es2.length c2) nS)
    refine hK _ _ (fun u=>Bk u l (SX p.B M')∧P2 u wr.heap.size (.int .i64 (aR M.half k:Nat)) (.int .i64 M.half)) (fun _ h=>h) ⟨HL2.o,HS2.o⟩ ?_;clear hK;have HB:=SM (Sx HB3.o (.bool lv) (.int .u32 gg) (.slice a2 es2.length c2));have HO2:=SM (bj (base':=w.heap.size) (bu (w':=((w3.setCell ⟨BK,0,none⟩ (.bool lv)).setCell ⟨BK,1,none⟩ (.int .u32 gg)).setCell ⟨BK,2,none⟩ (.slice a2 es2.length c2)) HO3.o (fun q hq hlt=>by
     have h2:=hob q hq;rw[Below.heap_setCell _ _ _ _ (by show q≠BK;omega),Below.heap_setCell _ _ _ _ (by show q≠BK;omega),Below.heap_setCell _ _ _ _ (by show q≠BK;omega)])) om)
    have HO1':=SM (bu (w':=((w3.setCell ⟨BK,0,none⟩ (.bool lv)).setCell ⟨BK,1,none⟩ (.int .u32 gg)).setCell ⟨BK,2,none⟩ (.slice a2 es2.length c2)) HP3.o (fun q hq hlt=>by
     have h2:=(HO1.o.lt q hq).2;rw[Below.heap_setCell _ _ _ _ (by show q≠BK;omega),Below.heap_setCell _ _ _ _ (by show q≠BK;omega),Below.heap_setCell _ _ _ _ (by show q≠BK;omega)]))
    have HK2:=SM (((HK3.o.cellN ⟨BK,0,none⟩ (.bool lv) (.inr (by show _≤BK;omega))).cellN ⟨BK,1,none⟩ (.int .u32 gg) (.inr (by show _≤BK;omega))).cellN ⟨BK,2,none⟩ (.slice a2 es2.length c2) (.inr (by show _≤BK;omega)))
    replace HO1:=HO1';clear HO1' HS2 HS3 HK3 HP3 HO3 HL3 HB3 e0 e1 e2 b0 b1 b2 HL1 HS1 HA1 HK1 Hscan hob;generalize ((w3.setCell ⟨BK,0,none⟩ (.bool lv)).setCell ⟨BK,1,none⟩ (.int .u32 gg)).setCell ⟨BK,2,none⟩ (.slice a2 es2.length c2)=W at *
    repeat(refine yA ?_;walk_nrm)
    refine al ?_
    by_cases h0:cc=0
    case neg =>
     have hRn:R = .error cc:=by
      rw[← HR.o];have h1:dm D M (k+1) = .error cc:=by unfold dm;rw[HF.o];simp only;rw[Hr2.o,if_neg h0]
      have hk3:k+1=1∨k+1=2:=om
      rcases hk3 with h3 | h3
      ·rw[h3] at h1;show dm D M (1+1)=_;unfold dm;rw[h1]
      ·rw[h3] at h1;exact h1
     subst hRn;obtain⟨T,u,he⟩:=cG (k:=kk) h0;rw[he];have Hhe:=SM he;clear he
     go_wp2
     refine bodyPost_ret (cR rfl rfl rfl rfl) rfl ⟨⟨kk,?_⟩,HK2.o⟩;exact congrArg (fun z=>Ending.returned (.tuple #[.slice none 0 0,.bool false,z])) Hhe.o.symm
    subst h0;rw[dM];have hF2:dm D M (k+1)=if lv=false∨(f=true∧gg≤M'.gen) then .ok (M',f,es) else .ok ({ M' with side:=k,gen:=gg,count:=es2.length },true,es2):=by
     rw[dm,HF.o];simp only;rw[if_pos Hr2.o,Hr1.o]
    have HF2:=SM hF2;clear hF2
    go_wp2_with fail
    cases lv with
    | false =>
     have hF3:Hd (dm D M (k+1) = .ok (M',f,es)):=SM (by rw[HF2.o,if_pos (.inl rfl)])
     refine yW (tk 0 15 .done) (fun u=>Bk u BK #[.bool false,.int .u32 gg,.slice a2 es2.length c2]∧Bk u l (SX p.B M')) ⟨HB.o.drew,HL2.o.drew⟩ ?_;replace HB:=SM (show Bk W.drew BK _ from HB.o.drew)
     replace HL2:=SM (show Bk W.drew l _ from HL2.o.drew)
     replace HO2:=SM (ah HO2.o ((Below.refl _ W).drew));replace HO1:=SM (ah HO1.o ((Below.refl _ W).drew));replace HK2:=SM HK2.o.drew;generalize W.drew=W at *
     repeat((first|refine yO ?_|refine yM ?_|refine yF rfl rfl (fun w' hC'=>by have b0:=hC'.1.cell 0 _ rfl;have b1:=hC'.1.cell 1 _ rfl;have b7:=SU hC'.2;go_simp;first|done|exact rfl) ?_);walk_nrm)
     refine al ?_
     go_wp2
     go_roundw
     case rel=>exact⟨k+1,M',f,es,_,om,by go_num,rfl,rfl,hF3,HO1.o,HL2.o,HK2.o⟩
     case measure=>simp[intOf];omega
    | true =>
     cases f with
     | false =>
      have hF3:Hd (dm D M (k+1) = .ok ({ M' with side:=k,gen:=gg,count:=es2.length },true,es2)):=SM (by rw[HF2.o,if_neg sm])
      refine yW (tk 0 15 .done) (fun u=>Bk u BK #[.bool true,.int .u32 gg,.slice a2 es2.length c2]∧Bk u l (SX p.B M')) ⟨HB.o.drew,HL2.o.drew⟩ ?_;replace HB:=SM (show Bk W.drew BK _ from HB.o.drew)
      replace HL2:=SM (show Bk W.drew l _ from HL2.o.drew)
      replace HO2:=SM (ah HO2.o ((Below.refl _ W).drew));replace HO1:=SM (ah HO1.o ((Below.refl _ W).drew));replace HK2:=SM HK2.o.drew;generalize W.drew=W at *
      repeat((first|refine yO ?_|refine yM ?_|refine yF rfl rfl (fun w' hC'=>by have b0:=hC'.1.cell 0 _ rfl;have b1:=hC'.1.cell 1 _ rfl;have b7:=SU hC'.2;go_simp;first|done|exact rfl) ?_);walk_nrm)
      refine al ?_;have q2:W.cell? ⟨BK,2,none⟩=some (.slice a2 es2.length c2):=HB.o.cell 2 _ rfl;have q1:W.cell? ⟨BK,1,none⟩=some (.int .u32 gg):=HB.o.cell 1 _ rfl;have nBl:BK≠l:=om;have c5:=HL2.o.free 5;have c7:=HL2.o.free 7;have c8:=HL2.o.free 8;have e5:=SS HL2.o;have e7:=SU HL2.o;have e8:=SV HL2.o;have g5:=PZ HL2.o k;have g7:=P0 g5 gg;have g8:=SM (P4 g7 es2.length);have hkf:=SM ((((HK2.o.cell1 ⟨l,5,none⟩ (.int .i64 k) rfl).cell1 ⟨l,7,none⟩ (.int .u32 gg) rfl)).cell1 ⟨l,8,none⟩ (.int .i64 es2.length) rfl)
      have hof:=SM (bu (w':=((W.setCell ⟨l,5,none⟩ (.int .i64 k)).setCell ⟨l,7,none⟩ (.int .u32 gg)).setCell ⟨l,8,none⟩ (.int .i64 es2.length)) HO2.o (fun q hq hlt=>by
       have:=(HO2.o.lt q hq).1;rw[Below.heap_setCell _ _ _ _ (by show q≠l;omega),Below.heap_setCell _ _ _ _ (by show q≠l;omega),Below.heap_setCell _ _ _ _ (by show q≠l;omega)]))
      clear g5 g7
      go_wp2
      go_roundw
      case rel=>exact⟨k+1,{ M' with side:=k,gen:=gg,count:=es2.length },true,es2,_,om,by go_num,rfl,rfl,hF3,hof.o,g8.o,hkf.o⟩
      case measure=>simp[intOf];omega
     | true =>
      by_cases hgg:gg≤M'.gen
      ·have d2:decide ((gg:Int)≤(M'.gen:Int))=true:=dt;have hF3:Hd (dm D M (k+1) = .ok (M',true,es)):=SM (by rw[HF2.o,if_pos (.inr ⟨rfl,hgg⟩)])
       refine yW (tk 0 15 .done) (fun u=>Bk u BK #[.bool true,.int .u32 gg,.slice a2 es2.length c2]∧Bk u l (SX p.B M')) ⟨HB.o.drew,HL2.o.drew⟩ ?_;replace HB:=SM (show Bk W.drew BK _ from HB.o.drew)
       replace HL2:=SM (show Bk W.drew l _ from HL2.o.drew)
       replace HO2:=SM (ah HO2.o ((Below.refl _ W).drew));replace HO1:=SM (ah HO1.o ((Below.refl _ W).drew));replace HK2:=SM HK2.o.drew;generalize W.drew=W at *
       repeat((first|refine yO ?_|refine yM ?_|refine yF rfl rfl (fun w' hC'=>by have b0:=hC'.1.cell 0 _ rfl;have b1:=hC'.1.cell 1 _ rfl;have b7:=SU hC'.2;go_simp;first|done|exact rfl) ?_);walk_nrm)
       refine al ?_
       go_wp2
       go_roundw
       case rel=>exact⟨k+1,M',true,es,_,om,by go_num,rfl,rfl,hF3,HO1.o,HL2.o,HK2.o⟩
       case measure=>simp[intOf];omega
      ·have d2:decide ((gg:Int)≤(M'.gen:Int))=false:=df;have hF3:Hd (dm D M (k+1) = .ok ({ M' with side:=k,gen:=gg,count:=es2.length },true,es2)):=SM (by rw[HF2.o,if_neg sO])
       refine yW (tk 0 15 .done) (fun u=>Bk u BK #[.bool true,.int .u32 gg,.slice a2 es2.length c2]∧Bk u l (SX p.B M')) ⟨HB.o.drew,HL2.o.drew⟩ ?_;replace HB:=SM (show Bk W.drew BK _ from HB.o.drew)
       replace HL2:=SM (show Bk W.drew l _ from HL2.o.drew)
       replace HO2:=SM (ah HO2.o ((Below.refl _ W).drew));replace HO1:=SM (ah HO1.o ((Below.refl _ W).drew));replace HK2:=SM HK2.o.drew;generalize W.drew=W at *
       repeat((first|refine yO ?_|refine yM ?_|refine yF rfl rfl (fun w' hC'=>by have b0:=hC'.1.cell 0 _ rfl;have b1:=hC'.1.cell 1 _ rfl;have b7:=SU hC'.2;go_simp;first|done|exact rfl) ?_);walk_nrm)
       refine al ?_;have q2:W.cell? ⟨BK,2,none⟩=some (.slice a2 es2.length c2):=HB.o.cell 2 _ rfl;have q1:W.cell? ⟨BK,1,none⟩=some (.int .u32 gg):=HB.o.cell 1 _ rfl;have nBl:BK≠l:=om;have c5:=HL2.o.free 5;have c7:=HL2.o.free 7;have c8:=HL2.o.free 8;have e5:=SS HL2.o;have e7:=SU HL2.o;have e8:=SV HL2.o;have g5:=PZ HL2.o k;have g7:=P0 g5 gg;have g8:=SM (P4 g7 es2.length);have hkf:=SM ((((HK2.o.cell1 ⟨l,5,none⟩ (.int .i64 k) rfl).cell1 ⟨l,7,none⟩ (.int .u32 gg) rfl)).cell1 ⟨l,8,none⟩ (.int .i64 es2.length) rfl)
       have hof:=SM (bu (w':=((W.setCell ⟨l,5,none⟩ (.int .i64 k)).setCell ⟨l,7,none⟩ (.int .u32 gg)).setCell ⟨l,8,none⟩ (.int .i64 es2.length)) HO2.o (fun q hq hlt=>by
        have:=(HO2.o.lt q hq).1;rw[Below.heap_setCell _ _ _ _ (by show q≠l;omega),Below.heap_setCell _ _ _ _ (by show q≠l;omega),Below.heap_setCell _ _ _ _ (by show q≠l;omega)]))
       clear g5 g7
       go_wp2
       go_roundw
       case rel=>exact⟨k+1,{ M' with side:=k,gen:=gg,count:=es2.length },true,es2,_,om,by go_num,rfl,rfl,hF3,hof.o,g8.o,hkf.o⟩
       case measure=>simp[intOf];omega
  ·obtain rfl:k=2:=om;have hRn:R = .ok (M',f,es):=by rw[← HR.o,HF.o]
   subst hRn
   go_wp2
   refine bodyPost_ret (cR rfl rfl rfl rfl) rfl ⟨⟨_,rfl,Ho.o,HL.o⟩,Hkb.o⟩
end
section
def SY(n:Nat):LM:={ half:=n / 2,side:=0,last:=0,gen:=0,count:=0,broken:=false }
def openD(D:DM)(n:Nat):DM × Except Int (LM × List RQ) :=
 if (bz D).2=0 then
  if (dN (bz D).1 n).2=0 then
   match dm (bz D).1 { SY n with last:=(dN (bz D).1 n).1 } 2 with
   | .error c=>((bz D).1,.error c)
   | .ok (M,f,es) =>
    if f=true then ((bz D).1,.ok (M,es)) else
    if (dN (bz D).1 n).1=4294967295 then ((bz D).1,.error 13) else
    if (commitD (bz D).1 0 ((dN (bz D).1 n).1+1)).2=0 then ((commitD (bz D).1 0 ((dN (bz D).1 n).1+1)).1,.ok ({ M with side:=0,gen:=(dN (bz D).1 n).1+1 },[]))
    else ((commitD (bz D).1 0 ((dN (bz D).1 n).1+1)).1,.error (commitD (bz D).1 0 ((dN (bz D).1 n).1+1)).2)
  else ((bz D).1,.error (dN (bz D).1 n).2)
 else ((bz D).1,.error (bz D).2)
def Kc(r:Except Int (LM × List RQ))(base B:Nat)(e:Ending)(w:World):Prop :=
 match r with
 | .error c=>∃ k,e = .returned (.tuple #[.pointer none,.slice none 0 0,fg c k])
 | .ok (M,es)=>∃ l v,e = .returned (.tuple #[.pointer (some ⟨l,0,none⟩),v,.nilIface])∧base≤l∧w.ownsRow base 89 33 v es.length (aZ SK es)∧Bk w l (SX B M)
theorem se(D:DM)(M:LM)(k:Nat)(c:Int)(h:dm D M k = .error c):c≠0:=by
 induction k with
 | zero=>cases h
 | succ k ih =>
  unfold dm at h;cases hk:dm D M k with
  | error c'=>rw[hk] at h;cases h;exact ih hk
  | ok t =>
   obtain⟨M2,f2,es2⟩:=t;rw[hk] at h;simp only at h
   split at h
   ·split at h <;> cases h
   ·rename_i hne
    cases h;exact hne
theorem yc(x:Sj):aX x < 4294967296:=vi _ sm
theorem xG(L:List SE)(a:Nat)(ha:a < 4294967296):(gY L a).1 < 4294967296:=by
 induction L generalizing a with
 | nil=>exact ha
 | cons x L ih =>
  unfold gY
  split
  ·split
   ·exact ih _ (yc _)
   ·exact ih _ ha
  ·exact Nat.zero_lt_succ _
def AQ(w:World)(base:Nat)(p:DP)(n:Nat)(D:DM)(w':World)(L:Nat):Prop :=
 ∃ p',p'.B=p.B∧RM w' base p' n D∧Kb p.has w w'∧(∀ b,p'.has b→p.has b∨w.heap.size≤b)∧¬ p'.has L
def ls(w:World)(base:Nat)(p:DP)(n:Nat)(R:DM × Except Int (LM × List RQ))(e:Ending)(w':World):Prop :=
 ∃ p',p'.B=p.B∧RM w' base p' n R.1∧Kb p.has w w'∧(∀ b,p'.has b→p.has b∨w.heap.size≤b)∧Kc R.2 w.heap.size p.B e w'∧∀ l v,e = .returned (.tuple #[.pointer (some ⟨l,0,none⟩),v,.nilIface])→¬ p'.has l
theorem ls.err{w w':World}{base n:Nat}{p:DP}{D:DM}{c:Int}{e:Ending}(h:∃ k,e = .returned (.tuple #[.pointer none,.slice none 0 0,fg c k]))(hN:bm w base p n D w'):ls w base p n (D,.error c) e w':=by
 obtain⟨k,rfl⟩:=h;obtain⟨p',h1,h2,h3,h4⟩:=hN;exact⟨p',h1,h2,h3,h4,⟨k,rfl⟩,fun l v he=>by simp at he⟩
theorem ls.ok{w w':World}{base n:Nat}{p:DP}{D:DM}{M:LM}{es:List RQ}{L:Nat}{v:Value}(h0:w.heap.size≤L)(h1:w'.ownsRow w.heap.size 89 33 v es.length (aZ SK es))(h2:Bk w' L (SX p.B M))(hN:AQ w base p n D w' L):ls w base p n (D,.ok (M,es)) (.returned (.tuple #[.pointer (some ⟨L,0,none⟩),v,.nilIface])) w':=by
 obtain⟨p',g1,g2,g3,g4,g5⟩:=hN;refine⟨p',g1,g2,g3,g4,⟨L,v,rfl,h0,h1,h2⟩,fun l v he=>?_⟩;simp only[Ending.returned.injEq,Value.tuple.injEq,Array.mk.injEq,List.cons.injEq,Value.pointer.injEq,Option.some.injEq,Addr.mk.injEq,and_true] at he;rw[← he.1];exact g5
theorem CS(p:DP)(base n m:Nat)(D:DM)(w:World)(h:RM w base p n D)(hD:R0 D n m)(hm:m+8≤100000)(hn:n≤5000)(h2:2≤n)(hbase:base≤w.heap.size):
  Calls prog 57 #[.pointer (some ⟨p.B,0,none⟩)] w fun e w'=>ls w base p n (openD D n) e w':=by
 have H:=SM h;have HD:=SM hD;clear h hD;obtain⟨R,hR⟩:=eY (openD D n);rw[hR];have HR:=SM hR;clear hR
 go_in
 go_wp2_with fail
 refine (lP w H.o).mono ?_;rintro _ _ ⟨rfl,rfl⟩;have d1:decide ((n:Int) < 2)=false:=df
 go_wp2_with fail
 refine (jD w m H.o HD.o om hn hbase).mono ?_;rintro e w1 ⟨he,hN1⟩;obtain⟨D1,hD1⟩:=eY ((bz D).1);obtain⟨c1,hc1⟩:=eY ((bz D).2);have HDs:=SM HD.o.sync;rw[hD1] at hN1 HDs;rw[hc1] at he;subst he;have HR1:=SM HR.o;unfold openD at HR1;rw[hD1,hc1] at HR1;clear hD1 hc1 HR
 by_cases h0:c1=0
 case neg =>
  have hRn:R=(D1,.error c1):=by rw[← HR1.o,if_neg h0]
  subst hRn;obtain⟨T,u,he⟩:=cG (k:=0) h0;rw[he];have Hhe:=SM he;have HN1:=SM hN1;clear he hN1
  go_wp2
  refine bodyPost_ret (cR rfl rfl rfl rfl) rfl (ls.err ⟨0,congrArg (fun z=>Ending.returned (.tuple #[.pointer none,.slice none 0 0,z])) Hhe.o.symm⟩ (HN1.o))
 subst h0;rw[dM];rw[if_pos rfl] at HR1;obtain⟨p1,hpB,hA1,hk1,hh1⟩:=hN1;have HN1:=SM (show bm w base p n D1 w1 from ⟨p1,hpB,hA1,hk1,hh1⟩)
 have HA1:=SM hA1;have HK1:=SM (And.intro hk1 hh1);have hz1:=hk1.size;clear hA1 hk1 hh1
 go_wp2_with fail
 have hB2:=Bk.new w1 #[.pointer (some ⟨p.B,0,none⟩),.int .i64 0,.int .i64 0,.int .i64 0,.int .i64 0,.int .i64 0,.int .u32 0,.int .u32 0,.int .i64 0,.bool false] 156;have hb2:=(ba (.cells #[.pointer (some ⟨p.B,0,none⟩),.int .i64 0,.int .i64 0,.int .i64 0,.int .i64 0,.int .i64 0,.int .u32 0,.int .u32 0,.int .i64 0,.bool false] 156) (Sy w1));have hs2:(w1.alloc (.cells #[.pointer (some ⟨p.B,0,none⟩),.int .i64 0,.int .i64 0,.int .i64 0,.int .i64 0,.int .i64 0,.int .u32 0,.int .u32 0,.int .i64 0,.bool false] 156)).heap.size=w1.heap.size+1:=sm
 generalize w1.alloc (.cells #[.pointer (some ⟨p.B,0,none⟩),.int .i64 0,.int .i64 0,.int .i64 0,.int .i64 0,.int .i64 0,.int .u32 0,.int .u32 0,.int .i64 0,.bool false] 156)=w2 at *;replace hB2:=hB2.drew;replace hb2:=hb2.drew;have hs2':w2.drew.heap.size=w1.heap.size+1:=hs2;clear hs2;obtain⟨L,hLe⟩:=eY w1.heap.size;rw[hLe] at hB2 hb2 hs2' hz1 ⊢;refine yW (tk 0 3 (tk 8 2 (tk 12 2 (.run 3 (.run 4 (tk 5 3 (.take 10 (.run 11 (.take 14 (.run 15 .done)))))))))) (fun _=>True) trivial ?_;generalize w2.drew=w2 at *
 repeat(refine yA ?_;walk_nrm)
 refine yR ?_;have hb2':Below w1.heap.size w1 w2:=by rw[hLe];exact hb2
 have hA2:=HA1.o.below hb2';have hsz:=lP w2 hA2;rw[hpB] at hsz;refine hsz.mono ?_;rintro _ _ ⟨rfl,rfl⟩;refine kS trivial ?_;walk_nrm
 repeat(refine yA ?_;walk_nrm)
 refine yR ?_;have hv:=zh n w2 om;obtain⟨hf,hhf⟩ : ∃ hf:Nat,n / 2=hf:=⟨_,rfl⟩;rw[hhf] at hv;refine hv.mono ?_;rintro _ w3 ⟨rfl,hb3⟩;refine kS trivial ?_;walk_nrm
 repeat(refine yA ?_;walk_nrm)
 have HA3:=SM (hA2.below hb3);have Hb3:=SM (hb2.trans (hb3.mono om));have HB3:=SM (hB2.below hb3);have hz3:=hb3.size;clear hb2 hb2' hb3 hA2 hB2 hsz;have f1:=HB3.o.free 1;have f2:=HB3.o.free 2;have c1:w3.cell? ⟨L,1,none⟩=some (.int .i64 0):=HB3.o.cell 1 _ rfl;have c2:w3.cell? ⟨L,2,none⟩=some (.int .i64 0):=HB3.o.cell 2 _ rfl;refine dd rfl rfl (fun K hK=>?_);go_simp;refine hK _ _ (fun _=>True) (fun _ h=>h) trivial ?_
 clear hK
 repeat(refine yA ?_;walk_nrm)
 have HB4:=SM ((HB3.o.set 1 sm (.int .i64 0)).set 2 sm (.int .i64 (hf:Nat)));have Hb4:=SM ((Hb3.o.setCell (p:=⟨L,1,none⟩) (by show L≤L;omega) (.int .i64 0)).setCell (p:=⟨L,2,none⟩) (by show L≤L;omega) (.int .i64 (hf:Nat)))
 generalize (w3.setCell ⟨L,1,none⟩ (.int .i64 0)).setCell ⟨L,2,none⟩ (.int .i64 (hf:Nat))=w4 at *;clear f1 f2 c1 c2;have f1:=HB4.o.free 3;have f2:=HB4.o.free 4;have c1:w4.cell? ⟨L,3,none⟩=some (.int .i64 0):=HB4.o.cell 3 _ rfl;have c2:w4.cell? ⟨L,4,none⟩=some (.int .i64 0):=HB4.o.cell 4 _ rfl;refine dd rfl rfl (fun K hK=>?_);go_simp;refine hK _ _ (fun _=>True) (fun _ h=>h) trivial ?_;clear hK;refine al ?_
 have HB5:Hd (Bk ((w4.setCell ⟨L,3,none⟩ (.int .i64 (hf:Nat))).setCell ⟨L,4,none⟩ (.int .i64 (hf:Nat))) L (SX p.B (SY n))):=SM (by
  have h:=(HB4.o.set 3 sm (.int .i64 (hf:Nat))).set 4 sm (.int .i64 (hf:Nat))
  simpa [SX,SY,hhf] using h)
 have Hb5:=SM ((Hb4.o.setCell (p:=⟨L,3,none⟩) (by show L≤L;omega) (.int .i64 (hf:Nat))).setCell (p:=⟨L,4,none⟩) (by show L≤L;omega) (.int .i64 (hf:Nat)))
 generalize (w4.setCell ⟨L,3,none⟩ (.int .i64 (hf:Nat))).setCell ⟨L,4,none⟩ (.int .i64 (hf:Nat))=w5 at *;clear f1 f2 c1 c2 HB3 Hb3 HB4 Hb4 HA3 hv
 go_wp2_with fail
 have hnL : ¬ p1.has L:=fun hh=>by have:=HA1.o.has_lt _ hh;omega
 have HnL:=SM hnL;have kA:∀ u,Below L w1 u→RM u base p1 n D1:=fun u hb=>HA1.o.below (by rw[hLe];exact hb)
 have kN:∀ u,Below L w1 u→bm w base p n D1 u:=fun u hb=>HN1.o.post (by rw[hLe];exact hb)
 have KX:Hd (∀ u,Below L w1 u→AQ w base p n D1 u L):=SM (fun u hb=>⟨p1,hpB,kA u hb,HK1.o.1.blw (by rw[hLe];exact hb),HK1.o.2,hnL⟩)
 have KA:=SM kA;have KN:=SM kN;clear kA kN hnL;have hlg:=vd p1 base n (m+2) D1 w5 (KA.o _ Hb5.o) HDs.o om hn;rw[hpB] at hlg;have hz5:=Hb5.o.size;have hL5:=HB5.o.lt;refine hlg.mono ?_;rintro _ w6 ⟨⟨k2,rfl⟩,hb6⟩;have hlt:=xG (Tn (SI D1 0) n) 0 om;rw[show gY (Tn (SI D1 0) n) 0=dN D1 n from rfl] at hlt
 obtain⟨⟨la,c2⟩,hla⟩ : ∃ r,dN D1 n=r:=⟨_,rfl⟩;rw[hla] at HR1 hlt ⊢;simp only at HR1 hlt ⊢;have HB6:=SM (HB5.o.below hb6);have Hb6:=SM (Hb5.o.trans (hb6.mono om));clear HB5 Hb5 hb6 hlg hla
 by_cases h0:c2=0
 case neg =>
  have hRn:R=(D1,.error c2):=by rw[← HR1.o,if_neg h0]
  subst hRn;obtain⟨T,u,he⟩:=cG (k:=k2) h0;rw[he];have Hhe:=SM he;clear he
  go_wp2
  refine bodyPost_ret (cR rfl rfl rfl rfl) rfl (ls.err ⟨k2,congrArg (fun z=>Ending.returned (.tuple #[.pointer none,.slice none 0 0,z])) Hhe.o.symm⟩ (KN.o _ Hb6.o))
 subst h0;rw[dM];have hR2:=HR1.o;rw[if_pos rfl] at hR2;have HR2:=SM hR2;clear hR2 HR1;have c6:=ST HB6.o;have f6:=HB6.o.free 6;have HB7:=SM (Rp HB6.o la);have Hb7:=SM (Hb6.o.setCell (p:=⟨L,6,none⟩) (Nat.le_refl _) (.int .u32 la))
 go_wp2_with fail
 clear c6 f6 HB6 Hb6;generalize w6.setCell ⟨L,6,none⟩ (.int .u32 la)=w7 at *;have hfd:=Ga L p1 base n (m+2) D1 { SY n with last:=la } w7 (by rw[hpB];exact HB7.o) (by show n / 2≤5000;omega) (KA.o _ Hb7.o) HDs.o om hn HnL.o
 rw[hpB] at hfd;refine hfd.mono ?_;rintro e w8 ⟨hfo,hk8⟩;have hL7:=HB7.o.lt;have Hb8:Hd (Below L w1 w8):=SM (Hb7.o.trans (hk8.below (fun b hb=>by subst hb;exact Nat.le_refl _) om))
 clear hfd;cases hfs:dm D1 { SY n with last:=la } 2 with
 | error c =>
  rw[hfs] at hfo;obtain⟨k3,rfl⟩ : ∃ k,e = .returned (.tuple #[.slice none 0 0,.bool false,fg c k]):=hfo;have hRn:R=(D1,.error c):=by rw[← HR2.o,hfs]
  subst hRn;obtain⟨T,u,he⟩:=cG (k:=k3) (se _ _ _ _ hfs);rw[he];have Hhe:=SM he;clear he
  go_wp2
  refine bodyPost_ret (cR rfl rfl rfl rfl) rfl (ls.err ⟨k3,congrArg (fun z=>Ending.returned (.tuple #[.pointer none,.slice none 0 0,z])) Hhe.o.symm⟩ (KN.o _ Hb8.o))
 | ok t =>
  obtain⟨M2,f,es⟩:=t;rw[hfs] at hfo;obtain⟨v,rfl,ho,hB8⟩ : ∃ v,e = .returned (.tuple #[v,.bool f,.nilIface])∧w8.ownsRow w7.heap.size 89 33 v es.length (aZ SK es)∧Bk w8 L (SX p.B M2):=hfo;obtain⟨av',cv,rfl,_⟩:=aG ho;have HO:=SM (bj (base':=w.heap.size) ho om);have HB8:=SM hB8;have hR3:=HR2.o;rw[hfs] at hR3;simp only at hR3;have HR3:=SM hR3;clear hR3 HR2 ho hB8 hk8 HB7 Hb7;cases f with
  | true =>
   have hRn:R=(D1,.ok (M2,es)):=by rw[← HR3.o,if_pos rfl]
   subst hRn
   go_wp2
   refine bodyPost_ret (cR rfl rfl rfl rfl) rfl (ls.ok hz1 HO.o HB8.o (KX.o _ Hb8.o))
  | false =>
   have hR4:=HR3.o;rw[if_neg dc] at hR4;have HR4:=SM hR4;clear hR4 HR3
   by_cases hmx:la=4294967295
   ·have hRn:R=(D1,.error 13):=by rw[← HR4.o,if_pos hmx]
    have d2:((la:Int) == 4294967295)=true:=by rw[hmx];rfl
    subst hRn;clear hmx
    go_wp2
    refine bodyPost_ret (cR rfl rfl rfl rfl) rfl (ls.err ⟨0,rfl⟩ (KN.o _ Hb8.o))
   have d2:((la:Int) == 4294967295)=false:=sO;have hR5:=HR4.o;rw[if_neg hmx] at hR5;have HR5:=SM hR5;obtain⟨g1,hge⟩ : ∃ g1:Nat,la+1=g1:=⟨_,rfl⟩;rw[hge] at HR5;have wg:IntKind.u32.wrap ((la:Int)+1)=(g1:Int):=by rw[IntKind.wrap_u32];omega
   have hg1:g1 < 4294967296:=om;clear hR5 HR4 hmx;have c5:=SS HB8.o;have f5:=HB8.o.free 5;have B9:=PZ HB8.o 0;have c7:=SU HB8.o;have f7:=HB8.o.free 7;have B10:=P0 B9 g1;have HB10:=SM B10;have Hb10:=SM ((Hb8.o.setCell (p:=⟨L,5,none⟩) (by show L≤L;omega) (.int .i64 (0:Nat))).setCell (p:=⟨L,7,none⟩) (by show L≤L;omega) (.int .u32 (g1:Nat)))
   have hL8:=HB8.o.lt;clear B9 B10
   go_wp2_with fail
   have ez:Value.int .i64 ((0:Nat):Int) = .int .i64 0:=rfl;rw[ez] at HB10 Hb10;have HM:Hd (M2.half=n / 2):=SM (zb _ _ _ _ _ _ hfs);generalize (w8.setCell ⟨L,5,none⟩ (.int .i64 0)).setCell ⟨L,7,none⟩ (.int .u32 (g1:Nat))=w10 at *;clear c5 f5 c7 f7 HB8 Hb8 HO ez hfs;refine yW (tk 0 10 (.run 10 (.take 11 .done))) (fun u=>Bk u L (SX p.B { M2 with side:=0,gen:=g1 })) HB10.o.drew ?_
   replace HB10:=SM (show Bk w10.drew L _ from HB10.o.drew)
   replace Hb10:=SM Hb10.o.drew;generalize w10.drew=w11 at *
   repeat((first|refine yO ?_|refine yM ?_|refine yF rfl rfl (fun w' hC'=>by have c1:w'.cell? ⟨L,1,none⟩=some (.int .i64 0):=hC'.cell 1 _ rfl;have c2:w'.cell? ⟨L,2,none⟩=some (.int .i64 M2.half):=hC'.cell 2 _ rfl;have c7:=SU hC';go_simp;first|done|exact rfl) ?_);walk_nrm)
   refine yR ?_;have hcm:=oK p1 base n (m+2) D1 0 M2.half g1 w11 (KA.o _ Hb10.o) HDs.o om hn (by have:=Hb10.o.size;omega) hg1
   rw[hpB] at hcm;refine hcm.mono ?_;rintro _ w12 ⟨⟨k4,rfl⟩,hN12⟩;obtain⟨⟨D4,c4⟩,hc4⟩ : ∃ r,commitD D1 0 g1=r:=⟨_,rfl⟩;rw[hc4] at HR5 hN12 ⊢;have HB12:Hd (Bk w12 L (SX p.B { M2 with side:=0,gen:=g1 })):=by
    obtain⟨_,_,_,hk,_⟩:=hN12;exact SM (HB10.o.same (hk.block L HB10.o.lt HnL.o))
   have HN12:Hd (bm w base p n D4 w12):=SM (bm.trans hpB HK1.o.1 HK1.o.2 (hN12.pre (by rw[hLe];exact Hb10.o)))
   have HX12:Hd (AQ w base p n D4 w12 L):=SM (by
    obtain⟨p',g1,g2,g3,g4⟩:=hN12;have hlt:=HB10.o.lt;have hk:=HK1.o.1.blw (show Below w1.heap.size w1 w11 by rw[hLe];exact Hb10.o)
    refine⟨p',g1.trans hpB,g2,hk.trans g3 (fun i hi=>HK1.o.2 i hi),fun b hb=>?_,fun hb=>?_⟩
    ·rcases g4 b hb with hh | hh
     ·exact HK1.o.2 b hh
     ·exact .inr (Nat.le_trans hk.size hh)
    ·rcases g4 L hb with hh | hh
     ·exact HnL.o hh
     ·omega)
   clear hcm hc4 hN12;refine kS HB12.o ?_;walk_nrm
   repeat(refine yA ?_;walk_nrm)
   refine al ?_
   by_cases h0:c4=0
   ·subst h0;have hRn:R=(D4,.ok ({ M2 with side:=0,gen:=g1 },[])):=by rw[← HR5.o];rfl
    subst hRn;rw[dM]
    go_wp2
    refine bodyPost_ret (cR rfl rfl rfl rfl) rfl (ls.ok (es:=[]) hz1 (World.ownsRow_nil _ _ _ _) HB12.o HX12.o)
   ·have hRn:R=(D4,.error c4):=by rw[← HR5.o];simp only;rw[if_neg h0]
    subst hRn;obtain⟨T,u,he⟩:=cG (k:=k4) h0;rw[he];have Hhe:=SM he;clear he
    go_wp2
    refine bodyPost_ret (cR rfl rfl rfl rfl) rfl (ls.err ⟨k4,congrArg (fun z=>Ending.returned (.tuple #[.pointer none,.slice none 0 0,z])) Hhe.o.symm⟩ (HN12.o))
end
section
theorem R0.fillW{n:Nat}(s:Int)(g:Nat):∀ (L:List RQ) (i m:Nat) (D:DM),R0 D n m→R0 (fillW s g i L D).1 n (m+2 * L.length)
 | [],i,m,D,h=>by unfold Go.Proofs.YtlcfaaodmickbaaGreatDoor.fillW;exact h.more om
 | e :: r,i,m,D,h=>by
  unfold Go.Proofs.YtlcfaaodmickbaaGreatDoor.fillW;have h1:=h.write (s+1+(i:Nat)) (il g e)
  split
  ·have:=R0.fillW s g r (i+1) (m+2) _ h1;exact this.more sO
  ·exact h1.more sO
theorem R0.fillD{n m:Nat}{D:DM}(h:R0 D n m)(s len:Int)(g:Nat)(L:List RQ):R0 (fillD D s len g L).1 n (m+2 * L.length+2):=by
 unfold Go.Proofs.YtlcfaaodmickbaaGreatDoor.fillD
 split
 ·exact h.more om
 ·split
  ·exact (R0.fillW s g L 0 m D h).sync
  ·exact (R0.fillW s g L 0 m D h).more om
theorem nE{w:World}{l B:Nat}{M:LM}(h:Bk w l (SX B M)){s:Nat}(hs:s≤1):w.cell? ⟨l,1+s * 2,none⟩=some (.int .i64 (aR M.half s:Nat))∧w.cell? ⟨l,1+s * 2+1,none⟩=some (.int .i64 M.half):=by
 have c1:=h.cell 1 _ rfl;have c2:=h.cell 2 _ rfl;have c3:=h.cell 3 _ rfl;have c4:=h.cell 4 _ rfl;have hs2:s=0∨s=1:=om
 rcases hs2 with h0 | h0
 ·rw[h0];exact⟨c1,c2⟩
 ·rw[h0];exact⟨c3,c4⟩
theorem iv.seqD{w w1 w2:World}{base n l:Nat}{p p':DP}{D2:DM}{M:LM}(hB:p'.B=p.B)(hk:Kb (fun b=>p.has b∨b=l) w w1)(hh:∀ b,p'.has b→p.has b∨w.heap.size≤b)(hL:Bk w1 l (SX p.B M))(hN:bm w1 base p' n D2 w2)(hl : ¬ p.has l)(hlt:l < w.heap.size):iv w base p n l D2 M w2:=by
 have hn : ¬ p'.has l:=fun h=>by
  rcases hh l h with h | h
  ·exact hl h
  ·omega
 obtain⟨p2,h1,h2,h3,h4⟩:=hN;refine⟨p2,h1.trans hB,h2,hk.trans h3 (fun i hi=>?_),fun b hb=>?_,hL.same (h3.block l hL.lt hn)⟩
 ·rcases hh i hi with h | h
  ·exact .inl (.inl h)
  ·exact .inr h
 ·rcases h4 b hb with h | h
  ·exact hh b h
  ·exact .inr (Nat.le_trans hk.size h)
def rewriteL(D:DM)(M:LM)(L:List RQ):DM × LM × Int :=
 if M.broken=true then (D,M,11) else
 if max M.last M.gen=4294967295 then (D,M,13) else
 if (fillD D (aR M.half (1 - M.side):Nat) M.half (max M.last M.gen+1) L).2=0 then
  if (commitD (fillD D (aR M.half (1 - M.side):Nat) M.half (max M.last M.gen+1) L).1 (aR M.half (1 - M.side):Nat) (max M.last M.gen+1)).2=0 then
   ((commitD (fillD D (aR M.half (1 - M.side):Nat) M.half (max M.last M.gen+1) L).1 (aR M.half (1 - M.side):Nat) (max M.last M.gen+1)).1,{ M with side:=1 - M.side,gen:=max M.last M.gen+1,count:=L.length },0)
  else ((commitD (fillD D (aR M.half (1 - M.side):Nat) M.half (max M.last M.gen+1) L).1 (aR M.half (1 - M.side):Nat) (max M.last M.gen+1)).1,eA M (commitD (fillD D (aR M.half (1 - M.side):Nat) M.half (max M.last M.gen+1) L).1 (aR M.half (1 - M.side):Nat) (max M.last M.gen+1)).2,(commitD (fillD D (aR M.half (1 - M.side):Nat) M.half (max M.last M.gen+1) L).1 (aR M.half (1 - M.side):Nat) (max M.last M.gen+1)).2)
 else ((fillD D (aR M.half (1 - M.side):Nat) M.half (max M.last M.gen+1) L).1,eA M (fillD D (aR M.half (1 - M.side):Nat) M.half (max M.last M.gen+1) L).2,(fillD D (aR M.half (1 - M.side):Nat) M.half (max M.last M.gen+1) L).2)
theorem sF(l:Nat)(p:DP)(base n m kn c:Nat)(D:DM)(M:LM)(ad:Option Addr)(L:List RQ)(w:World)(hL:Bk w l (SX p.B M))(hk:Fc M)(h:RM w base p n D)(hD:R0 D n m)(hm:m+2 * kn+8≤100000)(hn:n≤5000)(hbase:base≤w.heap.size)(hl : ¬ p.has l)(hLn:L.length=kn)(hkn:kn≤5000)(hx:∀ e ∈ L,e.2≤4611686018427387904)(hRd:Se w (.slice ad kn c) kn 33 (aZ SK L)):
  Calls prog 55 #[.pointer (some ⟨l,0,none⟩),.slice ad kn c] w fun e w'=>(∃ k,e = .returned (fg (rewriteL D M L).2.2 k))∧iv w base p n l (rewriteL D M L).1 (rewriteL D M L).2.1 w':=by
 have H:=SM h;have HD:=SM hD;have HL:=SM hL;have Hk:=SM hk;have Hl:=SM hl;have Hn:=SM hLn;have Hx:=SM hx;have HR0:=SM hRd;have hlw:=hL.lt;clear h hD hL hk hl hLn hx hRd;obtain⟨R,hR⟩:=eY (rewriteL D M L);rw[hR];have HR:=SM hR;clear hR;have c9:=SW HL.o;obtain⟨br,hbr⟩:=eY M.broken;rw[hbr] at c9
 go_in
 cases br with
 | true =>
  have hRn:R=(D,M,11):=by rw[← HR.o];unfold rewriteL;rw[if_pos hbr]
  subst hRn;clear hbr
  go_wp2
  go_ret
  exact⟨⟨0,rfl⟩,(H.o.next (Below.refl _ _)).log HL.o Hl.o⟩
 | false =>
  have hR1:=HR.o;unfold rewriteL at hR1;rw[if_neg (by rw[hbr];decide)] at hR1
  have HR1:=SM hR1;clear hR1 hbr HR
  go_wp2_with fail
  clear c9;refine yW (tk 0 8 (.run 8 (.take 9 .done))) (fun u=>Bk u l (SX p.B M)) HL.o.drew ?_;have HL1:=SM (show Bk w.drew l _ from HL.o.drew)
  have hb1:=(Sy w).drew;generalize w.drew=w1 at *
  repeat((first|refine yO ?_|refine yM ?_|refine yF rfl rfl (fun w' hC'=>by have c6:=ST hC';have c7:=SU hC';go_simp;first|done|exact rfl) ?_);walk_nrm)
  refine dd rfl rfl (fun K hK=>?_);go_simp;obtain⟨g0,hg0⟩ : ∃ g0:Nat,max M.last M.gen=g0:=⟨_,rfl⟩;have hg0l:g0 < 4294967296:=by have:=Hk.o.l;have:=Hk.o.g;omega
  rw[show (if M.last < M.gen then (M.gen:Int) else (M.last:Int))=(g0:Int) by split <;> omega]
  rw[hg0] at HR1;refine hK _ _ (fun u=>Bk u l (SX p.B M)) (fun _ h=>h) HL1.o ?_;clear hK hg0
  repeat(refine yA ?_;walk_nrm)
  refine al ?_
  by_cases hmx:g0=4294967295
  ·have hRn:R=(D,M,13):=by rw[← HR1.o,if_pos hmx]
   have d2:((g0:Int) == 4294967295)=true:=by rw[hmx];rfl
   subst hRn;clear hmx
   go_wp2
   go_ret
   exact⟨⟨0,rfl⟩,(H.o.next hb1).log HL.o Hl.o⟩
  have d2:((g0:Int) == 4294967295)=false:=sO;have hR2:=HR1.o;rw[if_neg hmx] at hR2;obtain⟨g1,hge⟩ : ∃ g1:Nat,g0+1=g1:=⟨_,rfl⟩;rw[hge] at hR2;have HR2:=SM hR2;have wg:IntKind.u32.wrap ((g0:Int)+1)=(g1:Int):=by rw[IntKind.wrap_u32];omega
  have hg1:g1 < 4294967296:=om;have c5:=SS HL1.o;obtain⟨ot,hot⟩ : ∃ ot:Nat,1 - M.side=ot:=⟨_,rfl⟩;have wo:IntKind.i64.wrap (1 - (M.side:Int))=(ot:Int):=by rw[IntKind.wrap_i64];have:=Hk.o.s;omega
  have hot1:ot≤1:=om;rw[hot] at HR2;clear hR2 HR1 hmx
  go_wp2_with fail
  clear c5;refine yW (tk 0 12 (.run 12 (.take 13 .done))) (fun u=>Bk u l (SX p.B M)) HL1.o.drew ?_;have HL2:=SM (show Bk w1.drew l _ from HL1.o.drew)
  have hb2:=hb1.drew;generalize w1.drew=w2 at *;clear HL1 hb1;have i0:(0:Int)≤(ot:Int):=om;have i1:(ot:Int) < 2:=om
  repeat((first|refine yO ?_|refine yM ?_|refine yF rfl rfl (fun w' hC'=>by have c0:=SR hC';obtain⟨s0,s1⟩:=nE hC' hot1;go_simp;first|done|exact rfl) ?_);walk_nrm)
  refine yR ?_;have hst:(0:Int)≤(aR M.half ot:Nat)∧((aR M.half ot:Nat):Int)≤5000:=by have:=Hk.o.h;unfold aR;split <;> omega
  have hz2:=hb2.size;refine (Cm p base n m D (aR M.half ot:Nat) M.half g1 kn c ad L w2 (H.o.below hb2) HD.o om hn om hst (by have:=Hk.o.h;omega) hg1 Hn.o hkn Hx.o (HR0.o.below hb2)).mono ?_
  rintro _ w3 ⟨⟨k3,rfl⟩,hN3⟩;have HD3:=SM (HD.o.fillD (aR M.half ot:Nat) M.half g1 L);rw[Hn.o] at HD3;obtain⟨⟨D3,c3⟩,hf3⟩ : ∃ r,fillD D (aR M.half ot:Nat) M.half g1 L=r:=⟨_,rfl⟩;rw[hf3] at HR2 hN3 HD3 ⊢;simp only at HR2;have HN3:=SM ((hN3.log HL2.o Hl.o).pre hb2);have hL3:Bk w3 l (SX p.B M):=by obtain⟨_,_,_,_,_,h⟩:=HN3.o;exact h
  clear hN3 hf3;refine kS hL3 ?_;walk_nrm
  repeat(refine yA ?_;walk_nrm)
  refine al ?_
  by_cases h0:c3=0
  case neg =>
   have hRn:R=(D3,eA M c3,c3):=by rw[← HR2.o,if_neg h0]
   subst hRn;have hno:=qH l p.B M c3 k3 w3 hL3;obtain⟨T,u,he⟩:=cG (k:=k3) h0;rw[he] at hno ⊢;have Hhe:=SM he;clear he hL3
   go_wp2_with fail
   refine hno.mono ?_;rintro _ w4 ⟨rfl,hL4,hk4⟩;have HN4:=SM (HN3.o.mod hk4 hL4 Hl.o hlw);clear hL4 hk4 hno
   go_wp2
   go_ret
   exact⟨⟨k3,congrArg Ending.returned Hhe.o.symm⟩,HN4.o⟩
  subst h0;rw[dM];have hR3:=HR2.o;rw[if_pos rfl] at hR3;have HR3:=SM hR3;clear hR3 HR2
  go_wp2_with fail
  obtain⟨p3,hpB3,hA3,hk3,hh3,_⟩:=HN3.o;have HK3:=SM (And.intro hk3 hh3);have hz3:=hk3.size;refine yW (tk 0 11 (.run 11 (.take 12 .done))) (fun u=>Bk u l (SX p.B M)) hL3.drew ?_;have HL4:=SM (show Bk w3.drew l _ from hL3.drew)
  have HA4:=SM (show RM w3.drew base p3 n D3 from hA3.drew)
  have hb4:=(Sy w3).drew;have hz4:w3.drew.heap.size=w3.heap.size:=rfl;generalize w3.drew=w4 at *;clear hk3 hh3 hA3
  repeat((first|refine yO ?_|refine yM ?_|refine yF rfl rfl (fun w' hC'=>by have c0:=SR hC';obtain⟨s0,s1⟩:=nE hC' hot1;go_simp;first|done|exact rfl) ?_);walk_nrm)
  refine yR ?_;have hcm:=oK p3 base n (m+2 * kn+2) D3 (aR M.half ot:Nat) M.half g1 w4 HA4.o HD3.o om hn om hg1;rw[hpB3] at hcm;refine hcm.mono ?_;rintro _ w5 ⟨⟨k5,rfl⟩,hN5⟩;obtain⟨⟨D5,c5⟩,hc5⟩ : ∃ r,commitD D3 (aR M.half ot:Nat) g1=r:=⟨_,rfl⟩;rw[hc5] at HR3 hN5 ⊢;simp only at HR3;have HN5:=SM (iv.seqD hpB3 HK3.o.1 HK3.o.2 hL3 (hN5.pre hb4) Hl.o hlw);have hL5:Bk w5 l (SX p.B M):=by obtain⟨_,_,_,_,_,h⟩:=HN5.o;exact h
  clear hN5 hc5 hcm;refine kS hL5 ?_;walk_nrm
  repeat(refine yA ?_;walk_nrm)
  refine al ?_
  by_cases h0:c5=0
  case neg =>
   have hRn:R=(D5,eA M c5,c5):=by rw[← HR3.o,if_neg h0]
   subst hRn;have hno:=qH l p.B M c5 k5 w5 hL5;obtain⟨T,u,he⟩:=cG (k:=k5) h0;rw[he] at hno ⊢;have Hhe:=SM he;clear he hL5
   go_wp2_with fail
   refine hno.mono ?_;rintro _ w6 ⟨rfl,hL6,hk6⟩;have HN6:=SM (HN5.o.mod hk6 hL6 Hl.o hlw);clear hL6 hk6 hno
   go_wp2
   go_ret
   exact⟨⟨k5,congrArg Ending.returned Hhe.o.symm⟩,HN6.o⟩
  subst h0;rw[dM];have hRn:R=(D5,{ M with side:=ot,gen:=g1,count:=L.length },0):=by rw[← HR3.o,if_pos rfl]
  subst hRn;have b5:=SS hL5;have b7:=SU hL5;have b8:=SV hL5;have f5:=hL5.free 5;have f7:=hL5.free 7;have f8:=hL5.free 8;have HL6:Hd (Bk (((w5.setCell ⟨l,5,none⟩ (.int .i64 ot)).setCell ⟨l,7,none⟩ (.int .u32 g1)).setCell ⟨l,8,none⟩ (.int .i64 kn)) l (SX p.B { M with side:=ot,gen:=g1,count:=L.length })):=SM (by rw[Hn.o];exact P4 (P0 (PZ hL5 ot) g1) kn)
  have hkm:=(((Kb.refl (fun b=>b=l) w5).cell1 ⟨l,5,none⟩ (.int .i64 ot) rfl).cell1 ⟨l,7,none⟩ (.int .u32 g1) rfl).cell1 ⟨l,8,none⟩ (.int .i64 kn) rfl;have HN6:=SM (HN5.o.mod hkm HL6.o Hl.o hlw);clear hkm hL5
  go_wp2
  go_ret
  exact⟨⟨0,rfl⟩,HN6.o⟩
end
section
open Go.RowKit Go.ChangeMaps Go.MapKept
open Go.Maps (Keyed)
set_option maxRecDepth 100000 in
theorem Ji:(36:TypeId) < prog.types.size:=of_decide_eq_true kr
theorem KG:laidOutB prog=true:=kr
theorem iD:Keyed prog 36:=Keyed.of_law (deep_law_laid KG (m:=2) om Ji kr kr)
theorem sH{α β:Type}(f:α→Option β):∀ (L:List α),(∀ x ∈ L,∃ y,f x=some y)→∃ ys,L.mapM f=some ys
 | [],_=>⟨[],rfl⟩
 | a :: L,h=>by
  obtain⟨y,hy⟩:=h a (List.mem_cons_self ..);obtain⟨ys,hys⟩:=sH f L (fun x hx=>h x (List.mem_cons_of_mem _ hx));exact⟨y :: ys,by simp[List.mapM_cons,hy,hys]⟩
theorem yG:prog.cellsOf 5=1:=kr
theorem xe:prog.cellsOf 36=32:=kr
theorem Gs:prog.keyType 36=true:=kr
theorem wx:prog.underlying 36=some (.array 32 5):=kr
theorem MM:prog.underlying 5=some (.int .u8):=kr
theorem zn(m:Nat)(c:UInt8):∃ l,prog.keyLits (m+1) 5 [B8 c]=some l:=by
 have:=c.toNat_lt;refine⟨[.int .u8 c.toNat],?_⟩;unfold Program.keyLits;rw[MM];simp[B8,Lit.wf,IntKind.min,IntKind.max,IntKind.signed,IntKind.bits];omega
theorem zm(d:RP):∃ l,keyOf prog 36 (.agg (av d))=some l:=by
 obtain⟨m,hm⟩ : ∃ m,prog.types.size=m+1:=⟨prog.types.size - 1,(Nat.succ_pred_eq_of_pos (Nat.lt_of_le_of_lt (Nat.zero_le _) Ji)).symm⟩;have hf:(Value.agg (av d)).formed prog 36=true:=by
  simp only[Value.formed,wx,xe,cU];rfl
 obtain⟨ys,hys⟩:=sH (fun i=>prog.keyLits (m+1) 5 (((av d).toList.drop (i * 1)).take 1)) (List.range 32) (fun i hi=>by
  have hi2:i < 32:=List.mem_range.1 hi;have e:((av d).toList.drop (i * 1)).take 1=[B8 d[i]]:=by
   have hl:i < (av d).toList.length:=by simpa using hi2
   rw[Nat.mul_one,List.drop_eq_getElem_cons hl];simp[av]
  rw[e];exact zn m _)
 refine⟨.string (keyBytes ys.flatten),?_⟩;unfold keyOf;rw[wx];simp only[Gs,hf,Bool.and_self,if_true,hm];unfold Program.keyLits;rw[wx];simp only[Value.cells,xe,yG];rw[if_pos sm,hys]
 rfl
theorem mw{x y:RP}(h:Value.agg (av x) = .agg (av y)):x=y:=Oe (Value.agg.inj h)
def RN(w:World)(b:Nat)(M:RP→Option Value):Prop :=
 ∃ es clock,w.heap[b]? = some (.map es clock)∧(∀ e ∈ es.toList,∃ a:RP,e.key = .agg (av a)) ∧
  (∀ (i j:Nat) (e f:MapEntry),es.toList[i]? = some e→es.toList[j]? = some f→e.key=f.key→i=j) ∧
  (∀ k v,M k=some v↔∃ e ∈ es.toList,e.key = .agg (av k)∧e.val=v)∧Stamped es clock
theorem RN.lt{w:World}{b:Nat}{M:RP→Option Value}(h:RN w b M):b < w.heap.size:=by
 obtain⟨es,clock,hb,_⟩:=h;exact (Array.getElem?_eq_some_iff.1 hb).1
theorem RN.kept{w w':World}{b:Nat}{M:RP→Option Value}(h:RN w b M)(hb:w'.heap[b]? = w.heap[b]?):RN w' b M:=by
 obtain⟨es,clock,h1,h2⟩:=h;exact⟨es,clock,hb.trans h1,h2⟩
theorem RN.ext{w:World}{b:Nat}{M N:RP→Option Value}(h:RN w b M)(e:∀ k,N k=M k):RN w b N:=by
 have:N=M:=funext e;rw[this];exact h
theorem RN.made(w:World):RN (w.alloc (.map #[] 0)) w.heap.size (fun _=>none):=by
 refine⟨#[],0,by show (w.heap.push _)[w.heap.size]? = _;simp,sm,sm,sm,stamped_empty 0⟩
section
variable {w:World} {b:Nat} {M:RP→Option Value}
theorem RN.find(h:RN w b M){k:RP}: ∃ es clock,w.heap[b]? = some (.map es clock)∧(∀ e ∈ es.toList,∃ a:RP,e.key = .agg (av a)) ∧
  (∀ (i j:Nat) (e f:MapEntry),es.toList[i]? = some e→es.toList[j]? = some f→e.key=f.key→i=j)∧(∀ k v,M k=some v↔∃ e ∈ es.toList,e.key = .agg (av k)∧e.val=v)∧Stamped es clock ∧
  (((Instr.findKey 36 (.agg (av k)) es.toList).run prog w = .ok none w∧(∀ e ∈ es.toList,e.key≠.agg (av k))∧M k=none) ∨
   ∃ j e,(Instr.findKey 36 (.agg (av k)) es.toList).run prog w = .ok (some (j,e.val)) w∧es.toList[j]? = some e∧e.key = .agg (av k)∧M k=some e.val):=by
 obtain⟨es,clock,hb,hks,hun,hM,hst⟩:=h;refine⟨es,clock,hb,hks,hun,hM,hst,?_⟩
 rcases iD.find w (zm k).choose_spec es.toList (fun e he=>by obtain⟨a,e1⟩:=hks e he;exact⟨_,by rw[e1];exact (zm a).choose_spec⟩) with ⟨h1,h2⟩ | ⟨j,e,h1,h2,h3⟩
 ·refine .inl ⟨h1,h2,?_⟩;cases hq:M k with
  | none=>rfl
  | some v=>obtain⟨e,he,hk',_⟩:=(hM k v).1 hq;exact absurd hk' (h2 e he)
 ·exact .inr ⟨j,e,h1,h2,h3,(hM k _).2 ⟨e,List.mem_of_getElem? h2,h3,rfl⟩⟩
theorem RN.look(h:RN w b M){k:RP}{t e:TypeId}(ht:prog.underlying t=some (.map 36 e)){z:Value}(hz:(zeroValue e).run prog w = .ok z w)(c:Bool):
  (Instr.lookup t (.map (some b)) (.agg (av k)) c).run prog w = .ok (if c then .tuple #[(M k).getD z,.bool (M k).isSome] else (M k).getD z) w:=by
 obtain⟨es,clock,hb,_,_,_,_,⟨h1,_,h3⟩ | ⟨j,e0,h1,_,_,h3⟩⟩:=h.find (k:=k)
 ·simp[Instr.lookup,run_underlying ht,MapKept.run_getObj_map hb,iD.check w _ (zm k).choose_spec,h1,hz,h3,Result.andThen]
 ·simp[Instr.lookup,run_underlying ht,MapKept.run_getObj_map hb,iD.check w _ (zm k).choose_spec,h1,h3,Result.andThen]
def AJ(M:RP→Option Value)(k:RP)(v:Option Value):RP→Option Value:=fun j=>if j=k then v else M j
theorem RN.store(h:RN w b M){k:RP}{t e:TypeId}(ht:prog.underlying t=some (.map 36 e))(v:Value):
  ∃ o,(Instr.mapUpdate t (.map (some b)) (.agg (av k)) v).run prog w = .ok () (setBlock w b o)∧RN (setBlock w b o) b (AJ M k (some v)):=by
 obtain⟨es,clock,hb,hks,hun,hM,hst,⟨h1,h2,h3⟩ | ⟨j,e0,h1,h2,h3,h4⟩⟩:=h.find (k:=k)
 ·refine⟨.map (es.push ⟨.agg (av k),v,clock⟩) (clock+1),?_,es.push ⟨.agg (av k),v,clock⟩,clock+1,ek hb _,?_,?_,?_,stamped_push hst (fun x hx=>h2 x hx)⟩
  ·simp[Instr.mapUpdate,run_underlying ht,MapKept.run_getObj_map hb,iD.check w _ (zm k).choose_spec,h1,MapKept.run_setObj_map _ hb,Result.andThen,setBlock]
  ·intro e he;simp only[Array.toList_push,List.mem_append,List.mem_singleton] at he
   rcases he with he | rfl
   ·exact hks e he
   ·exact⟨k,rfl⟩
  ·intro i j e f hi hj hef;simp only[Array.toList_push,List.getElem?_append] at hi hj;have key:∀ (i:Nat) (e:MapEntry),(if i < es.toList.length then es.toList[i]? else [(⟨.agg (av k),v,clock⟩ : MapEntry)][i - es.toList.length]?)=some e→(es.toList[i]? = some e∧e.key≠.agg (av k))∨(i=es.toList.length∧e.key = .agg (av k)):=by
    intro i e hi
    split at hi
    ·exact .inl ⟨hi,h2 e (List.mem_of_getElem? hi)⟩
    ·rename_i hlt
     right
     have hlt2:=(List.getElem?_eq_some_iff.1 hi).1;simp only[List.length_singleton] at hlt2;have e0:i - es.toList.length=0:=om;rw[e0] at hi;simp only[List.getElem?_cons_zero,Option.some.injEq] at hi;exact⟨om,by rw[← hi]⟩
   rcases key i e hi with ⟨a,a'⟩ | ⟨a,a'⟩ <;> rcases key j f hj with ⟨c,c'⟩ | ⟨c,c'⟩
   ·exact hun i j e f a c hef
   ·exact absurd (hef.trans c') a'
   ·exact absurd (hef.symm.trans a') c'
   ·omega
  ·intro x y;simp only[Array.toList_push,List.mem_append,List.mem_singleton];unfold AJ
   by_cases hx:x=k
   ·subst hx;rw[if_pos rfl];constructor
    ·intro e;cases e;exact⟨_,.inr rfl,rfl,rfl⟩
    ·rintro ⟨e,he | rfl,hke,rfl⟩
     ·exact absurd hke (h2 e he)
     ·rfl
   ·rw[if_neg hx,hM];constructor
    ·rintro ⟨e,he,h1,h2⟩;exact⟨e,.inl he,h1,h2⟩
    ·rintro ⟨e,he | rfl,hke,rfl⟩
     ·exact⟨e,he,hke,rfl⟩
     ·replace hke:=mw hke;exact absurd hke.symm hx
 ·have hjl:j < es.toList.length:=(List.getElem?_eq_some_iff.1 h2).1;have hj:es[j]? = some e0:=by simpa using h2
  have hlist:(es.modify j (fun e'=>{ e' with key:=.agg (av k),val:=v })).toList=es.toList.set j { e0 with key:=.agg (av k),val:=v }:=by rw[Array.toList_modify,modify_eq_set _ _ _ _ h2]
  have hget:∀ (i:Nat) (e:MapEntry),(es.toList.set j { e0 with key:=.agg (av k),val:=v })[i]? = some e→∃ f,es.toList[i]? = some f∧e.key=f.key∧(i≠j→e=f):=by
   intro i e hi;rw[List.getElem?_set] at hi
   split at hi
   ·rename_i hij
    subst hij
    first | rw[if_pos hjl] at hi | skip
    cases hi;exact⟨e0,h2,h3.symm,fun h=>absurd rfl h⟩
   ·exact⟨e,hi,rfl,fun _=>rfl⟩
  refine⟨.map (es.modify j (fun e'=>{ e' with key:=.agg (av k),val:=v })) clock,?_,_,clock,ek hb _,?_,?_,?_,stamped_modify hst j _ (fun _ _=>rfl) (fun e he hej=>by rw[hj] at hej;cases hej;exact h3.symm)⟩
  ·simp[Instr.mapUpdate,run_underlying ht,MapKept.run_getObj_map hb,iD.check w _ (zm k).choose_spec,h1,hj,h3,iD.stays w (zm k).choose_spec,MapKept.run_setObj_map _ hb,Result.andThen,setBlock]
  ·intro e he;rw[hlist] at he;obtain⟨i,hi⟩:=List.mem_iff_getElem?.1 he;obtain⟨f,hf,h5,_⟩:=hget i e hi;rw[h5];exact hks f (List.mem_of_getElem? hf)
  ·intro i i' e f hi hi' hef;rw[hlist] at hi hi';obtain⟨g,hg,h5,_⟩:=hget i e hi;obtain⟨g',hg',h6,_⟩:=hget i' f hi';exact hun i i' g g' hg hg' (by rw[← h5,← h6,hef])
  ·intro x y;rw[hlist];unfold AJ
   by_cases hx:x=k
   ·subst hx;rw[if_pos rfl];constructor
    ·intro e;cases e;exact⟨_,List.mem_iff_getElem?.2 ⟨j,List.getElem?_set_self hjl⟩,rfl,rfl⟩
    ·rintro ⟨e,he,hke,rfl⟩;obtain⟨i,hi⟩:=List.mem_iff_getElem?.1 he;obtain⟨f,hf,h5,h6⟩:=hget i e hi;have hij:i=j:=hun i j f e0 hf h2 (by rw[← h5,hke,h3])
     subst hij;rw[List.getElem?_set_self hjl] at hi;cases hi
     rfl
   ·rw[if_neg hx,hM];constructor
    ·rintro ⟨e,he,h1',h2'⟩;obtain⟨i,hi⟩:=List.mem_iff_getElem?.1 he;have hij:j≠i:=by
      rintro rfl;rw[h2] at hi;cases hi;rw[h3] at h1';replace h1':=mw h1';exact hx h1'.symm
     exact⟨e,List.mem_iff_getElem?.2 ⟨i,by rw[List.getElem?_set_ne hij];exact hi⟩,h1',h2'⟩
    ·rintro ⟨e,he,hke,rfl⟩;obtain⟨i,hi⟩:=List.mem_iff_getElem?.1 he;have hij:j≠i:=by
      rintro rfl;rw[List.getElem?_set_self hjl] at hi;cases hi;replace hke:=mw hke;exact hx hke.symm
     rw[List.getElem?_set_ne hij] at hi;exact⟨e,List.mem_of_getElem? hi,hke,rfl⟩
theorem RN.drop(h:RN w b M){k:RP}{t e:TypeId}(ht:prog.underlying t=some (.map 36 e))(ty:TypeId):
  ∃ o,(Builtin.delete_ #[t,36] ty #[.map (some b),.agg (av k)]).run prog w = .ok (.tuple #[]) (setBlock w b o)∧RN (setBlock w b o) b (AJ M k none):=by
 obtain⟨es,clock,hb,hks,hun,hM,hst,⟨h1,h2,h3⟩ | ⟨j,e0,h1,h2,h3,h4⟩⟩:=h.find (k:=k)
 ·refine⟨.map es clock,?_,es,clock,ek hb _,hks,hun,?_,hst⟩
  ·simp[Builtin.delete_,run_underlying ht,MapKept.run_getObj_map hb,iD.check w _ (zm k).choose_spec,h1,MapKept.run_setObj_map _ hb,Result.andThen,setBlock]
  ·intro x y;unfold AJ
   by_cases hx:x=k
   ·subst hx;rw[if_pos rfl,← hM,h3]
   ·rw[if_neg hx];exact hM x y
 ·have hjl:j < es.toList.length:=(List.getElem?_eq_some_iff.1 h2).1;have hjs:j < es.size:=by simpa using hjl
  have hsub:(es.eraseIdxIfInBounds j).toList=es.toList.eraseIdx j:=by
   unfold Array.eraseIdxIfInBounds;rw[dif_pos hjs];simp
  have hget:∀ i,(es.toList.eraseIdx j)[i]? = es.toList[if i < j then i else i+1]?:=by
   intro i;rw[List.getElem?_eraseIdx]
   split <;> rfl
  refine⟨.map (es.eraseIdxIfInBounds j) clock,?_,_,clock,ek hb _,?_,?_,?_,stamped_erase hst j⟩
  ·simp[Builtin.delete_,run_underlying ht,MapKept.run_getObj_map hb,iD.check w _ (zm k).choose_spec,h1,MapKept.run_setObj_map _ hb,Result.andThen,setBlock]
  ·intro e he;rw[hsub] at he;exact hks e ((List.eraseIdx_sublist _ _).subset he)
  ·intro i i' e f hi hi' hef;rw[hsub,hget] at hi hi';have:=hun _ _ e f hi hi' hef
   split at this <;> split at this <;> omega
  ·intro x y;rw[hsub];unfold AJ
   by_cases hx:x=k
   ·subst hx;rw[if_pos rfl];constructor
    ·intro e;cases e
    ·rintro ⟨e,he,hke,_⟩;obtain⟨i,hne,hi⟩:=List.mem_eraseIdx_iff_getElem?.1 he;exact absurd (hun i j e e0 hi h2 (by rw[hke,h3])) hne
   ·rw[if_neg hx,hM];constructor
    ·rintro ⟨e,he,h1',h2'⟩;obtain⟨i,hi⟩:=List.mem_iff_getElem?.1 he;have hij:i≠j:=by
      rintro rfl;rw[h2] at hi;cases hi;rw[h3] at h1';replace h1':=mw h1';exact hx h1'.symm
     exact⟨e,List.mem_eraseIdx_iff_getElem?.2 ⟨i,hij,hi⟩,h1',h2'⟩
    ·rintro ⟨e,he,hke,hv⟩;exact⟨e,(List.eraseIdx_sublist _ _).subset he,hke,hv⟩
end
end
end Go.Proofs.YtlcfaaodmickbaaGreatDoor
