/- Part 13 of the proof: texts merged and shortened by a program. No conditions. -/
import Derived.Test.YtlcfaaodmickbaaGreatDoorPc12
set_option linter.unusedSimpArgs false
set_option linter.unusedVariables false
set_option maxRecDepth 100000
set_option maxHeartbeats 8000000
namespace Go.Proofs.YtlcfaaodmickbaaGreatDoor
open Go.RowKit Go.Proofs.Tryz
section
def eQ(l:List UInt8):Option (List UInt8 × List UInt8) :=
 if 65536 < l.length then none
 else if bS 1 (some l)=65 then
  if bS 1 (aI 1 (some l))=80 then
   if bS 1 (aI 1 (aI 1 (some l)))=1 then
    if fz 2 (fz 2 (aI 1 (aI 1 (aI 1 (some l)))))=some [] then some (fT 2 (aI 1 (aI 1 (aI 1 (some l)))),fT 2 (fz 2 (aI 1 (aI 1 (aI 1 (some l))))))
    else none
   else none
  else none
 else none
def Ke(o:Option (List UInt8 × List UInt8))(base:Nat)(e:Ending)(w':World):Prop :=
 match o with
 | none=>e = .returned (.tuple #[.agg #[.slice none 0 0,.slice none 0 0],.bool false])
 | some (t,a)=>∃ ad c ad2 c2,e = .returned (.tuple #[.agg #[.slice ad t.length c,.slice ad2 a.length c2],.bool true])∧Bs w' ad t.length c t∧Bs w' ad2 a.length c2 a∧(∀ x,ad=some x→base≤x.block)∧∀ x,ad2=some x→base≤x.block
theorem KU:(prog.info? 172).map (·.size)=some 2:=kr
theorem Py:prog.underlying 172=some (.struct (prog.fieldsOf 172)):=kr
theorem jr{w:World}{b:Nat}{x y:Value}(h:P2 w b x y):(loadVar 172 ⟨b,0,none⟩).run prog w = .ok (.agg #[x,y]) w:=az w b 0 2 172 _ _ h.r Py rfl KU
theorem P9{ad:Option Addr}{n c g B:Nat}(h:∀ a,ad=some a→B≤a.block)(hg:(Value.slice ad n c).ownBlock=some g):B≤g:=by
 cases ad with
 | none=>cases hg
 | some a =>
  have:=h a rfl;simp only[Value.ownBlock] at hg;cases hg;exact this
theorem xz(w:World):Calls prog 125 #[] w fun e w'=>e = .returned (.agg #[.int .u8 65,.int .u8 80,.int .u8 1])∧Below w.heap.size w w':=by
 go_in
 go_wp2_with fail
 exact bodyPost_ret (v:=.agg #[.int .u8 65,.int .u8 80,.int .u8 1]) (by simp[results,Tryz.f125,go_sem]) rfl ⟨rfl,ba _ (Below.refl _ _)⟩
theorem vI(a:Addr)(n c:Nat)(l:List UInt8)(w:World)(h:Bs w (some a) n c l)(hn:n≤1000000):
  Calls prog 88 #[.slice (some a) n c] w fun e w'=>Ke (eQ l) w.heap.size e w'∧Below w.heap.size w w':=by
 have H:=SM h;have hlen:=h.1;clear h;obtain⟨R,hR⟩:=eY (eQ l);rw[hR];have HR:=SM hR;clear hR
 by_cases hbig:65536 < n
 ·have hRn:R=none:=by rw[← HR.o];unfold eQ;rw[if_pos om]
  subst hRn;have d1:decide ((65536:Int) < (n:Int))=true:=dt;clear hlen
  go_in
  go_wp2
  refine bodyPost_ret (aD _ _ ⟨w.heap.size,0,none⟩ (.agg #[.slice none 0 0,.slice none 0 0]) (.bool false) rfl rfl rfl (jr (P2.made w _ _ _))) rfl ⟨rfl,ba _ (Below.refl _ _)⟩
 have d1:decide ((65536:Int) < (n:Int))=false:=df;have Hlen:=SM hlen;clear hlen
 go_in
 go_wp2_with fail
 have hRB:=P2.made w 172 (.slice none 0 0) (.slice none 0 0);have hb0:=ba (.cells #[.slice none 0 0,.slice none 0 0] 172) (Sy w);have hs0:(w.alloc (.cells #[.slice none 0 0,.slice none 0 0] 172)).heap.size=w.heap.size+1:=sm;generalize w.alloc (.cells #[.slice none 0 0,.slice none 0 0] 172)=w1 at *;refine (DI a n c l w1 (H.o.below hb0) hn).mono ?_;rintro _ w2 ⟨⟨B,rfl,hr⟩,hb2⟩;generalize hlo:w1.heap.size=lo at *
 generalize hhi:w2.heap.size=hi at *;have hi2:hi≤w2.heap.size:=om;have hRB2:=hRB.below (by rw[hlo];exact hb2)
 have hB2:=bt hb0 (by rw[hlo];exact hb2)
 have hwlo:w.heap.size < lo:=om;have hBlo:lo≤B:=hr.b.1;have hBhi:B < hi:=hr.b.2;have kbw:∀ (A u:World),Below w.heap.size w A→Kb (fun b=>b=B) A u→Below w.heap.size w u:=fun A u hA hk=>hA.trans (hk.below (fun b hb=>by subst hb;omega) hA.size)
 have Kbw:=SM kbw;clear kbw hRB hb0 hs0 hlo hhi
 go_wp2_with fail
 refine (xz w2).mono ?_;rintro _ w3 ⟨rfl,hb3⟩;have HRB3:=SM (hRB2.below hb3);have Hb3:=SM (bt hB2 hb3);have Hr3:=SM (hr.below hb3);have hs3:=hb3.size;clear hRB2 hB2 hr hb2 hb3;have x0:∀ w,(Instr.index 228 (.agg #[.int .u8 65,.int .u8 80,.int .u8 1]) (.int .i64 0)).run prog w = .ok (.int .u8 65) w:=fun _=>kr;have x1:∀ w,(Instr.index 228 (.agg #[.int .u8 65,.int .u8 80,.int .u8 1]) (.int .i64 1)).run prog w = .ok (.int .u8 80) w:=fun _=>kr
 have x2:∀ w,(Instr.index 228 (.agg #[.int .u8 65,.int .u8 80,.int .u8 1]) (.int .i64 2)).run prog w = .ok (.int .u8 1) w:=fun _=>kr;have y0:IntKind.u64.wrap 65=65:=dc;have y1:IntKind.u64.wrap 80=80:=dc;have y2:IntKind.u64.wrap 1=1:=dc
 go_wp2_with fail
 refine wp_loop_rounds 4 ?_;rw[rounds_succ]
 go_wp2_with fail
 refine (dB B lo hi (some l) 1 w3 Hr3.o om om).mono ?_;rintro _ w4 ⟨rfl,hr,hk⟩;have HRB4:=SM (HRB3.o.same (hk.block _ HRB3.o.lt om));have Hb4:=SM (Kbw.o _ _ Hb3.o hk);have Hr4:=SM hr;have hs4:=hk.size;clear hr hk HRB3 Hb3 Hr3
 by_cases h0:bS 1 (some l)=65
 case neg =>
  have hRn:R=none:=by rw[← HR.o];unfold eQ;rw[if_neg (by have:=Hlen.o;omega)];rw[if_neg h0]
  have hne:((bS 1 (some l):Nat):Int)≠65:=om;subst hRn;have f0:=HRB4.o.free 0;have f1:=HRB4.o.free 1;have q0:=HRB4.o.c0;have q1:=HRB4.o.c1;generalize bS 1 (some l)=x at *;have d1:(((x:Nat):Int) != 65)=true:=bne_iff_ne.2 hne;clear h0 hne
  go_wp2
  refine bodyPost_ret (aD _ _ ⟨w.heap.size,0,none⟩ (.agg #[.slice none 0 0,.slice none 0 0]) (.bool false) rfl rfl rfl (jr (HRB4.o.set _ _))) rfl ⟨rfl,(Hb4.o.setCell (p:=⟨w.heap.size,0,none⟩) (Nat.le_refl _) _).setCell (p:=⟨w.heap.size,1,none⟩) (Nat.le_refl _) _⟩
 rw[h0];have H0:=SM h0;clear h0
 go_wp2_with fail
 rw[rounds_succ]
 go_wp2_with fail
 refine (dB B lo hi (aI 1 (some l)) 1 w4 Hr4.o om om).mono ?_;rintro _ w5 ⟨rfl,hr,hk⟩;have HRB5:=SM (HRB4.o.same (hk.block _ HRB4.o.lt om));have Hb5:=SM (Kbw.o _ _ Hb4.o hk);have Hr5:=SM hr;have hs5:=hk.size;clear hr hk HRB4 Hb4 Hr4
 by_cases h1:bS 1 (aI 1 (some l))=80
 case neg =>
  have hRn:R=none:=by rw[← HR.o];unfold eQ;rw[if_neg (by have:=Hlen.o;omega)];rw[if_pos H0.o];rw[if_neg h1]
  have hne:((bS 1 (aI 1 (some l)):Nat):Int)≠80:=om;subst hRn;have f0:=HRB5.o.free 0;have f1:=HRB5.o.free 1;have q0:=HRB5.o.c0;have q1:=HRB5.o.c1;generalize bS 1 (aI 1 (some l))=x at *;have d1:(((x:Nat):Int) != 80)=true:=bne_iff_ne.2 hne;clear h1 hne
  go_wp2
  refine bodyPost_ret (aD _ _ ⟨w.heap.size,0,none⟩ (.agg #[.slice none 0 0,.slice none 0 0]) (.bool false) rfl rfl rfl (jr (HRB5.o.set _ _))) rfl ⟨rfl,(Hb5.o.setCell (p:=⟨w.heap.size,0,none⟩) (Nat.le_refl _) _).setCell (p:=⟨w.heap.size,1,none⟩) (Nat.le_refl _) _⟩
 rw[h1];have H1:=SM h1;clear h1
 go_wp2_with fail
 rw[rounds_succ]
 go_wp2_with fail
 refine (dB B lo hi (aI 1 (aI 1 (some l))) 1 w5 Hr5.o om om).mono ?_;rintro _ w6 ⟨rfl,hr,hk⟩;have HRB6:=SM (HRB5.o.same (hk.block _ HRB5.o.lt om));have Hb6:=SM (Kbw.o _ _ Hb5.o hk);have Hr6:=SM hr;have hs6:=hk.size;clear hr hk HRB5 Hb5 Hr5
 by_cases h2:bS 1 (aI 1 (aI 1 (some l)))=1
 case neg =>
  have hRn:R=none:=by rw[← HR.o];unfold eQ;rw[if_neg (by have:=Hlen.o;omega)];rw[if_pos H0.o];rw[if_pos H1.o];rw[if_neg h2]
  have hne:((bS 1 (aI 1 (aI 1 (some l))):Nat):Int)≠1:=om;subst hRn;have f0:=HRB6.o.free 0;have f1:=HRB6.o.free 1;have q0:=HRB6.o.c0;have q1:=HRB6.o.c1;generalize bS 1 (aI 1 (aI 1 (some l)))=x at *;have d1:(((x:Nat):Int) != 1)=true:=bne_iff_ne.2 hne;clear h2 hne
  go_wp2
  refine bodyPost_ret (aD _ _ ⟨w.heap.size,0,none⟩ (.agg #[.slice none 0 0,.slice none 0 0]) (.bool false) rfl rfl rfl (jr (HRB6.o.set _ _))) rfl ⟨rfl,(Hb6.o.setCell (p:=⟨w.heap.size,0,none⟩) (Nat.le_refl _) _).setCell (p:=⟨w.heap.size,1,none⟩) (Nat.le_refl _) _⟩
 rw[h2];have H2:=SM h2;clear h2
 go_wp2_with fail
 rw[rounds_succ]
 go_wp2_with fail
 refine (jX B lo hi (aI 1 (aI 1 (aI 1 (some l)))) 2 w6 Hr6.o om om).mono ?_;rintro _ w7 ⟨⟨ad,ct,rfl,hT,hTf⟩,hr7,hk7⟩;have HRB7:=SM (HRB6.o.same (hk7.block _ HRB6.o.lt om));have Hb7:=SM (Kbw.o _ _ Hb6.o hk7);have Hr7:=SM hr7;have hs7:=hk7.size;have HT:=SM hT;have HTf:=SM hTf;clear hr7 hk7 hT hTf HRB6 Hb6 Hr6
 go_wp2_with fail
 refine (jX B lo hi (fz 2 (aI 1 (aI 1 (aI 1 (some l))))) 2 w7 Hr7.o om om).mono ?_;rintro _ w8 ⟨⟨ad2,ca,rfl,hA,hAf⟩,hr8,hk8⟩;have HRB8:=SM (HRB7.o.same (hk8.block _ HRB7.o.lt om));have Hb8:=SM (Kbw.o _ _ Hb7.o hk8);have Hr8:=SM hr8;have hs8:=hk8.size;have HT8:=SM (HT.o.kb hk8 (fun g hg e=>by
  have h1:=P9 HTf.o hg;omega))
 have HA:=SM hA;clear hr8 hk8 hA HRB7 Hb7 Hr7
 go_wp2_with fail
 have hb8:=Hb8.o;refine (vA B lo hi (fz 2 (fz 2 (aI 1 (aI 1 (aI 1 (some l)))))) _ (Hr8.o.below (ba _ (Below.refl _ _)))).mono ?_;rintro _ w9 ⟨rfl,rfl⟩
 by_cases hd:fz 2 (fz 2 (aI 1 (aI 1 (aI 1 (some l)))))=some []
 case neg =>
  have hRn:R=none:=by rw[← HR.o];unfold eQ;rw[if_neg (by have:=Hlen.o;omega)];rw[if_pos H0.o];rw[if_pos H1.o];rw[if_pos H2.o];rw[if_neg hd]
  rw[show decide (fz 2 (fz 2 (aI 1 (aI 1 (aI 1 (some l)))))=some [])=false from decide_eq_false hd]
  clear hd;subst hRn;have HRB9:=SM (HRB8.o.below (ba (.cells #[.slice ad (fT 2 (aI 1 (aI 1 (aI 1 (some l))))).length ct,.slice ad2 (fT 2 (fz 2 (aI 1 (aI 1 (aI 1 (some l)))))).length ca] 172) (Below.refl _ _)));have Hb9:=SM (ba (.cells #[.slice ad (fT 2 (aI 1 (aI 1 (aI 1 (some l))))).length ct,.slice ad2 (fT 2 (fz 2 (aI 1 (aI 1 (aI 1 (some l)))))).length ca] 172) hb8);generalize w8.alloc (.cells #[.slice ad (fT 2 (aI 1 (aI 1 (aI 1 (some l))))).length ct,.slice ad2 (fT 2 (fz 2 (aI 1 (aI 1 (aI 1 (some l)))))).length ca] 172)=w9 at *
  clear HT8 HA HT HRB8 Hb8;have f0:=HRB9.o.free 0;have f1:=HRB9.o.free 1;have q0:=HRB9.o.c0;have q1:=HRB9.o.c1
  go_wp2
  refine bodyPost_ret (aD _ _ ⟨w.heap.size,0,none⟩ (.agg #[.slice none 0 0,.slice none 0 0]) (.bool false) rfl rfl rfl (jr (HRB9.o.set _ _))) rfl ⟨rfl,(Hb9.o.setCell (p:=⟨w.heap.size,0,none⟩) (Nat.le_refl _) _).setCell (p:=⟨w.heap.size,1,none⟩) (Nat.le_refl _) _⟩
 have hRn:R=some (fT 2 (aI 1 (aI 1 (aI 1 (some l)))),fT 2 (fz 2 (aI 1 (aI 1 (aI 1 (some l)))))):=by rw[← HR.o];unfold eQ;rw[if_neg (by have:=Hlen.o;omega)];rw[if_pos H0.o];rw[if_pos H1.o];rw[if_pos H2.o];rw[if_pos hd]
 rw[show decide (fz 2 (fz 2 (aI 1 (aI 1 (aI 1 (some l)))))=some [])=true from decide_eq_true hd]
 clear hd;generalize fT 2 (fz 2 (aI 1 (aI 1 (aI 1 (some l)))))=A at *;generalize fT 2 (aI 1 (aI 1 (aI 1 (some l))))=T at *;have HRn:=SM hRn;clear hRn;have hP9:=P2.made w8 172 (.slice ad T.length ct) (.slice ad2 A.length ca);have HRB9:=SM (HRB8.o.below (ba (.cells #[.slice ad T.length ct,.slice ad2 A.length ca] 172) (Below.refl _ _)));have Hb9:=SM (ba (.cells #[.slice ad T.length ct,.slice ad2 A.length ca] 172) hb8)
 have HT9:=SM (HT8.o.below (ba (.cells #[.slice ad T.length ct,.slice ad2 A.length ca] 172) (Below.refl _ _)));have HA9:=SM (HA.o.below (ba (.cells #[.slice ad T.length ct,.slice ad2 A.length ca] 172) (Below.refl _ _)));generalize w8.alloc (.cells #[.slice ad T.length ct,.slice ad2 A.length ca] 172)=w9 at *;clear HT8 HA HT HRB8 Hb8;have f0:=HRB9.o.free 0;have f1:=HRB9.o.free 1;have q0:=HRB9.o.c0;have q1:=HRB9.o.c1
 have p0:=hP9.c0;have p1:=hP9.c1
 go_wp2
 refine bodyPost_ret (aD _ _ ⟨w.heap.size,0,none⟩ (.agg #[.slice ad T.length ct,.slice ad2 A.length ca]) (.bool true) rfl rfl rfl (jr (HRB9.o.set _ _))) rfl ?_;rw[HRn.o];refine⟨⟨ad,ct,ad2,ca,rfl,?_,?_,fun x hx=>by have:=HTf.o x hx;omega,fun x hx=>by have:=hAf x hx;omega⟩,(Hb9.o.setCell (p:=⟨w.heap.size,0,none⟩) (Nat.le_refl _) _).setCell (p:=⟨w.heap.size,1,none⟩) (Nat.le_refl _) _⟩
 ·refine (HT9.o.kb (Kb.mod (X:=fun b=>b=w.heap.size) (A:=w9) ⟨w.heap.size,0,none⟩ (.slice ad T.length ct) rfl) ?_).kb (Kb.mod (X:=fun b=>b=w.heap.size) (A:=w9.setCell ⟨w.heap.size,0,none⟩ (.slice ad T.length ct)) ⟨w.heap.size,1,none⟩ (.slice ad2 A.length ca) rfl) ?_
  all_goals (intro g hg e;have h1:=P9 HTf.o hg;omega)
 ·refine (HA9.o.kb (Kb.mod (X:=fun b=>b=w.heap.size) (A:=w9) ⟨w.heap.size,0,none⟩ (.slice ad T.length ct) rfl) ?_).kb (Kb.mod (X:=fun b=>b=w.heap.size) (A:=w9.setCell ⟨w.heap.size,0,none⟩ (.slice ad T.length ct)) ⟨w.heap.size,1,none⟩ (.slice ad2 A.length ca) rfl) ?_
  all_goals (intro g hg e;have h1:=P9 hAf hg;omega)
theorem zP:eQ []=none:=dc
theorem zZ(w:World):
  Calls prog 88 #[.slice none 0 0] w fun e w'=>Ke (eQ []) w.heap.size e w'∧Below w.heap.size w w':=by
 rw[zP]
 go_in
 go_wp2_with fail
 have hRB:=P2.made w 172 (.slice none 0 0) (.slice none 0 0);have hb0:=ba (.cells #[.slice none 0 0,.slice none 0 0] 172) (Sy w);have hs0:(w.alloc (.cells #[.slice none 0 0,.slice none 0 0] 172)).heap.size=w.heap.size+1:=sm;generalize w.alloc (.cells #[.slice none 0 0,.slice none 0 0] 172)=w1 at *;refine (Lh w1).mono ?_;rintro _ w2 ⟨rfl,hn,hb2⟩;have HRB2:=SM (hRB.below hb2);have Hb2:=SM (bt hb0 hb2)
 have Hn:=SM hn;generalize hlo:w1.heap.size=lo at *;have hwlo:w.heap.size < lo:=om;clear hRB hb0 hn hb2 hs0 hlo
 go_wp2_with fail
 refine (xz w2).mono ?_;rintro _ w3 ⟨rfl,hb3⟩;have HRB3:=SM (HRB2.o.below hb3);have Hb3:=SM (bt Hb2.o hb3);have hlo2:lo < w2.heap.size:=bA Hn.o.1;have Hn3:Hd (Fg w3 lo):=SM ⟨by rw[ay hb3 (bA Hn.o.1)];exact Hn.o.1,by rw[ak hb3 (bA Hn.o.1)];exact Hn.o.2⟩
 clear HRB2 Hb2 Hn hb3 hlo2;have x0:∀ w,(Instr.index 228 (.agg #[.int .u8 65,.int .u8 80,.int .u8 1]) (.int .i64 0)).run prog w = .ok (.int .u8 65) w:=fun _=>kr;have y0:IntKind.u64.wrap 65=65:=dc
 go_wp2_with fail
 refine wp_loop_rounds 4 ?_;rw[rounds_succ]
 go_wp2_with fail
 refine (yl lo w3 Hn3.o).mono ?_;rintro e w4 ⟨he,_,ho⟩;obtain⟨x,hx⟩ : ∃ x:Nat,x=0:=⟨0,rfl⟩;have he':e = .returned (.int .u64 (x:Nat)):=by rw[hx];exact he
 subst he';have d1:(((x:Nat):Int) != 65)=true:=by rw[hx];rfl
 clear he hx;have hk:=ho.kb;have HRB4:=SM (HRB3.o.same (hk.block _ HRB3.o.lt om));have Hb4:=SM (Hb3.o.trans (hk.below (fun b hb=>by subst hb;omega) Hb3.o.size))
 have f0:=HRB4.o.free 0;have f1:=HRB4.o.free 1;have q0:=HRB4.o.c0;have q1:=HRB4.o.c1;clear ho hk HRB3 Hb3 Hn3 y0 x0 hwlo
 go_wp2
 refine bodyPost_ret (aD _ _ ⟨w.heap.size,0,none⟩ (.agg #[.slice none 0 0,.slice none 0 0]) (.bool false) rfl rfl rfl (jr (HRB4.o.set _ _))) rfl ⟨rfl,(Hb4.o.setCell (p:=⟨w.heap.size,0,none⟩) (Nat.le_refl _) _).setCell (p:=⟨w.heap.size,1,none⟩) (Nat.le_refl _) _⟩
theorem vJ(ad:Option Addr)(n c:Nat)(l:List UInt8)(w:World)(h:Bs w ad n c l)(hn:n≤1000000):
  Calls prog 88 #[.slice ad n c] w fun e w'=>Ke (eQ l) w.heap.size e w'∧Below w.heap.size w w':=by
 cases ad with
 | some a=>exact vI a n c l w h hn
 | none =>
  obtain⟨h1,h2,h3,h4,_⟩:=h;obtain rfl:c=0:=h4 rfl;obtain rfl:n=0:=om;obtain rfl:l=[]:=List.eq_nil_of_length_eq_zero h1;exact zZ w
end
section
theorem fL{P:Program}{fn:Func}{p q r:Nat}{T U:TypeId}{tmps:Array Value}{a b:Addr}{v cs ds:Value}{w:World}(h:fn.results=#[.cell p T,.cell q U,.tmp r])(hp:tmps.getD p undef = .pointer (some a))(hq:tmps.getD q undef = .pointer (some b))(hr:tmps.getD r undef=v)(hl:(loadVar T a).run P w = .ok cs w)(hm:(loadVar U b).run P w = .ok ds w):(results fn tmps).run P w = .ok (.tuple #[cs,ds,v]) w:=by
 have hp':tmps[p]?.getD undef = .pointer (some a):=by simpa using hp
 have hq':tmps[q]?.getD undef = .pointer (some b):=by simpa using hq
 have hr':tmps[r]?.getD undef=v:=by simpa using hr
 simp[results,h,hp',hq',hr',asAddr,hl,hm]
theorem ya(k:Nat)(s:RS)(n:Nat)(h:bS k s≤n):(fT k s).length≤n:=by
 unfold fT
 split
 ·split
  ·rw[List.length_take];omega
  ·simp
 ·simp
theorem xK(s:RS):bS 2 s < 65536:=by
 unfold bS;cases s with
 | none=>simp
 | some l =>
  simp only
  split
  ·rename_i h
   have:=Go.Proofs.YtlcfaaodmickbaaGreatDoor.nb_lt (l.take 2);rw[List.length_take,Nat.min_eq_left h] at this
   simpa using this
  ·omega
theorem zO(l t a:List UInt8)(h:eQ l=some (t,a)):t.length≤65536∧a.length≤65536:=by
 unfold eQ at h
 split at h
 ·cases h
 split at h
 ·split at h
  ·split at h
   ·split at h
    ·simp only[Option.some.injEq,Prod.mk.injEq] at h;obtain⟨rfl,rfl⟩:=h;exact⟨ya _ _ _ (by have:=xK (aI 1 (aI 1 (aI 1 (some l))));omega),ya _ _ _ (by have:=xK (fz 2 (aI 1 (aI 1 (aI 1 (some l)))));omega)⟩
    ·cases h
   ·cases h
  ·cases h
 ·cases h
def eC(key:RW)(l:List UInt8):Except Nat (t6 × iq) :=
 match eQ l with
 | none=>.error 1
 | some (t,a)=>match nJ key t with
  | .error c=>.error c
  | .ok (r,ps,st,en,k)=>match mn k a with
   | .error c=>.error c
   | .ok x=>.ok ((r,ps,st,en,k),x)
def pS(o:Except Nat (t6 × iq))(base:Nat)(e:Ending)(w':World):Prop :=
 match o with
 | .error c=>e = .returned (.tuple #[.agg (tv ⟨#[]⟩ none 0 0 0 0 cM),.agg (St ⟨#[]⟩ none 0 0 0 0 0),.int .i64 c])
 | .ok ((r,ps,st,en,k),(r',ps',t,m,q))=>∃ ad c ad2 c2,e = .returned (.tuple #[.agg (tv (aY r) ad ps.length c (st:Nat) (en:Nat) k),.agg (St (aY r') ad2 ps'.length c2 (t:Nat) (m:Nat) (q:Nat)),.int .i64 0])∧aM w' ad ps.length c (ps.map aY)∧(∀ a,ad=some a→base≤a.block)∧aM w' ad2 ps'.length c2 (ps'.map aY)∧∀ a,ad2=some a→base≤a.block
theorem tq(w:World):(Instr.build 99 #[]).run prog w = .ok (.agg (St ⟨#[]⟩ none 0 0 0 0 0)) w:=kr
theorem IG(c:Nat)(h:c≠0):(((c:Nat):Int) != 0)=true:=bne_iff_ne.2 om
theorem iL(c:Int)(w:World):
  Calls prog 87 #[.int .i64 c] w fun e w'=>e = .returned (.tuple #[.agg (tv ⟨#[]⟩ none 0 0 0 0 cM),.agg (St ⟨#[]⟩ none 0 0 0 0 0),.int .i64 c])∧Below w.heap.size w w':=by
 have x0:=tq
 go_in
 go_wp2_with fail
 have hT:=((gS.made w ⟨#[]⟩ none 0 0 0 0 cM).below (ba (.cells (St ⟨#[]⟩ none 0 0 0 0 0) 99) (Below.refl _ _))).all ⟨#[]⟩ none 0 0 0 0 cM;have hA:=(gy.made (w.alloc (.cells (tv ⟨#[]⟩ none 0 0 0 0 cM) 97)) ⟨#[]⟩ none 0 0 0 0 0);rw[show (w.alloc (.cells (tv ⟨#[]⟩ none 0 0 0 0 cM) 97)).heap.size=w.heap.size+1 by simp] at hA
 have hA2:=(hA.apart w.heap.size 0 (tv ⟨#[]⟩ none 0 0 0 0 cM) om).all ⟨#[]⟩ none 0 0 0 0 0;have hT2:=hT.apart (w.heap.size+1) 0 (St ⟨#[]⟩ none 0 0 0 0 0) om;refine bodyPost_ret (fL (r:=4) rfl rfl rfl rfl (dS hT2) (dR hA2)) rfl ⟨rfl,?_⟩;exact aa (aa (ba _ (ba _ (Sy w))) (Nat.le_refl _) _ _) om _ _
theorem pz(key:RW)(l:List UInt8)(c:Nat)(h:nJ key l = .error c):c≠0:=by
 unfold nJ at h
 split at h
 ·cases h;omega
 ·split at h
  ·cases h;omega
  ·cases h
theorem oC(key:RW)(l:List UInt8)(c:Nat)(h:mn key l = .error c):c≠0:=by
 unfold mn at h
 split at h
 ·cases h;omega
 ·split at h
  ·cases h;omega
  ·cases h
theorem MG(w:World)(b:Nat)(r:ByteArray)(ad:Option Addr)(n c:Nat)(s e:Int)(k:RW)(h:gS w b r ad n c s e k):readAt w b 4 16=some (fw B8 k):=by
 rw[aB h.r 4 16 om om,tQ];refine congrArg some ?_
 apply Array.ext'
 simp;exact List.take_of_length_le sm
theorem sV(key:RW)(a:Option Addr)(n c:Nat)(l:List UInt8)(w:World)(hg:GK w)(h:Bs w a n c l)(hm:n≤1000000):
  Calls prog 60 #[.agg (fw B8 key),.slice a n c] w fun e w'=>pS (eC key l) w.heap.size e w'∧Below w.heap.size w w':=by
 have H:=SM h;have HG:=SM hg;clear h hg;obtain⟨R,hR⟩:=eY (eC key l);rw[hR];have HR:=SM hR;clear hR
 go_in
 go_wp2_with fail
 have hK:=Row.made (f:=B8) w 22 key;have hT:=gS.made (w.alloc (.cells (fw B8 key) 22)) ⟨#[]⟩ none 0 0 0 0 cM;rw[show (w.alloc (.cells (fw B8 key) 22)).heap.size=w.heap.size+1 by simp] at hT
 have hA:=gy.made ((w.alloc (.cells (fw B8 key) 22)).alloc (.cells (tv ⟨#[]⟩ none 0 0 0 0 cM) 97)) ⟨#[]⟩ none 0 0 0 0 0;rw[show ((w.alloc (.cells (fw B8 key) 22)).alloc (.cells (tv ⟨#[]⟩ none 0 0 0 0 cM) 97)).heap.size=w.heap.size+1+1 by simp] at hA
 have hK1:=(hK.below (ba (.cells (tv ⟨#[]⟩ none 0 0 0 0 cM) 97) (Below.refl _ _))).below (ba (.cells (St ⟨#[]⟩ none 0 0 0 0 0) 99) (Below.refl _ _));have hT1:=hT.below (ba (.cells (St ⟨#[]⟩ none 0 0 0 0 0) 99) (Below.refl _ _));have hb0:=ba (.cells (St ⟨#[]⟩ none 0 0 0 0 0) 99) (ba (.cells (tv ⟨#[]⟩ none 0 0 0 0 cM) 97) (ba (.cells (fw B8 key) 22) (Sy w)));have hs0:(((w.alloc (.cells (fw B8 key) 22)).alloc (.cells (tv ⟨#[]⟩ none 0 0 0 0 cM) 97)).alloc (.cells (St ⟨#[]⟩ none 0 0 0 0 0) 99)).heap.size=w.heap.size+3:=sm
 generalize (((w.alloc (.cells (fw B8 key) 22)).alloc (.cells (tv ⟨#[]⟩ none 0 0 0 0 cM) 97)).alloc (.cells (St ⟨#[]⟩ none 0 0 0 0 0) 99))=w1 at *;clear hK hT;refine (vJ a n c l w1 (H.o.below hb0) hm).mono ?_;rintro e w2 ⟨hq,hb2⟩;have HK:=SM (hK1.below hb2);have HT:=SM (hT1.below hb2);have HA:=SM (hA.below hb2);have Hb:=SM (bt hb0 hb2);have hs2:=hb2.size;have HG2:=SM (HG.o.below HG.o.1 Hb.o);clear hK1 hT1 hA hb0 hb2 H HG
 cases hp:eQ l with
 | none =>
  rw[hp] at hq;have he:e = .returned (.tuple #[.agg #[.slice none 0 0,.slice none 0 0],.bool false]):=hq;subst he;have hRn:R = .error 1:=by rw[← HR.o];unfold eC;rw[hp]
  subst hRn;clear hq hp;have hb3:=ba (.cells #[.slice none 0 0,.slice none 0 0] 172) (Sy w2);have HT3:=SM (HT.o.below hb3);have HA3:=SM (HA.o.below hb3);have Hb3:=SM (bt Hb.o hb3);clear HT HA Hb HK
  go_wp2_with fail
  refine (iL 1 _).mono ?_;rintro _ w4 ⟨rfl,hb4⟩;have HT4:=SM (HT3.o.below hb4);have HA4:=SM (HA3.o.below hb4);have Hb4:=SM (bt Hb3.o hb4);clear HT3 HA3 Hb3 hb3 hb4;have q1:=HT4.o.k;have q2:=HA4.o.k
  go_wp2_with fail
  have hT5:=(HT4.o.all ⟨#[]⟩ none 0 0 0 0 cM).apart (w.heap.size+1+1) 0 (St ⟨#[]⟩ none 0 0 0 0 0) om;have hA5:=(HA4.o.apart (w.heap.size+1) 0 (tv ⟨#[]⟩ none 0 0 0 0 cM) om).all ⟨#[]⟩ none 0 0 0 0 0;refine bodyPost_ret (fL (r:=6) rfl rfl rfl rfl (dS hT5) (dR hA5)) rfl ⟨rfl,aa (aa Hb4.o om _ _) om _ _⟩
 | some ta =>
  obtain⟨t,at_⟩:=ta;rw[hp] at hq;obtain⟨ad,ct,ad2,ct2,rfl,hBt,hBa,hBtf,hBaf⟩ : ∃ ad c ad2 c2,e = .returned (.tuple #[.agg #[.slice ad t.length c,.slice ad2 at_.length c2],.bool true])∧Bs w2 ad t.length c t∧Bs w2 ad2 at_.length c2 at_∧(∀ x,ad=some x→w1.heap.size≤x.block)∧∀ x,ad2=some x→w1.heap.size≤x.block:=hq;have HBaf:=SM hBaf;clear hBaf hBtf;have Hlen:=SM (zO _ _ _ hp);have Hp:=SM hp;clear hp;obtain⟨tn,htn⟩ : ∃ m,t.length=m:=⟨_,rfl⟩
  obtain⟨an,han⟩ : ∃ m,at_.length=m:=⟨_,rfl⟩;rw[htn,han] at Hlen;rw[htn] at hBt;rw[han] at hBa;rw[htn,han];clear htn han;have hP3:=P2.made w2 172 (.slice ad tn ct) (.slice ad2 an ct2);have hb3:=ba (.cells #[.slice ad tn ct,.slice ad2 an ct2] 172) (Sy w2);have HK3:=SM (HK.o.below hb3);have HT3:=SM (HT.o.below hb3);have HA3:=SM (HA.o.below hb3);have Hb3:=SM (bt Hb.o hb3);have HG3:=SM (HG2.o.below HG2.o.1 hb3)
  have HBt:=SM (hBt.below hb3);have HBa:=SM (hBa.below hb3);have hs3:(w2.alloc (.cells #[.slice ad tn ct,.slice ad2 an ct2] 172)).heap.size=w2.heap.size+1:=sm;clear hBt hBa HT HA Hb HK HG2;generalize hw3:w2.alloc (.cells #[.slice ad tn ct,.slice ad2 an ct2] 172)=w3 at *;have q0:=hP3.c0;have q1:=hP3.c1;have qk:=HK3.o.r
  go_wp2_with fail
  clear hw3 hb3;refine (EC key ad tn ct t w3 HG3.o HBt.o (by have:=Hlen.o.1;omega)).mono ?_
  rintro e w4 ⟨hto,hb4⟩;have HT4:=SM (HT3.o.below hb4);have HA4:=SM (HA3.o.below hb4);have Hb4:=SM (bt Hb3.o hb4);have HG4:=SM (HG3.o.below HG3.o.1 hb4);have HBa4:=SM (HBa.o.below hb4);have HP4:=SM (hP3.below hb4);have hs4:=hb4.size;clear HT3 HA3 Hb3 HG3 HBa HBt hP3 q0 q1 qk HK3;have qT:=HT4.o.k;cases ho:nJ key t with
  | error cd =>
   rw[ho] at hto;have he:e = .returned (.tuple #[.agg (tv ⟨#[]⟩ none 0 0 0 0 cM),.int .i64 cd]):=hto;subst he;have hRn:R = .error cd:=by rw[← HR.o];unfold eC;rw[Hp.o];simp only;rw[ho]
   have hne:=IG cd (pz _ _ _ ho);subst hRn;clear hto ho
   go_wp2_with fail
   have HT5:=SM (HT4.o.all ⟨#[]⟩ none 0 0 0 0 cM);have HA5:=SM (HA4.o.apart (w.heap.size+1) 0 (tv ⟨#[]⟩ none 0 0 0 0 cM) om);have Hb5:=SM (aa Hb4.o (b:=w.heap.size+1) om 0 (tv ⟨#[]⟩ none 0 0 0 0 cM));clear HT4 HA4 Hb4 qT hb4;generalize setAt w4 (w.heap.size+1) 0 (tv ⟨#[]⟩ none 0 0 0 0 cM)=w5 at *;refine (iL cd w5).mono ?_;rintro _ w6 ⟨rfl,hb6⟩;have HT6:=SM (HT5.o.below hb6);have HA6:=SM (HA5.o.below hb6)
   have Hb6:=SM (bt Hb5.o hb6);clear HT5 HA5 Hb5 hb6;have q1:=HT6.o.k;have q2:=HA6.o.k
   go_wp2_with fail
   have hT5:=(HT6.o.all ⟨#[]⟩ none 0 0 0 0 cM).apart (w.heap.size+1+1) 0 (St ⟨#[]⟩ none 0 0 0 0 0) om;have hA5:=(HA6.o.apart (w.heap.size+1) 0 (tv ⟨#[]⟩ none 0 0 0 0 cM) om).all ⟨#[]⟩ none 0 0 0 0 0;refine bodyPost_ret (fL (r:=6) rfl rfl rfl rfl (dS hT5) (dR hA5)) rfl ⟨rfl,aa (aa Hb6.o om _ _) om _ _⟩
  | ok tk =>
   obtain⟨r,ps,st,en,k⟩:=tk;rw[ho] at hto;obtain⟨ad3,c3,rfl,hS,hadr⟩ : ∃ ad c,e = .returned (.tuple #[.agg (tv (aY r) ad ps.length c (st:Nat) (en:Nat) k),.int .i64 0])∧aM w4 ad ps.length c (ps.map aY)∧∀ a,ad=some a→w3.heap.size≤a.block:=hto;have Ho:=SM ho;clear ho;have HT5:=SM (HT4.o.all (aY r) ad3 ps.length c3 (st:Nat) (en:Nat) k);have HA5:=SM (HA4.o.apart (w.heap.size+1) 0 (tv (aY r) ad3 ps.length c3 (st:Nat) (en:Nat) k) om)
   have Hk5:=SM (Kb.refl (fun b=>b=w.heap.size+1) w4 |>.at1 (w.heap.size+1) 0 (tv (aY r) ad3 ps.length c3 (st:Nat) (en:Nat) k) rfl)
   have Hb5:=SM (aa Hb4.o (b:=w.heap.size+1) om 0 (tv (aY r) ad3 ps.length c3 (st:Nat) (en:Nat) k));have Hbw:=SM (aa (Below.refl 0 w4) (b:=w.heap.size+1) om 0 (tv (aY r) ad3 ps.length c3 (st:Nat) (en:Nat) k));have HP5:=SM (HP4.o.same (aw w4 (w.heap.size+1) 0 (tv (aY r) ad3 ps.length c3 (st:Nat) (en:Nat) k) w2.heap.size om));have HS5:=SM (hS.kb (X:=fun b=>b=w.heap.size+1) Hk5.o (fun a ha e=>by have:=hadr a ha;omega))
   have qk:=MG _ _ _ _ _ _ _ _ _ HT5.o;have q0:=HP5.o.c0;have q1:=HP5.o.c1
   go_wp2_with fail
   have HBa5:=SM (HBa4.o.kb (X:=fun b=>b=w.heap.size+1) Hk5.o (fun g hg e=>by have:=P9 HBaf.o hg;omega))
   have HG5:=SM (HG4.o.kb (X:=fun b=>b=w.heap.size+1) Hk5.o om);have hs5:=Hk5.o.size;have Had:=SM hadr;clear HT4 HA4 Hb4 qT hb4 Hk5 HP4 HG4 HBa4 hS hadr HBaf;generalize setAt w4 (w.heap.size+1) 0 (tv (aY r) ad3 ps.length c3 (st:Nat) (en:Nat) k)=w5 at *;refine (Bm k ad2 an ct2 at_ w5 HG5.o HBa5.o (by have:=Hlen.o.2;omega)).mono ?_
   rintro e w6 ⟨hao,hb6⟩;have HT6:=SM (HT5.o.below hb6);have HA6:=SM (HA5.o.below hb6);have HS6:=SM (HS5.o.below hb6);have Hb6:=SM (bt Hb5.o hb6);have hs6:=hb6.size;have qA:=HA6.o.k;clear HT5 HA5 Hb5 HG5 HBa5 HP5 HS5 q0 q1 qk;cases ha:mn k at_ with
   | error cd =>
    rw[ha] at hao;have he:e = .returned (.tuple #[.agg (St ⟨#[]⟩ none 0 0 0 0 0),.int .i64 cd]):=hao;subst he;have hRn:R = .error cd:=by rw[← HR.o];unfold eC;rw[Hp.o];simp only;rw[Ho.o];simp only;rw[ha]
    have hne:=IG cd (oC _ _ _ ha);subst hRn;clear hao ha
    go_wp2_with fail
    have HA7:=SM (HA6.o.all ⟨#[]⟩ none 0 0 0 0 0);have HT7:=SM (HT6.o.apart (w.heap.size+1+1) 0 (St ⟨#[]⟩ none 0 0 0 0 0) om);have Hb7:=SM (aa Hb6.o (b:=w.heap.size+1+1) om 0 (St ⟨#[]⟩ none 0 0 0 0 0));clear HT6 HA6 Hb6 qA hb6;generalize setAt w6 (w.heap.size+1+1) 0 (St ⟨#[]⟩ none 0 0 0 0 0)=w7 at *;refine (iL cd w7).mono ?_;rintro _ w8 ⟨rfl,hb8⟩;have HT8:=SM (HT7.o.below hb8);have HA8:=SM (HA7.o.below hb8)
    have Hb8:=SM (bt Hb7.o hb8);clear HT7 HA7 Hb7 hb8;have q1:=HT8.o.k;have q2:=HA8.o.k
    go_wp2_with fail
    have hT5:=(HT8.o.all ⟨#[]⟩ none 0 0 0 0 cM).apart (w.heap.size+1+1) 0 (St ⟨#[]⟩ none 0 0 0 0 0) om;have hA5:=(HA8.o.apart (w.heap.size+1) 0 (tv ⟨#[]⟩ none 0 0 0 0 cM) om).all ⟨#[]⟩ none 0 0 0 0 0;refine bodyPost_ret (fL (r:=6) rfl rfl rfl rfl (dS hT5) (dR hA5)) rfl ⟨rfl,aa (aa Hb8.o om _ _) om _ _⟩
   | ok x =>
    obtain⟨r',ps',t',m',q'⟩:=x;rw[ha] at hao;obtain⟨ad4,c4,rfl,hS4,hadr4⟩ : ∃ ad c,e = .returned (.tuple #[.agg (St (aY r') ad ps'.length c (t':Nat) (m':Nat) (q':Nat)),.int .i64 0])∧aM w6 ad ps'.length c (ps'.map aY)∧∀ a,ad=some a→w5.heap.size≤a.block:=hao;have Ha:=SM ha;clear ha;have HA7:=SM (HA6.o.all (aY r') ad4 ps'.length c4 (t':Nat) (m':Nat) (q':Nat));have HT7:=SM (HT6.o.apart (w.heap.size+1+1) 0 (St (aY r') ad4 ps'.length c4 (t':Nat) (m':Nat) (q':Nat)) om)
    have Hb7:=SM (aa Hb6.o (b:=w.heap.size+1+1) om 0 (St (aY r') ad4 ps'.length c4 (t':Nat) (m':Nat) (q':Nat)));have Hk7:=SM (Kb.refl (fun b=>b=w.heap.size+1+1) w6 |>.at1 (w.heap.size+1+1) 0 (St (aY r') ad4 ps'.length c4 (t':Nat) (m':Nat) (q':Nat)) rfl)
    have HS7:=SM (HS6.o.kb (X:=fun b=>b=w.heap.size+1+1) Hk7.o (fun a ha e=>by have:=Had.o a ha;omega))
    have HS47:=SM (hS4.kb (X:=fun b=>b=w.heap.size+1+1) Hk7.o (fun a ha e=>by have:=hadr4 a ha;omega))
    have Had4:=SM hadr4;clear hadr4 hS4;have qT:=HT7.o.r;have qA':=HA7.o.r;have qTk:=HT7.o.k;have qAk:=HA7.o.k
    go_wp2_with fail
    clear HT6 HA6 Hb6 qA hb6 HS6 Hk7;generalize setAt w6 (w.heap.size+1+1) 0 (St (aY r') ad4 ps'.length c4 (t':Nat) (m':Nat) (q':Nat))=w7 at *;refine yW (tk 0 2 (.run 2 (.run 3 (.take 4 .done)))) (fun u=>gS u (w.heap.size+1) (aY r) ad3 ps.length c3 (st:Nat) (en:Nat) k∧gy u (w.heap.size+1+1) (aY r') ad4 ps'.length c4 (t':Nat) (m':Nat) (q':Nat)) ⟨HT7.o.drew,HA7.o.drew⟩ ?_;replace HT7:=SM HT7.o.drew;replace HA7:=SM HA7.o.drew
    replace Hb7:=SM Hb7.o.drew;replace HS7:=SM (HS7.o.same (w':=w7.drew) (fun _ _=>rfl));replace HS47:=SM (HS47.o.same (w':=w7.drew) (fun _ _=>rfl));generalize w7.drew=w8 at *;clear qT qA' qTk qAk
    repeat((first|refine yO ?_|refine yM ?_|refine yF rfl rfl (fun w' hC'=>by have q0:=hC'.1.r;have q1:=hC'.2.r;go_simp;first|done|exact rfl) ?_);walk_nrm)
    refine dd rfl rfl (fun K hK=>?_);have qk:=HT7.o.k;go_simp;have hT8:=HT7.o.all (aY r) ad3 ps.length c3 (st:Nat) (en:Nat) k;have hA8:=HA7.o.apart (w.heap.size+1) 0 (tv (aY r) ad3 ps.length c3 (st:Nat) (en:Nat) k) om;have Hk8:=(Kb.refl (fun b=>b=w.heap.size+1) w8).at1 (w.heap.size+1) 0 (tv (aY r) ad3 ps.length c3 (st:Nat) (en:Nat) k) rfl;have hS8:=HS7.o.kb Hk8 (fun a ha e=>by have:=Had.o a ha;omega)
    have hS48:=HS47.o.kb Hk8 (fun a ha e=>by have:=Had4.o a ha;omega)
    have hb8:=aa Hb7.o (b:=w.heap.size+1) om 0 (tv (aY r) ad3 ps.length c3 (st:Nat) (en:Nat) k);refine hK _ _ (fun u=>gS u (w.heap.size+1) (aY r) ad3 ps.length c3 (st:Nat) (en:Nat) k∧gy u (w.heap.size+1+1) (aY r') ad4 ps'.length c4 (t':Nat) (m':Nat) (q':Nat)) (fun _ h=>h) ⟨hT8,hA8⟩ ?_;clear hK HT7 HA7 HS7 HS47 Hb7 qk Hk8;generalize setAt w8 (w.heap.size+1) 0 (tv (aY r) ad3 ps.length c3 (st:Nat) (en:Nat) k)=w9 at *
    refine dd rfl rfl (fun K hK=>?_);have qk:=hA8.k;go_simp;have hA9:=hA8.all (aY r') ad4 ps'.length c4 (t':Nat) (m':Nat) (q':Nat);have hT9:=hT8.apart (w.heap.size+1+1) 0 (St (aY r') ad4 ps'.length c4 (t':Nat) (m':Nat) (q':Nat)) om;have Hk9:=(Kb.refl (fun b=>b=w.heap.size+1+1) w9).at1 (w.heap.size+1+1) 0 (St (aY r') ad4 ps'.length c4 (t':Nat) (m':Nat) (q':Nat)) rfl;have hS9:=hS8.kb Hk9 (fun a ha e=>by have:=Had.o a ha;omega)
    have hS49:=hS48.kb Hk9 (fun a ha e=>by have:=Had4.o a ha;omega)
    have hb9:=aa hb8 (b:=w.heap.size+1+1) om 0 (St (aY r') ad4 ps'.length c4 (t':Nat) (m':Nat) (q':Nat));refine hK _ _ (fun u=>gS u (w.heap.size+1) (aY r) ad3 ps.length c3 (st:Nat) (en:Nat) k∧gy u (w.heap.size+1+1) (aY r') ad4 ps'.length c4 (t':Nat) (m':Nat) (q':Nat)) (fun _ h=>h) ⟨hT9,hA9⟩ ?_;clear hK hT8 hA8 hS8 hS48 hb8 qk Hk9;generalize setAt w9 (w.heap.size+1+1) 0 (St (aY r') ad4 ps'.length c4 (t':Nat) (m':Nat) (q':Nat))=w10 at *
    repeat(refine yA ?_;walk_nrm)
    refine al ?_;have HX:=SM (And.intro hT9 (And.intro hA9 (And.intro hS9 (And.intro hS49 hb9))));clear hT9 hA9 hS9 hS49 hb9
    go_wp2_with fail
    have hRn:R = .ok ((r,ps,st,en,k),(r',ps',t',m',q')):=by rw[← HR.o];unfold eC;rw[Hp.o];simp only;rw[Ho.o];simp only;rw[Ha.o]
    refine bodyPost_ret (fL (r:=6) rfl rfl rfl rfl (dS HX.o.1) (dR HX.o.2.1)) rfl ⟨?_,HX.o.2.2.2.2⟩;rw[hRn];exact⟨ad3,c3,ad4,c4,rfl,HX.o.2.2.1,fun a ha=>by have:=Had.o a ha;omega,HX.o.2.2.2.1,fun a ha=>by have:=Had4.o a ha;omega⟩
end
section
def el(r:ByteArray)(L:List ByteArray):Bool:=db r.data.toList && decide (1≤L.length) && decide (L.length≤8) && L.all fun x=>db x.data.toList
theorem N4{α:Type}(L:List α)(f:α→Bool)(i:Nat)(hi:i < L.length)(h:f L[i]=false):L.all f=false:=by
 rw[Bool.eq_false_iff];intro e;have:=List.all_eq_true.1 e L[i] (List.getElem_mem hi);rw[h] at this;cases this
theorem Kl{α:Type}(L:List α)(f:α→Bool)(n:Nat)(hn:L.length=n)(h:∀ i (hi:i < L.length),i < n→f L[i]=true):L.all f=true:=by
 rw[List.all_eq_true];intro x hx;obtain⟨i,hi,rfl⟩:=List.getElem_of_mem hx;exact h i hi om
theorem xx{α:Type}(L:List α)(i:Nat)(d:α)(hi:i < L.length):L.getD i d=L[i]:=by simp[List.getD,hi]
theorem oX(r:ByteArray)(ad:Option Addr)(n c:Nat)(L:List ByteArray)(w:World)(h:aM w ad n c L):
  Calls prog 188 #[.agg #[.string r,.slice ad n c]] w fun e w'=>e = .returned (.bool (el r L))∧Below w.heap.size w w':=by
 have hmx:=h.max;have H:=SM h;have HL:=SM h.1;obtain⟨R,hR⟩:=eY (el r L);rw[hR];have HR:=SM hR;clear h hR;have hp:=P2.made w 95 (.string r) (.slice ad n c);have hb0:=ba (.cells #[.string r,.slice ad n c] 95) (Sy w)
 go_in
 go_wp2_with fail
 generalize w.alloc (.cells #[.string r,.slice ad n c] 95)=w0 at *;refine (lW r w0).mono ?_;rintro _ w1 ⟨rfl,hb1⟩;have HP:=SM (hp.below hb1);have HB:=SM (bt hb0 hb1);clear hp hb0 hb1;have q0:=HP.o.c0;have q1:=HP.o.c1;have no:el r L=false→R=false:=fun h=>by rw[← HR.o,h]
 have No:=SM no;clear no;cases hw:db r.data.toList with
 | false =>
  have hRn:=No.o (by unfold el;rw[hw];rfl)
  subst hRn;clear hw
  go_wp2
  go_ret
  exact⟨rfl,HB.o⟩
 | true =>
  have Hw:=SM hw;clear hw
  by_cases h1:n < 1
  ·have d1:decide ((n:Int) < 1)=true:=dt;have hRn:=No.o (by unfold el;rw[HL.o,show decide (1≤n)=false from df];simp)
   subst hRn;clear h1
   go_wp2
   go_ret
   exact⟨rfl,HB.o⟩
  have d1:decide ((n:Int) < 1)=false:=df
  by_cases h2:8 < n
  ·have d2:decide ((8:Int) < (n:Int))=true:=dt;have hRn:=No.o (by unfold el;rw[HL.o,show decide (n≤8)=false from df];simp)
   subst hRn;clear h1 h2
   go_wp2
   go_ret
   exact⟨rfl,HB.o⟩
  have d2:decide ((8:Int) < (n:Int))=false:=df;have H1:=SM h1;have H2:=SM h2;clear h1 h2
  go_wp2_with fail
  clear q0 q1
  go_loopw [24] (fun i wr=>∃ k:Nat,k≤n∧i = .int .i64 k∧Hd (∀ j (hj:j < L.length),j < k→db L[j].data.toList=true)∧Below w1.heap.size w1 wr) (fun i _=>n - (intOf i).toNat)
  case atStart=>exact⟨0,Nat.zero_le _,rfl,fun j _ hj=>absurd hj om,Below.refl _ _⟩
  case round =>
   obtain⟨k,hk,rfl,hyes,hbw⟩:=hrel;have Hbw:=SM hbw;clear hbw
   by_cases hlt:k < n
   ·obtain⟨b1,o1,rfl,q⟩:=(H.o.below (bt HB.o Hbw.o)).at k hlt;have hx:=xx L k ByteArray.empty (by rw[HL.o];exact hlt)
    rw[hx] at q;clear hx;obtain⟨x,hx⟩:=eY (L[k]'(by rw[HL.o];exact hlt))
    rw[hx] at q;have Hx:=SM hx;clear hx
    go_wp2_with fail
    refine (lW x wr).mono ?_;rintro _ w2 ⟨rfl,hb2⟩;have Hb2:=SM (bt Hbw.o hb2);clear hb2 q;cases hw:db x.data.toList with
    | false =>
     have hRn:=No.o (by unfold el;rw[N4 L (fun x=>db x.data.toList) k (by rw[HL.o];exact hlt) (by rw[Hx.o];exact hw)];simp)
     subst hRn;clear hw
     go_wp2
     go_ret
     exact⟨rfl,bt HB.o Hb2.o⟩
    | true =>
     have Hw2:=SM hw;clear hw
     go_wp2
     go_roundw
     case rel=>exact⟨k+1,om,by go_num,fun j hj hj2=>by
      rcases Nat.lt_or_eq_of_le (Nat.lt_succ_iff.1 hj2) with h | h
      ·exact hyes.o j hj h
      ·subst h;rw[Hx.o];exact Hw2.o,Hb2.o⟩
     case measure=>simp[intOf];omega
   ·obtain rfl:k=n:=om;have hRn:R=true:=by
     rw[← HR.o];unfold el;rw[Hw.o,HL.o,Kl L _ k HL.o hyes.o];rw[show decide (1≤k)=true from decide_eq_true (by have:=H1.o;omega),show decide (k≤8)=true from decide_eq_true (by have:=H2.o;omega)];rfl
    subst hRn
    go_wp2
    go_ret
    exact⟨rfl,bt HB.o Hbw.o⟩
end
section
def gi(k:Nat)(l:List UInt8):List UInt8:=be k l.length ++ l
theorem nR(k:Nat)(ad:Option Addr)(n c:Nat)(l:List UInt8)(w:World)(h:Bs w ad n c l)(hk1:1≤k)(hk8:k≤8)(hn:n < 256 ^ k)(hm:n≤1000000):
  Calls prog 189 #[.int .i64 k,.slice ad n c] w fun e w'=>(∃ v,e = .returned (.tuple #[v,.bool true])∧dJ v∧ao w' w.heap.size v (gi k l))∧Below w.heap.size w w':=by
 have H:=SM h;have HL:=SM h.1;clear h;have wr1:IntKind.u64.wrap (n:Int)=n:=wu
 go_in
 go_wp2_with fail
 refine (ii k n w hk1 hk8 hn om).mono ?_;rintro _ w1 ⟨⟨B,hB,rfl,hb⟩,hbw⟩;have HBw:=SM hbw;have Hb:=SM hb;clear hbw hb
 go_wp2_with fail
 have hr:readAt (w1.alloc (.cells #[.slice (some ⟨B,0,none⟩) k k,.slice ad n c] 39)) w1.heap.size 0 2=some #[.slice (some ⟨B,0,none⟩) k k,.slice ad n c]:=by simp[go_sem]
 have hb2:=ba (.cells #[.slice (some ⟨B,0,none⟩) k k,.slice ad n c] 39) (Sy w1);generalize w1.alloc (.cells #[.slice (some ⟨B,0,none⟩) k k,.slice ad n c] 39)=w2 at *;have hps:=Ps.two hr (Hb.o.below hb2) (H.o.below (bt HBw.o hb2));have hfl : [be k n,l].flatten=gi k l:=by simp[gi,HL.o]
 refine (jL _ 2 2 _ w2 hps (by rw[hfl];simp[gi,be];have:=HL.o;omega)).mono ?_
 rintro _ w3 ⟨⟨v,rfl,hnn,ho⟩,hb3⟩;rw[hfl] at ho;have HX:=SM (And.intro hnn (And.intro (show ao w3 w.heap.size v (gi k l) from bj ho (bt HBw.o hb2).size) (bt (bt HBw.o hb2) hb3)))
 clear hnn ho hb3 hps hr hb2
 go_wp2
 go_ret2
 exact⟨⟨v,rfl,HX.o.1,HX.o.2.1⟩,HX.o.2.2⟩
end
section
open Go.RowKit Go.ChangeMaps
theorem ao.wider'{w:World}{B B':Nat}{v:Value}{l:List UInt8}(h:ao w B v l)(hB:B'≤B):ao w B' v l:=by
 refine⟨h.1,?_⟩
 rcases h.2 with hn | ⟨g,cap,cur,hv,hbg,rest⟩
 ·exact .inl hn
 ·exact .inr ⟨g,cap,cur,hv,Nat.le_trans hB hbg,rest⟩
theorem Kq(k x:Nat):be (k+1) x=UInt8.ofNat (x / 256 ^ k) :: be k x:=by
 apply List.ext_getElem
 ·simp
 ·intro i h1 h2;cases i with
  | zero=>simp[be]
  | succ i =>
   simp only[List.getElem_cons_succ,be,List.getElem_map,List.getElem_range];rw[show k+1 - 1 - (i+1)=k - 1 - i by omega]
theorem iP(k x:Nat)(w:World)(hk1:1≤k)(hk8:k≤8)(hx:x < 256 ^ k)(hx64:x < 18446744073709551616):
  Calls prog 106 #[.int .i64 k,.int .u64 x] w fun e w'=>(∃ v,e = .returned (.tuple #[v,.bool true])∧ao w' w.heap.size v (be k x))∧Below w.heap.size w w':=by
 have d1:decide ((k:Int) < 1)=false:=df;have d2:decide ((k:Int) > 8)=false:=df;have d3:decide ((8:Int) < (k:Int))=false:=df;have hx0:x / 256 ^ k=0:=Nat.div_eq_of_lt hx
 go_in
 go_wp2_with fail
 clear d1 d2 d3
 go_loopw [1,6,7] (fun y v i wr=>∃ j:Nat,j≤k∧i = .int .i64 j∧y = .int .u64 ((x / 256 ^ j:Nat):Int)∧ao wr w.heap.size v (be j x)∧Below w.heap.size w wr) (fun _ _ i _=>k - (intOf i).toNat)
 case atStart=>exact⟨0,om,rfl,sm,ao.nil _ _,Below.refl _ _⟩
 case round =>
  obtain⟨j,hj,rfl,rfl,ho,hb⟩:=hrel;obtain⟨ad,c,rfl⟩:=ho.len;have HO:=SM ho;have HB:=SM hb;clear ho hb;rw[aL] at HO ⊢
  by_cases hjt:j < k
  ·have d1:(j:Int) < (k:Int):=om;have hbc:=Kq j x;have hdd:x / 256 ^ (j+1)=x / 256 ^ j / 256:=by rw[Nat.pow_succ,Nat.div_div_eq_div_mul]
   have hyx:x / 256 ^ j < 18446744073709551616:=Nat.lt_of_le_of_lt (Nat.div_le_self _ _) hx64;obtain⟨Y,hY⟩:=eY (x / 256 ^ j);rw[hY] at hbc hdd hyx ⊢;have Hbc:=SM hbc;have Hdd:=SM hdd;have hlen:=aL j x;have Hlen:=SM hlen;clear hbc hdd hY hlen hx0;generalize be j x=L at *;have hz:=HB.o.size;have hy8:((Y:Int) % 256)=bI (UInt8.ofNat Y):=by
    unfold bI;rw[UInt8.toNat_ofNat'];omega
   go_upto_region 7 with fail
   have hb3:=ba (.cells #[.int .u8 ((Y:Int) % 256)] 5) (Sy wr);have ho3:ao (wr.alloc (.cells #[.int .u8 ((Y:Int) % 256)] 5)) wr.heap.size (.slice (some ⟨wr.heap.size,0,none⟩) 1 1) [UInt8.ofNat Y]:=by
    rw[hy8];exact ao.made wr wr.heap.size [UInt8.ofNat Y] sm (by simp[maxLen]) (Nat.le_refl _)
   have Ho3:=SM ho3;obtain⟨a4,k4,he4,hbs4⟩:=(HO.o.below hb3).bs;rw[Hlen.o] at he4 hbs4;simp only[Value.slice.injEq,true_and] at he4;obtain⟨rfl,rfl⟩:=he4;clear ho3 hy8
   go_wp2_with (at_builtin;refine bJ rfl _ _ rfl wr.heap.size _ [UInt8.ofNat Y] rfl Ho3.o _ _ _ L rfl hbs4 ?c1 ?c2 ?_)
   case c1=>rw[Hlen.o];simp;omega
   case c2=>simp
   intro a5 k5 w5 ho5 hb5 hn5;have HO5:=SM (ho5.len);obtain⟨a5',k5',he5⟩:=ho5.len;have hB5:=bt HB.o (hb3.trans hb5);have hl5:(UInt8.ofNat Y :: L).length=j+1:=by rw[List.length_cons,Hlen.o]
   rw[he5] at ho5 ⊢;have HW5:Hd (ao w5 w.heap.size (.slice a5' (UInt8.ofNat Y :: L).length k5') (be (j+1) x)):=SM (by rw[Hbc.o];exact ho5.wider' hz)
   rw[hl5] at HW5 ⊢;have HB5:=SM hB5;clear hb3 Ho3 hbs4 ho5 hb5 hn5 he5 hB5 hl5 HO5
   go_wp2
   go_roundw
   case rel=>exact⟨j+1,om,by go_num,by rw[Hdd.o];(first | rfl | (congr 1;omega)),HW5.o,HB5.o⟩
   case measure=>simp[intOf];omega
  ·have d1 : ¬ (j:Int) < (k:Int):=om;obtain rfl:j=k:=om;rw[hx0]
   go_wp2
   go_ret2
   exact⟨⟨_,rfl,HO.o⟩,HB.o⟩
theorem tj(k:Nat)(ad:Option Addr)(n c:Nat)(l:List UInt8)(w:World)(hl:Bs w ad n c l)(hk1:1≤k)(hk8:k≤8)(hn:n < 256 ^ k)(hm:n≤10000000):
  Calls prog 107 #[.int .i64 k,.slice ad n c] w fun e w'=>(∃ v,e = .returned (.tuple #[v,.bool true])∧ao w' w.heap.size v (gi k l))∧Below w.heap.size w w':=by
 have hln:l.length=n:=hl.1;have HL:=SM hl;clear hl;have hw:IntKind.u64.wrap (n:Int)=(n:Int):=wu
 go_in
 go_wp2_with fail
 refine (iP k n w hk1 hk8 hn om).mono ?_;rintro _ w2 ⟨⟨v,rfl,ho⟩,hb⟩;have HO:=SM ho;have HB:=SM hb;obtain⟨a1,k1,rfl⟩:=ho.len;rw[aL] at HO ⊢;clear ho hb
 go_wp2_with (at_builtin;refine bJ rfl _ _ rfl w.heap.size _ (be k n) rfl HO.o _ _ _ l rfl (HL.o.below HB.o) ?c1 ?c2 ?_)
 case c1=>rw[aL,hln];omega
 case c2=>exact HB.o.size
 intro a5 k5 w5 ho5 hb5 hn5;have HB5:=SM (HB.o.trans hb5);have HO5:Hd (ao w5 w.heap.size _ (gi k l)):=SM (by unfold gi;rw[hln];exact ho5)
 clear ho5 hb5 hn5
 go_wp2
 go_ret2
 exact⟨⟨_,rfl,HO5.o⟩,HB5.o⟩
end
section
theorem O3{w:World}{b1 e1 s1 n1 b2 e2 s2 n2:Nat}{v1 v2:Value}{xs1 xs2:List Value}(h1:w.ownsRow b1 e1 s1 v1 n1 xs1)(h2:w.ownsRow b2 e2 s2 v2 n2 xs2)(he:e1≠e2)(g:Nat)(hg:v1.ownBlock=some g):v2.ownBlock≠some g:=by
 intro hg2
 rcases h1.2 with ⟨rfl,_⟩ | ⟨g1,c1,u1,rfl,_,a1,_⟩
 ·cases hg
 rcases h2.2 with ⟨rfl,_⟩ | ⟨g2,c2,u2,rfl,_,a2,_⟩
 ·cases hg2
 simp only[Value.ownBlock] at hg hg2;cases hg;cases hg2;rw[a1] at a2;simp only[Option.some.injEq,Obj.cells.injEq] at a2;exact he a2.2.1
def iI(r:ByteArray)(L:List ByteArray):List (List UInt8):=gi 1 r.data.toList :: be 1 L.length :: L.map fun x=>gi 1 x.data.toList
def bR(r:ByteArray)(L:List ByteArray):List UInt8:=(iI r L).flatten
theorem gP{l:List UInt8}(h:db l=true):1≤l.length∧l.length≤100:=by
 simp only[db,Bool.and_eq_true,decide_eq_true_eq] at h;exact h.1
theorem iK{r:ByteArray}{L:List ByteArray}(h:el r L=true):db r.data.toList=true∧1≤L.length∧L.length≤8∧∀ i (hi:i < L.length),db L[i].data.toList=true:=by
 simp only[el,Bool.and_eq_true,decide_eq_true_eq,List.all_eq_true] at h;exact⟨h.1.1.1,h.1.1.2,h.1.2,fun i hi=>h.2 _ (List.getElem_mem hi)⟩
theorem zd{α:Type}(L:List (List α))(m:Nat)(h:∀ l ∈ L,l.length≤m):L.flatten.length≤L.length * m:=by
 induction L with
 | nil=>simp
 | cons a L ih =>
  have h1:=ih (fun l hl=>h l (List.mem_cons_of_mem _ hl));have h2:=h a (List.mem_cons_self ..);rw[List.flatten_cons,List.length_append,List.length_cons,Nat.succ_mul];omega
theorem kK{r:ByteArray}{L:List ByteArray}(h:el r L=true):(bR r L).length≤2000:=by
 obtain⟨h1,h2,h3,h4⟩:=iK h;have hr:=gP h1;have:=zd (L.map fun x=>gi 1 x.data.toList) 101 (fun l hl=>by
  obtain⟨x,hx,rfl⟩:=List.mem_map.1 hl;obtain⟨i,hi,rfl⟩:=List.getElem_of_mem hx;have:=gP (h4 i hi);simp only[gi,List.length_append,aL];omega)
 rw[List.length_map] at this;unfold bR iI;rw[List.flatten_cons,List.flatten_cons,List.length_append,List.length_append];simp only[gi,List.length_append,aL] at this ⊢;omega
theorem zy(r:ByteArray)(ad:Option Addr)(n c:Nat)(L:List ByteArray)(w:World)(h:aM w ad n c L)(hv:el r L=true):
  Calls prog 140 #[.agg #[.string r,.slice ad n c]] w fun e w'=>(∃ v,e = .returned (.tuple #[v,.bool true])∧dJ v∧ao w' w.heap.size v (bR r L))∧Below w.heap.size w w':=by
 obtain⟨hw,h1,h8,hws⟩:=iK hv;have hrl:=gP hw;have H:=SM h;have HL:=SM h.1;have hn:n=L.length:=h.1.symm;have Hv:=SM hv;have Hws:=SM hws;have hnl:=kK hv;have Hnl:=SM hnl;rw[← hn] at h1 h8;clear h hv hw hws hnl hn;have hp:=P2.made w 95 (.string r) (.slice ad n c);have hb0:=ba (.cells #[.string r,.slice ad n c] 95) (Sy w);have rsz:r.data.toList.length=r.size:=sm;rw[rsz] at hrl;have Rsz:=SM rsz;clear rsz
 obtain⟨i0,hit,hz,hsz',hby⟩:=info_parts EH;have wr1:IntKind.u64.wrap (n:Int)=n:=wu
 go_in
 have q0:=hp.c0;have q1:=hp.c1
 go_wp2_with fail
 generalize w.alloc (.cells #[.string r,.slice ad n c] 95)=w0 at *;refine (oX r ad n c L w0 (H.o.below hb0)).mono ?_;rintro _ w1 ⟨rfl,hb1⟩;rw[Hv.o];have HP:=SM (hp.below hb1);have HB:=SM (bt hb0 hb1);clear hp hb0 hb1 q0 q1;have q0:=HP.o.c0;have q1:=HP.o.c1;obtain⟨C,w2,hcv,hBr,hb2,_⟩:=qc r w1 om;have HB2:=SM (bt HB.o hb2);have HBr:=SM hBr;have HP2:=SM (HP.o.below hb2);clear hBr hb2
 go_wp2_with fail
 refine (nR 1 _ r.size C r.data.toList w2 HBr.o om om om om).mono ?_;rintro _ w3 ⟨⟨vr,rfl,hnn,hor⟩,hb3⟩;obtain⟨ar,cr,rfl,hbr⟩:=hor.bs;have HP3:=SM (HP2.o.below hb3);have HB3:=SM (bt HB2.o hb3);have Hbr:=SM hbr;obtain⟨rn,hrn⟩:=eY ((gi 1 r.data.toList).length);rw[hrn] at Hbr;rw[hrn];have Hrn:=SM hrn;clear hcv HBr hnn hor hb3 hbr HB HB2 HP HP2 hrn q0 q1;have q0:=HP3.o.c0;have q1:=HP3.o.c1
 go_wp2_with fail
 refine (ii 1 n w3 om om om om).mono ?_;rintro _ w4 ⟨⟨B,hB,rfl,hbn⟩,hb4⟩;have HP4:=SM (HP3.o.below hb4);have HB4:=SM (bt HB3.o hb4);have Hbr4:=SM (Hbr.o.below hb4);have Hbn:=SM hbn;clear hbn hb4 HB3 HP3 Hbr q0 q1;have hb5:=ba (.cells #[.slice ar rn cr,.slice (some ⟨B,0,none⟩) 1 1] 39) (Sy w4);have q0:=(HP4.o.below hb5).c0;have q1:=(HP4.o.below hb5).c1;have HO5:=SM (World.ownsRow_lit (e:=39) (size:=1) w4 #[.slice ar rn cr,.slice (some ⟨B,0,none⟩) 1 1] 2 (Nat.le_refl _) (by simp[maxLen]) sm)
 have Hb5:=SM hb5;have Hs5:=SM (show (w4.alloc (.cells #[.slice ar rn cr,.slice (some ⟨B,0,none⟩) 1 1] 39)).heap.size=w4.heap.size+1 by simp)
 clear hb5
 go_wp2_with fail
 generalize w4.alloc (.cells #[.slice ar rn cr,.slice (some ⟨B,0,none⟩) 1 1] 39)=w5 at *;clear q0 q1
 go_loopw [8,37] (fun v i wr=>∃ (k:Nat) (ys:List Value) (ad':Option Addr) (c':Nat),k≤n∧i = .int .i64 k∧v = .slice ad' (2+k) c'∧ys.length=k∧wr.ownsRow w4.heap.size 39 1 v (2+k) ([.slice ar rn cr,.slice (some ⟨B,0,none⟩) 1 1] ++ ys)∧Hd (∀ j,j < k→∃ pv,ys[j]? = some pv∧ao wr w4.heap.size pv (gi 1 (L.getD j ByteArray.empty).data.toList))∧Below w4.heap.size w4 wr∧w4.heap.size < wr.heap.size) (fun _ i _=>n - (intOf i).toNat)
 case atStart=>exact⟨0,[],_,_,Nat.zero_le _,rfl,rfl,rfl,HO5.o,fun j hj=>absurd hj om,Hb5.o,by have:=Hs5.o;omega⟩
 case round =>
  obtain⟨k,ys,ad',c',hk,rfl,rfl,hyl,ho,hys,hbw,hsz⟩:=hrel;have Ho:=SM ho;have Hbw:=SM hbw;have Hyl:=SM hyl;clear ho hbw hyl
  by_cases hlt:k < n
  ·obtain⟨b1,o1,rfl,q⟩:=(H.o.below (bt HB4.o Hbw.o)).at k hlt;have hx:=xx L k ByteArray.empty (by rw[HL.o];exact hlt)
   have hwx:=Hws.o k (by rw[HL.o];exact hlt)
   rw[← hx] at hwx;obtain⟨x,hxe⟩:=eY (L.getD k ByteArray.empty);rw[hxe] at q hwx;have Hx:=SM hxe;have hxl:=gP hwx;rw[show x.data.toList.length=x.size by simp] at hxl
   clear hx hxe hwx;obtain⟨C2,w6,hcv,hBx,hb6,_⟩:=qc x wr om;have Hb6:=SM hb6;have HBx:=SM hBx;clear hBx hb6
   go_wp2_with fail
   refine (nR 1 _ x.size C2 x.data.toList w6 HBx.o om om om om).mono ?_;rintro _ w7 ⟨⟨vx,rfl,hnn,hox⟩,hb7⟩;have hb67:=bt Hb6.o hb7;obtain⟨ax,cx,rfl,_⟩:=hox.bs;have Ho7:=SM (ah Ho.o hb67);have Hox:=SM (show ao w7 w4.heap.size _ (gi 1 x.data.toList) from bj hox (Nat.le_trans (Nat.le_of_lt hsz) Hb6.o.size))
   have Hb7:=SM (Hbw.o.trans (hb67.mono (Nat.le_of_lt hsz)));have hs7:w4.heap.size < w7.heap.size:=Nat.lt_of_lt_of_le hsz hb67.size;have Hys7:Hd (∀ j,j < k→∃ pv,ys[j]? = some pv∧ao w7 w4.heap.size pv (gi 1 (L.getD j ByteArray.empty).data.toList)):=fun j hj=>by
    obtain⟨pv,e1,e2⟩:=hys.o j hj;exact⟨pv,e1,e2.below hb67⟩
   obtain⟨xn,hxn⟩:=eY ((gi 1 x.data.toList).length);rw[hxn] at Hox ⊢;have Hxn:=SM hxn;clear hnn hox hb7 hb67 hcv HBx Hb6 hys Ho Hbw q hxn;have hb8:=ba (.cells #[.slice ax xn cx] 39) (Sy w7);have hsrc:∀ j u,[Value.slice ax xn cx][j]? = some u→(w7.alloc (.cells #[.slice ax xn cx] 39)).cell? ((⟨w7.heap.size,0,none⟩ : Addr).add j)=some u:=fv (n:=1) (cs:=#[.slice ax xn cx]) (by simp[go_sem])
   have Ho8:=SM (ah Ho7.o hb8);have Hox8:=SM (ao.below Hox.o hb8);have Hb8:=SM (Hb7.o.trans (hb8.mono (Nat.le_of_lt hs7)));have hs8:w4.heap.size < (w7.alloc (.cells #[.slice ax xn cx] 39)).heap.size:=Nat.lt_of_lt_of_le hs7 hb8.size;have Hys8:Hd (∀ j,j < k→∃ pv,ys[j]? = some pv∧ao (w7.alloc (.cells #[.slice ax xn cx] 39)) w4.heap.size pv (gi 1 (L.getD j ByteArray.empty).data.toList)):=fun j hj=>by
    obtain⟨pv,e1,e2⟩:=Hys7.o j hj;exact⟨pv,e1,e2.below hb8⟩
   have Hsrc:=SM hsrc;clear Ho7 Hox Hb7 Hys7 hb8 hsrc
   go_wp2_with (at_builtin;refine wpList_append_own _ rfl _ _ 193 rfl w4.heap.size 39 i0 _ 1 24 underlying193 hit hz hsz' hby rfl dc _ (2+k) _ rfl Ho8.o ⟨w7.heap.size,0,none⟩ 1 1 [.slice ax xn cx] rfl rfl Hsrc.o ?c3 ?c4 ?c5 ?c6 ?_)
   case c3=>intro u hu;first | rfl | (simp at hu;subst hu;rfl)
   case c4=>simp only[maxLen];omega
   case c5=>omega
   case c6=>exact Nat.le_of_lt hs8
   intro v' w9 hown9 hgr hnil;obtain⟨ad9,cap9,rfl,_⟩:=aG hown9;have keep:∀ (pv:Value) (l:List UInt8),ao (w7.alloc (.cells #[.slice ax xn cx] 39)) w4.heap.size pv l→ao w9 w4.heap.size pv l:=fun pv l hp=>bu (w':=w9) hp (fun g hg hlt=>hgr.block g hlt (fun e=>O3 Ho8.o hp dc g e.symm hg));have Ho9:Hd (w9.ownsRow w4.heap.size 39 1 (.slice ad9 (2+(k+1)) cap9) (2+(k+1)) ([.slice ar rn cr,.slice (some ⟨B,0,none⟩) 1 1] ++ (ys ++ [.slice ax xn cx]))):=hown9
   have Hys9:Hd (∀ j,j < k+1→∃ pv,(ys ++ [Value.slice ax xn cx])[j]? = some pv∧ao w9 w4.heap.size pv (gi 1 (L.getD j ByteArray.empty).data.toList)):=fun j hj=>by
    rcases Nat.lt_or_eq_of_le (Nat.lt_succ_iff.1 hj) with h | h
    ·obtain⟨pv,e1,e2⟩:=Hys8.o j h;exact⟨pv,by rw[List.getElem?_append_left (by rw[Hyl.o];exact h)];exact e1,keep _ _ e2⟩
    ·subst h;exact⟨_,by rw[List.getElem?_append_right (by rw[Hyl.o];exact Nat.le_refl _),Hyl.o,Nat.sub_self];rfl,by rw[Hx.o];exact keep _ _ Hox8.o⟩
   have Hb9:=SM (Hb8.o.grown hgr (Nat.le_of_lt hs8) (fun b hb=>(Ho8.o.lt b hb).1));have hs9:w4.heap.size < w9.heap.size:=Nat.lt_of_lt_of_le hs8 hgr.size;have Hyl9:=SM (show (ys ++ [Value.slice ax xn cx]).length=k+1 by simp[Hyl.o])
   clear keep hown9 hgr hnil Ho8 Hox8 Hb8 Hys8 Hsrc
   go_wp2
   go_roundw
   case rel=>exact⟨k+1,ys ++ [.slice ax xn cx],ad9,cap9,om,by go_num,rfl,Hyl9.o,Ho9.o,Hys9,Hb9.o,hs9⟩
   case measure=>simp[intOf];omega
  ·obtain rfl:k=n:=om;have hps:∃ ad2 c2,Value.slice ad' (2+k) c' = .slice ad2 (2+k) c2∧Ps wr ad2 (2+k) c2 (iI r L):=by
    refine Ps.of_own Ho.o om (by simp[iI,HL.o];omega) (fun i hi=>?_)
    match i with
    | 0=>exact⟨_,_,_,rfl,Hbr4.o.below Hbw.o⟩
    | 1=>exact⟨_,_,_,rfl,by have h:=Hbn.o.below Hbw.o;rw[← HL.o] at h;exact h⟩
    | j+2 =>
     obtain⟨pv,e1,e2⟩:=hys.o j om;obtain⟨ai,ci,e3,e4⟩:=e2.bs;exact⟨ai,_,ci,by rw[List.getElem?_append_right sm];simpa [e3] using e1,by simpa [iI,List.getD,show j < L.length by rw[HL.o];omega] using e4⟩
   obtain⟨ad2,c2,e2,hps2⟩:=hps;cases e2;have Hps:=SM hps2;clear hps2 Ho hys
   go_wp2_with fail
   refine (jL ad' (2+k) c' (iI r L) wr Hps.o (by have:=Hnl.o;unfold bR at this;omega)).mono ?_
   rintro _ w10 ⟨⟨vo,rfl,hnn,hoo⟩,hb10⟩;have hz:=HB4.o.size;have HX:=SM (And.intro hnn (And.intro (show ao w10 w.heap.size vo (bR r L) from bj hoo om) (bt (HB4.o.trans (Hbw.o.mono hz)) hb10)))
   clear hnn hoo hb10
   go_wp2
   go_ret2
   exact⟨⟨vo,rfl,HX.o.1,HX.o.2.1⟩,HX.o.2.2⟩
end
section
open Go.RowKit Go.ChangeMaps
section
variable {P:Program} {ops:Array Oper} {Q:Exit→Act→World→Prop} {S:World→Prop} {i:Nat} {o:Oper} {t:Tr} {a:Act} {w:World}
theorem DE(ho:ops[i]? = some o)(hg:o.guard=none)(s x:Operand)(ty tz:TypeId)(hop:o.op = .call { callee:=.builtin .append,args:=#[s,x],argTypes:=#[ty,tz] })
  (vs vx v':Value) (w':World) (hs:a.eval s=vs) (hx:a.eval x=vx) (hr:(Builtin.append_ #[ty,tz] o.type #[vs,vx]).run P w = .ok v' w')
  (h:∃ S':World→Prop,(∀ u,S' u→S u)∧S' w'∧Tp P ops Q t S' (a.put o.dst v') w'):Tp P ops Q (.run i t) S a w:=by
 refine fJ ho (by unfold Region.wanted;rw[hg]) ⟨v',w',?_,h⟩
 unfold execOp;simp only[hop,resolve,invoke,builtin,Sem.run_bind,Sem.run_pure,Result.andThen_ok,List.map_toArray,List.map_cons,List.map_nil,hs,hx,hr]
end
theorem my(x:Nat):be 1 x=[UInt8.ofNat x]:=by simp[be,List.range,List.range.loop]
theorem Jn(x:Nat)(hx:x≤200):(x:Int)=bI (UInt8.ofNat x):=by unfold bI;rw[UInt8.toNat_ofNat'];omega
theorem sG(w:World)(x:UInt8)(z:Int)(hz:z=bI x):ao (w.alloc (.cells #[.int .u8 z] 5)) w.heap.size (.slice (some ⟨w.heap.size,0,none⟩) 1 1) [x]:=by
 subst hz;exact ao.made w w.heap.size [x] sm (by simp[maxLen]) (Nat.le_refl _)
theorem kQ(r s:ByteArray)(ad:Option Addr)(c:Nat)(w:World)(h:aM w ad 1 c [s])(hr:r.size≤200)(hs:s.size≤200):
  Calls prog 104 #[.agg #[.string r,.slice ad 1 c]] w fun e w'=>(∃ v,e = .returned v∧ao w' w.heap.size v (bR r [s]))∧Below w.heap.size w w':=by
 obtain⟨X,hX⟩:=eY (bR r [s]);have hXX:(((UInt8.ofNat r.size :: r.data.toList) ++ [1]) ++ [UInt8.ofNat s.size]) ++ s.data.toList=X:=by
  rw[← hX];have e1:r.data.toList.length=r.size:=rfl;have e2:s.data.toList.length=s.size:=rfl;simp[bR,iI,gi,my,e1,e2]
 rw[hX];have HX:=SM hXX;have HS:=SM h;clear hX hXX h;have e1:r.data.toList.length=r.size:=rfl;have e2:s.data.toList.length=s.size:=rfl;have He1:=SM e1;have He2:=SM e2;clear e1 e2
 go_in
 go_upto_region 1 with fail
 have hP:=P2.made w 95 (.string r) (.slice ad 1 c);have hb:=ba (.cells #[.string r,.slice ad 1 c] 95) (Sy w);have hsz:(w.alloc (.cells #[.string r,.slice ad 1 c] 95)).heap.size=w.heap.size+1:=sm;generalize w.alloc (.cells #[.string r,.slice ad 1 c] 95)=w1 at *;have HP:=SM hP;have HB:=SM hb;clear hP hb;have q1:=HP.o.c0;have q2:=HP.o.c1;have hm1:=Jn r.size hr;have ho2:=sG w1 (UInt8.ofNat r.size) _ hm1
 have hb2:=ba (.cells #[.int .u8 (r.size:Int)] 5) (Sy w1);rw[hsz] at ho2;have Ho2:=SM ho2;have q3:=(HP.o.below hb2).c0;clear ho2 hm1
 go_wp2_with (at_builtin;refine nP rfl _ _ rfl (w.heap.size+1) _ [UInt8.ofNat r.size] rfl Ho2.o r rfl ?c1 ?c2 ?_)
 case c1=>simp;omega
 case c2=>simp[hsz]
 intro v3 w3 ho3 hg3;have hB3:=Ho2.o.below' w1 (by rw[hsz] at hb2;exact hb2) hg3 (by simp[hsz])
 replace HP:=SM (HP.o.same (hB3.block _ om));replace HB:=SM (HB.o.trans (hB3.mono om));have hz3:w.heap.size+1≤w3.heap.size:=by have:=hB3.size;omega
 obtain⟨a3,k3,rfl⟩:=ho3.len;have hl3:([UInt8.ofNat r.size] ++ r.data.toList).length=1+r.size:=by rw[List.length_append,He1.o];rfl
 have hl3':(UInt8.ofNat r.size :: r.data.toList).length=1+r.size:=by rw[List.length_cons,He1.o];omega
 rw[hl3'] at ho3 ⊢;have HO3:=SM ho3;have Hl3:=SM hl3';clear q1 q2 q3 hb2 Ho2 ho3 hg3 hB3 hsz hl3 hl3';generalize UInt8.ofNat r.size :: r.data.toList=F3 at *
 go_upto_region 2 with fail
 have q1:=HP.o.c0;have q2:=HP.o.c1;have ho4:=sG w3 1 1 rfl;have hb4:=ba (.cells #[.int .u8 1] 5) (Sy w3);have hs4:=fD w3 1 1 rfl;clear ho4
 go_wp2_with (at_builtin;refine bJ rfl _ _ rfl (w.heap.size+1) _ F3 rfl (HO3.o.below hb4) _ _ _ [1] rfl hs4 ?c3 ?c4 ?_)
 case c3=>rw[Hl3.o];simp;omega
 case c4=>simp;omega
 intro a5 k5 w5 ho5 hb5 hn5;have hB5:Below (w.heap.size+1) w3 w5:=(hb4.mono hz3).trans hb5;replace HP:=SM (HP.o.same (hB5.block _ om));replace HB:=SM (HB.o.trans (hB5.mono om));have hz5:w.heap.size+1≤w5.heap.size:=by have:=hB5.size;omega
 have hl5:(F3 ++ [1]).length=2+r.size:=by rw[List.length_append,Hl3.o];simp;omega
 obtain⟨a5',k5',he5⟩:=ho5.len;rw[he5] at ho5 ⊢;rw[hl5] at ho5 ⊢;have HO5:=SM ho5;have Hl5:=SM hl5;clear q1 q2 hb4 hs4 ho5 hb5 hn5 he5 hB5 hl5 HO3 Hl3;generalize F3 ++ [1]=F5 at *
 go_wp2
 go_loopw [3,4] (fun v i wr=>Hd (P2 wr w.heap.size (.string r) (.slice ad 1 c))∧Hd (Below w.heap.size w wr)∧w.heap.size+1≤wr.heap.size∧((i = .int .i64 0∧v = .slice a5' (2+r.size) k5'∧ao wr (w.heap.size+1) v F5)∨(i = .int .i64 1∧ao wr (w.heap.size+1) v X))) (fun _ i _=>1 - (intOf i).toNat)
 case atStart=>exact⟨HP,HB,hz5,.inl ⟨rfl,rfl,HO5.o⟩⟩
 case round =>
  obtain⟨HPr,HBr,hzr,⟨rfl,rfl,ho⟩ | ⟨rfl,ho⟩⟩:=hrel
  ·have HO:=SM ho;clear ho HP HB HO5 hz5;have q1:=HPr.o.c0;have q2:=HPr.o.c1;obtain⟨b1,o1,rfl,q3⟩:=(HS.o.below HBr.o).at 0 om;change wr.cell? ⟨b1,o1+0,none⟩=some (.string s) at q3;rw[Nat.add_zero] at q3;have hT:Hd (∀ u,P2 u w.heap.size (.string r) (.slice (some ⟨b1,o1,none⟩) 1 c)→Below w.heap.size w u→(u.cell? ⟨w.heap.size,1,none⟩=some (.slice (some ⟨b1,o1,none⟩) 1 c)∧u.cell? ⟨b1,o1,none⟩=some (.string s))):=by
    intro u hp hb;obtain⟨b,o,he,q⟩:=(HS.o.below hb).at 0 om;simp only[Option.some.injEq,Addr.mk.injEq,and_true] at he;obtain⟨rfl,rfl⟩:=he;exact⟨hp.c1,q⟩
   go_upto_region 6 with fail
   have hdb:=(Sy wr).drew;replace HPr:=SM (HPr.o.below hdb);replace HBr:=SM (bt HBr.o hdb);refine yW (tk 0 8 (tk 10 5 (.run 8 (.run 9 (.run 15 (.take 16 .done)))))) (fun u=>u.cell? ⟨w.heap.size,1,none⟩=some (.slice (some ⟨b1,o1,none⟩) 1 c)∧u.cell? ⟨b1,o1,none⟩=some (.string s)) (hT.o _ HPr.o HBr.o) ?_;replace HO:=SM (HO.o.below hdb);have hzr6:w.heap.size+1≤wr.drew.heap.size:=by have:=hdb.size;omega
   clear hdb q1 q2 q3 hzr;generalize wr.drew=w6 at *
   repeat((first|refine yO ?_|refine yM ?_|refine yF rfl rfl (fun w' hC'=>by obtain⟨c1,c2⟩:=hC';go_simp;first|done|exact rfl) ?_);walk_nrm)
   have hm1:IntKind.u8.wrap (s.size:Int)=bI (UInt8.ofNat s.size):=by rw[← Jn s.size hs,IntKind.wrap_u8];omega
   have hb7:=ba (.cells #[.int .u8 (IntKind.u8.wrap (s.size:Int))] 5) (Sy w6);have Hs7:=SM (fD w6 (UInt8.ofNat s.size) _ hm1);have hb7':=hb7.mono hzr6;replace HPr:=SM (HPr.o.below hb7);replace HBr:=SM (bt HBr.o hb7);replace HO:=SM (HO.o.below hb7);clear hm1;refine fJ rfl rfl ?_;apply Exists.intro;apply Exists.intro;refine⟨?_,?_⟩;(go_simp;exact⟨rfl,rfl⟩);refine kC (hT.o _ HPr.o HBr.o) ?_;walk_nrm;have hz7:w.heap.size+1≤(w6.alloc (.cells #[.int .u8 (IntKind.u8.wrap (s.size:Int))] 5)).heap.size:=by have:=hb7.size;omega
   obtain⟨w7,hw7⟩:=eY (w6.alloc (.cells #[.int .u8 (IntKind.u8.wrap (s.size:Int))] 5));rw[hw7] at HPr HBr HO Hs7 hz7 ⊢;clear hb7 hb7';obtain⟨v8,w8,hr8,ho8,hb8,_⟩:=qU w7 (w.heap.size+1) 39 _ F5 HO.o _ _ _ [UInt8.ofNat s.size] Hs7.o (by rw[Hl5.o];simp;omega) hz7
   refine qL rfl rfl _ _ _ rfl _ _ v8 w8 rfl rfl hr8 ?_;replace HPr:=SM (HPr.o.same (hb8.block _ om));replace HBr:=SM (HBr.o.trans (hb8.mono om));refine kC (hT.o _ HPr.o HBr.o) ?_;walk_nrm;have hz8:w.heap.size+1≤w8.heap.size:=by have:=hb8.size;omega
   clear hr8 hb8 HO Hs7 hw7;obtain⟨v9,w9,hr9,ho9,hg9⟩:=xS w8 (w.heap.size+1) 39 _ _ ho8 s (by rw[List.length_append,Hl5.o];simp;omega) hz8
   have hb9:=ho8.below' w8 (Below.refl _ _) hg9 hz8;refine DE rfl rfl _ _ _ _ rfl _ _ v9 w9 rfl rfl hr9 ?_;replace HPr:=SM (HPr.o.same (hb9.block _ om));replace HBr:=SM (HBr.o.trans (hb9.mono om));refine kC (hT.o _ HPr.o HBr.o) ?_;walk_nrm;have hz9:w.heap.size+1≤w9.heap.size:=by have:=hb9.size;omega
   rw[HX.o] at ho9;have HO9:=SM ho9;clear hr9 hb9 hg9 ho8 ho9 hz8 hz7
   repeat(refine yA ?_;walk_nrm)
   refine al ?_
   go_wp2
   go_roundw
   case rel=>exact⟨HPr,HBr,hz9,.inr ⟨by go_num,HO9.o⟩⟩
   case measure=>simp[intOf]
  ·have HO:=SM (ho.wider' (B':=w.heap.size) om);clear ho HP HB HO5 hz5;have q1:=HPr.o.c0;have q2:=HPr.o.c1
   go_wp2
   go_ret
   exact⟨⟨_,rfl,HO.o⟩,HBr.o⟩
end
end Go.Proofs.YtlcfaaodmickbaaGreatDoor
