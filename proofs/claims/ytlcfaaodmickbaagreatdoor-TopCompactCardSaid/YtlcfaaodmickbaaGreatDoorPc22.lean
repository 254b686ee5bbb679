/- Part 22 of the proof: texts merged and shortened by a program. No conditions. -/
import Derived.Scope
import Derived.Test.YtlcfaaodmickbaaGreatDoorPc21
set_option linter.unusedSimpArgs false
set_option linter.unusedVariables false
set_option maxRecDepth 100000
set_option maxHeartbeats 8000000
namespace Go.Proofs.YtlcfaaodmickbaaGreatDoor
open Go.RowKit Go.Proofs.Tryz
section
theorem lm:∀ (n:Nat) (s:RS) (acc ps:List (List UInt8)) (s':RS),bV n s acc=some (ps,s')→(∀ x ∈ acc,db x=true)→ps.length=acc.length+n∧∀ x ∈ ps,db x=true
 | 0,s,acc,ps,s',h,ha=>by
  unfold bV at h;cases h;exact⟨rfl,ha⟩
 | n+1,s,acc,ps,s',h,ha=>by
  unfold bV at h
  split at h
  ·rename_i hw
   obtain⟨h1,h2⟩:=lm n _ _ ps s' h (fun x hx=>by
    rcases List.mem_append.1 hx with hx | hx
    ·exact ha x hx
    ·rw[List.mem_singleton.1 hx];exact hw)
   exact⟨by simp at h1;omega,h2⟩
  ·cases h
theorem DL{s:RS}{r:List UInt8}{ps:List (List UInt8)}{s':RS}(h:fh s=some (r,ps,s')):el (aY r) (ps.map aY)=true:=by
 unfold fh at h
 split at h
 ·rename_i hw
  split at h
  ·rename_i hn
   obtain⟨⟨ps2,s2⟩,h1,h2⟩:=Option.map_eq_some_iff.1 h;cases h2;obtain⟨h3,h4⟩:=lm _ _ _ _ _ h1 (fun x hx=>by cases hx)
   simp only[List.length_nil,Nat.zero_add] at h3;unfold el;simp only[aY,Bool.and_eq_true,decide_eq_true_eq,List.length_map,List.all_eq_true];refine⟨⟨⟨by simpa using hw,om⟩,om⟩,fun x hx=>?_⟩
   obtain⟨y,hy,rfl⟩:=List.mem_map.1 hx;have:=h4 y hy
   simpa [aY] using this
  ·cases h
 ·cases h
theorem qK{key:RW}{l:List UInt8}{t:t6}{a:iq}(h:eC key l = .ok (t,a)):
  (t.2.2.1≤1099511627776∧t.2.2.2.1≤1099511627776∧a.2.2.1≤1099511627776)∧el (aY a.1) (a.2.1.map aY)=true∧a.2.2.2.1≤999999∧a.2.2.2.2 < 4294967296:=by
 unfold eC at h
 split at h
 ·cases h
 ·split at h
  ·cases h
  ·rename_i ht
   split at h
   ·cases h
   ·rename_i ha
    cases h;unfold nJ at ht;unfold mn at ha
    split at ht
    ·cases ht
    ·split at ht
     ·cases ht
     ·rename_i ht2
      cases ht
      split at ha
      ·cases ha
      ·split at ha
       ·cases ha
       ·rename_i ha2
        cases ha;unfold io at ht2;unfold ij at ha2
        split at ht2
        ·split at ht2
         ·cases ht2
         ·split at ht2
          ·rename_i hb
           cases ht2
           split at ha2
           ·split at ha2
            ·cases ha2
            ·rename_i hrn
             split at ha2
             ·rename_i hb2
              cases ha2;exact⟨⟨Nat.le_trans hb.2.1 hb.2.2,hb.2.2,hb2.2.1⟩,DL hrn,hb2.2.2,qI _⟩
             ·cases ha2
           ·cases ha2
          ·cases ht2
        ·cases ht2
theorem Br(w:World)(base n V b:Nat)(p:DP)(q:CP)(v:VM)(bs:Value)(T U:Array Value)(h:So w base p V q n v)(hA:bB w b ⟨V,0,none⟩ bs T U)(hb : ¬ VX p V q v.c b):
  Calls prog 38 #[.pointer (some ⟨b,0,none⟩)] w fun e w'=>e = .returned (.int .i64 (match (au v).c with | none=>7 | some c=>if v.now≤c.til then 7 else 0))∧aF w base p V q v.c n (au v) w':=by
 have HA:=SM hA;have H:=SM h;have Hb:=SM hb;obtain⟨R,hR⟩ : ∃ R:Int,(match (au v).c with | none=>7 | some c=>if v.now≤c.til then 7 else 0)=R:=⟨_,rfl⟩
 rw[hR];have HR:=SM hR;clear h hA hb hR
 go_in
 go_wp2_with fail
 have hdb:=(Sy w).drew;have hA1:=HA.o.drew;have h1:=H.o.below hdb;refine yW (tk 0 4 (.run 4 (tk 5 16 (.run 21 (tk 22 2 .done))))) (fun u=>bB u b ⟨V,0,none⟩ bs T U) hA1 ?_;have hz1:=hdb.size;have Hdb:=SM hdb;clear hdb H HA;generalize w.drew=w1 at *
 repeat((first|refine yO ?_|refine yM ?_|refine yF rfl rfl (fun w' hC'=>by have c0:=hC'.f0;go_simp;first|done|exact rfl) ?_);walk_nrm)
 refine yR ?_;refine (eF w1 base n V p q v h1).mono ?_;rintro _ w2 ⟨rfl,hN⟩;have hA2:bB w2 b ⟨V,0,none⟩ bs T U:=by
  obtain⟨_,_,_,_,hk,_⟩:=hN;exact hA1.same (hk.block b hA1.lt Hb.o)
 have HN:=SM (hN.pre Hdb.o);obtain⟨c,hc⟩:=eY ((au v).c);have hr:=HR.o;rw[hc] at hr ⊢;cases c with
 | none =>
  simp only at hr;subst hr;refine kS hA2 ?_;walk_nrm;simp only[Option.isSome_none];clear hN hc h1 HR
  repeat((first|refine yO ?_|refine yM ?_|refine yF rfl rfl (fun w' hC'=>by have c0:=hC'.f0;go_simp;first|done|exact rfl) ?_);walk_nrm)
  refine Lw rfl rfl hA2 ?_
  walk_nrm
  repeat(refine yA ?_;walk_nrm)
  refine al ?_
  go_wp2
  go_ret
  exact⟨rfl,HN.o⟩
 | some c =>
  simp only at hr;obtain⟨p2,q2,hB2,hv2,hk2,hx2⟩:=hN;obtain⟨hC2,_⟩:=hv2.c c hc;have hV2:bg w2 V v.key v.skew (some ⟨p2.B,0,none⟩) v.now (some ⟨q2.C,0,none⟩):=by
   have:=hv2.vf;rw[dQ,dz,fY,hc] at this;exact this
  refine⟨_,rfl,fun u=>bB u b ⟨V,0,none⟩ bs T U∧bg u V v.key v.skew (some ⟨p2.B,0,none⟩) v.now (some ⟨q2.C,0,none⟩),fun _ h=>h.1,⟨hA2,hV2⟩,?_⟩
  walk_nrm
  simp only[Option.isSome_some];have Hv2:=SM hv2;clear hv2 hk2 hx2 hc h1 hA1 HR hB2
  repeat((first|refine yO ?_|refine yM ?_|refine yF rfl rfl (fun w' hC'=>by obtain⟨hA',hV'⟩:=hC';have c0:=hA'.f0;have c3:=hV'.f3;have c4:=hV'.f4;go_simp;first|done|exact rfl) ?_);walk_nrm)
  refine yR ?_;refine (DX w2 base n p2 q2 _ c hC2).mono ?_;rintro _ _ ⟨rfl,rfl⟩;refine⟨_,rfl,fun u=>bB u b ⟨V,0,none⟩ bs T U∧bg u V v.key v.skew (some ⟨p2.B,0,none⟩) v.now (some ⟨q2.C,0,none⟩),fun _ h=>h,⟨hA2,hV2⟩,?_⟩;walk_nrm
  repeat(refine yA ?_;walk_nrm)
  refine al ?_;clear hA2 hV2 hC2 Hv2
  by_cases hle:v.now≤c.til
  ·have d:decide (v.now≤c.til)=true:=decide_eq_true hle;rw[if_pos hle] at hr;subst hr
   go_wp2
   go_ret
   exact⟨rfl,HN.o⟩
  ·have d:decide (v.now≤c.til)=false:=decide_eq_false hle;rw[if_neg hle] at hr;subst hr
   go_wp2
   go_ret
   exact⟨rfl,HN.o⟩
theorem uC(w:World)(base n m V b:Nat)(p:DP)(q:CP)(v:VM)(cm:CM)(bs:Value)(T:Array Value)(a:iq)(ad2:Option Addr)(c2:Nat)(h:So w base p V q n v)(hI:VI n m v)(hc:v.c=some cm)(hA:bB w b ⟨V,0,none⟩ bs T (St (aY a.1) ad2 a.2.1.length c2 (a.2.2.1:Nat) (a.2.2.2.1:Nat) (a.2.2.2.2:Nat)))(hb : ¬ VX p V q v.c b)(hg:GK w)
  (hs:aM w ad2 a.2.1.length c2 (a.2.1.map aY)) (hv:el (aY a.1) (a.2.1.map aY)=true) (ha:a.2.2.1≤1099511627776∧a.2.2.2.1≤999999∧a.2.2.2.2 < 4294967296) (hm:m+120≤100000) (hn:n≤100) (hbase:base≤w.heap.size) :
  Calls prog 39 #[.pointer (some ⟨b,0,none⟩)] w fun e w'=>e = .returned (.int .i64 (insertC v.D cm (iA a) (a.2.2.1+v.skew.toNat) v.now).2.2) ∧
   aF w base p V q v.c n { v with D:=(insertC v.D cm (iA a) (a.2.2.1+v.skew.toNat) v.now).1,c:=some (insertC v.D cm (iA a) (a.2.2.1+v.skew.toNat) v.now).2.1 } w':=by
 have H:=SM h;have HA:=SM hA;have HG:=SM hg;have Hs:=SM hs;have hsk:=hI.skew;have hD:=hI.D;have hIc:=hI.c cm hc;have hcn:=hIc.cnt hn;have HD:=SM hD;have HI:=SM hIc;have Hc:=SM hc;have Hb:=SM hb;obtain⟨R,hR⟩:=eY (insertC v.D cm (iA a) (a.2.2.1+v.skew.toNat) v.now);rw[hR];have HR:=SM hR;have Hv:=SM hv;clear h hA hg hs hD hIc hI hc hb hR hv;obtain⟨U,hU⟩:=eY (St (aY a.1) ad2 a.2.1.length c2 (a.2.2.1:Nat) (a.2.2.2.1:Nat) (a.2.2.2.2:Nat))
 rw[hU] at HA;have HU:=SM hU;have c0:=HA.o.f0;have r3:=HA.o.f3;clear hU
 go_in
 go_wp2_with fail
 rw[← HU.o];refine (ms (aY a.1) ad2 a.2.1.length c2 a.2.2.1 a.2.2.2.1 a.2.2.2.2 (a.2.1.map aY) w HG.o Hs.o Hv.o ha.1 ha.2.1 ha.2.2).mono ?_;rintro _ w1 ⟨rfl,hb1⟩;rw[show d9 (bZ (aY a.1) (a.2.1.map aY) a.2.2.1 a.2.2.2.1 a.2.2.2.2)=iA a from rfl]
 obtain⟨dg,hdg⟩:=eY (iA a);rw[hdg] at HR ⊢;clear hdg c0 r3;have hR1:=Row.made (f:=B8) w1 36 dg;have hbb:=ba (.cells (fw B8 dg) 36) (Sy w1)
 go_wp2_with fail
 rw[HU.o];have hbw:=bt hb1 hbb;have hw1:=hb1.size;have hzz:(w1.alloc (.cells (fw B8 dg) 36)).heap.size=w1.heap.size+1:=sm;generalize w1.alloc (.cells (fw B8 dg) 36)=w2 at *;obtain⟨D0,hD0⟩:=eY w1.heap.size;rw[hD0] at hR1 hzz hw1 ⊢;have hdb:=(Sy w2).drew;have hbw3:=hbw.drew;have hs3:=Hs.o.below hbw3;have h3:=H.o.below hbw3;have hA3:=HA.o.below hbw3;have hR3:=hR1.drew;have hV3:bg w2.drew V v.key v.skew (some ⟨p.B,0,none⟩) v.now (xh q v.c):=h3.vf
 have hz3:w2.drew.heap.size=D0+1:=hzz;refine yW (tk 0 12 (.two 12 (.take 13 (.run 14 (.run 15 .done))) 14 (.run 12 (.take 13 (.run 15 .done))))) (fun u=>Row B8 u D0 dg∧bB u b ⟨V,0,none⟩ bs T U∧bg u V v.key v.skew (some ⟨p.B,0,none⟩) v.now (xh q v.c)) ⟨hR3,hA3,hV3⟩ ?_;clear hdb hbw hbb hb1 hzz hR1 H HA Hs HG;generalize w2.drew=w3 at *;have hDw:D0 < w3.heap.size:=om;clear hz3
 repeat((first|refine yO ?_|refine yM ?_|refine yF rfl rfl (fun w' hC'=>by obtain⟨hR',hA',hV'⟩:=hC';have c0':=hA'.f0;have r3':=hA'.f3;have qd:=hR'.r;have c1':=hV'.f1;go_simp;first|done|exact rfl) ?_);walk_nrm)
 obtain⟨x,hx⟩:=eY (a.2.2.1+v.skew.toNat);have hsat:Ti (((a.2.2.1:Nat):Int)+v.skew)=(x:Int):=by rw[← hx];unfold Ti;rw[if_neg om,if_neg om];omega
 rw[hx] at HR;have hexp:=fun u=>za (aY a.1) ad2 a.2.1.length c2 (a.2.2.1:Nat) (a.2.2.2.1:Nat) (a.2.2.2.2:Nat) v.skew u (by simp[fk];omega) (by simp[fk];omega)
 rw[hsat] at hexp;have hexp2:∀ u,Calls prog 64 #[.agg U,.int .i64 v.skew] u fun e w'=>e = .returned (.int .i64 x)∧Below u.heap.size u w':=by rw[← HU.o];exact hexp
 have Hexp:=SM hexp2;clear hexp hexp2 hsat;have hzw:w.heap.size≤D0:=hw1;refine And.intro (?_:Tp _ _ _ (.run 12 _) _ _ _) (?_:Tp _ _ _ (.run 14 _) _ _ _)
 ·refine yR ?_;refine (Hexp.o w3).mono ?_;rintro _ w4 ⟨rfl,hb4⟩;have hA4:=hA3.below hb4;have hV4:=hV3.below hb4;have hR4:=hR3.below hb4;have h4:=h3.below hb4;have hz4:=hb4.size;have Hb4:=SM (bt hbw3 hb4);refine kS ⟨hR4,hA4,hV4⟩ ?_;walk_nrm;clear hb4 hA3 hV3 hR3 h3 hbw3
  repeat(refine yA ?_;walk_nrm)
  refine dd rfl rfl (fun K hK=>?_);go_simp;have hb5:=ba (.cells (ev kZ 0) 89) (Sy w4);refine hK _ _ (fun u=>Row B8 u D0 dg∧bB u b ⟨V,0,none⟩ bs T U∧bg u V v.key v.skew (some ⟨p.B,0,none⟩) v.now (xh q v.c)) (fun _ h=>h) ⟨hR4.below hb5,hA4.below hb5,hV4.below hb5⟩ ?_;clear hK;have hB5:=Bk.new w4 (ev kZ 0) 89;have H5':=SM (h4.below hb5);have HA5':=SM (hA4.below hb5);have HR5':=SM (hR4.below hb5);have Hb5':=SM (bt Hb4.o hb5)
  have hnX : ¬ CX p q w4.heap.size:=fun hx=>by
   have hc4:=(h4.c cm Hc.o).1;have:=hc4.x_lt hx;omega
  have hbn:b < w4.heap.size:=hA4.lt;have hVn:V < w4.heap.size:=hV4.lt;have hDn:D0 < w4.heap.size:=om;have HEB:Hd (¬ CX p q w4.heap.size):=SM hnX;have hEX : ¬ VX p V q v.c w4.heap.size:=fun hx=>by have:=h4.lt hx;omega
  obtain⟨EB,hEB⟩:=eY w4.heap.size;rw[hEB] at hB5 hbn hVn hDn HEB hEX ⊢;have hzE:w.heap.size≤EB:=om;generalize w4.alloc (.cells (ev kZ 0) 89)=w5' at *;clear hb5 hA4 hV4 hR4 h4 hEB hnX;have kE:canAt w5' EB 0 33=true:=by have:=hB5.k;simpa using this
  refine dd rfl rfl (fun K hK=>?_);go_simp;have hk5:=cK w5' EB 0 (ev dg (x:Int));have hA6:=HA5'.o.same (hk5.block b HA5'.o.lt om);have hV6:=(show bg w5' V v.key v.skew (some ⟨p.B,0,none⟩) v.now (xh q v.c) from H5'.o.vf).same (hk5.block V H5'.o.vf.lt om)
  have hR6:=HR5'.o.same (hk5.block D0 HR5'.o.lt om);refine hK _ _ (fun u=>Row B8 u D0 dg∧bB u b ⟨V,0,none⟩ bs T U∧bg u V v.key v.skew (some ⟨p.B,0,none⟩) v.now (xh q v.c)) (fun _ h=>h) ⟨hR6,hA6,hV6⟩ ?_;clear hK kE;have HE5:Hd (readAt (setAt w5' EB 0 (ev dg (x:Int))) EB 0 33=some (ev dg (x:Int))):=SM ((hB5.all (ev dg (x:Int)) sm).r |> fun h=>by simpa using h)
  have H5:Hd (So (setAt w5' EB 0 (ev dg (x:Int))) base p V q n v):=SM (H5'.o.kb hk5 (fun i hi e=>by subst e;exact hEX hi))
  have Hb5:Hd (Below w.heap.size w (setAt w5' EB 0 (ev dg (x:Int)))):=SM (Hb5'.o.trans (hk5.below (fun i hi=>by subst hi;exact hzE) Hb5'.o.size))
  have HA5:=SM hA6;clear hA6 hV6 hR6 hk5 hB5 H5' HA5' HR5' Hb5';generalize setAt w5' EB 0 (ev dg (x:Int))=w5 at *
  repeat(refine yA ?_;walk_nrm)
  refine al ?_
  (
   go_wp2_with fail
   have hdb:=(Sy w5).drew;have hA6:=HA5.o.drew;have h6:=H5.o.below hdb;have hE6:readAt w5.drew EB 0 33=some (ev dg (x:Int)):=HE5.o;have hV6:bg w5.drew V v.key v.skew (some ⟨p.B,0,none⟩) v.now (some ⟨q.C,0,none⟩):=by
    have:=h6.vf;rw[Hc.o] at this;exact this
   refine yW (tk 0 15 (.run 15 (.take 16 .done))) (fun u=>bB u b ⟨V,0,none⟩ bs T U∧bg u V v.key v.skew (some ⟨p.B,0,none⟩) v.now (some ⟨q.C,0,none⟩)∧readAt u EB 0 33=some (ev dg (x:Int))) ⟨hA6,hV6,hE6⟩ ?_;have hw5:=Hb5.o.size;have Hb6:=SM (bt Hb5.o hdb);have hz6:=hdb.size;clear hdb HA5 H5 HE5;generalize w5.drew=w6 at *
   repeat((first|refine yO ?_|refine yM ?_|refine yF rfl rfl (fun w' hC'=>by obtain⟨hA',hV',hE'⟩:=hC';have c0':=hA'.f0;have c4':=hV'.f4;have c3':=hV'.f3;go_simp;first|done|exact rfl) ?_);walk_nrm)
   refine yR ?_;obtain⟨hC6,hne6⟩:=h6.c cm Hc.o;refine (nq w6 base n m p q v.D cm dg x v.now hC6 HI.o HD.o om om om).mono ?_;rintro _ w7 ⟨rfl,hN7⟩;rw[HR.o] at hN7 ⊢;have hN7':=bF.ver h6 Hc.o hN7;have hA7:bB w7 b ⟨V,0,none⟩ bs T U:=by
    obtain⟨_,_,_,_,hk,_⟩:=hN7';exact hA6.same (hk.block b hA6.lt Hb.o)
   have hV7:bg w7 V v.key v.skew (some ⟨p.B,0,none⟩) v.now (some ⟨q.C,0,none⟩):=by
    obtain⟨_,_,_,hk,_⟩:=hN7;refine hV6.same (hk.block V hV6.lt (fun hx=>?_))
    rcases hx with hx | hx | hx
    ·exact h6.nV hx
    ·exact hne6.2.1 hx
    ·exact hne6.2.2.2 hx
   have hE7:readAt w7 EB 0 33=some (ev dg (x:Int)):=by
    obtain⟨_,_,_,hk,_⟩:=hN7;rw[← hE6];simp[readAt,hk.block EB (ac hE6) (fun hx=>HEB.o hx)]
   refine kS ⟨hA7,hV7,hE7⟩ ?_;walk_nrm
   repeat(refine yA ?_;walk_nrm)
   refine al ?_;have HN:=SM (hN7'.pre Hb6.o);clear hN7 hN7' hA7 hV7 hE7 h6 hA6 hV6 hE6 hC6 hne6
   go_wp2
   go_ret
   exact⟨rfl,HN.o⟩)
 ·refine dd rfl rfl (fun K hK=>?_);go_simp;have hb4:=ba (.cells (ev kZ 0) 89) (Sy w3);refine hK _ _ (fun u=>Row B8 u D0 dg∧bB u b ⟨V,0,none⟩ bs T U∧bg u V v.key v.skew (some ⟨p.B,0,none⟩) v.now (xh q v.c)) (fun _ h=>h) ⟨hR3.below hb4,hA3.below hb4,hV3.below hb4⟩ ?_;clear hK;have hB4:=Bk.new w3 (ev kZ 0) 89;have hA4:=hA3.below hb4;have hV4:=hV3.below hb4;have hR4:=hR3.below hb4;have h4:=h3.below hb4
  have Hb4:=SM (bt hbw3 hb4);have hnX : ¬ CX p q w3.heap.size:=fun hx=>by
   have hc4:=(h3.c cm Hc.o).1;have:=hc4.x_lt hx;omega
  have hEX : ¬ VX p V q v.c w3.heap.size:=fun hx=>by have:=h3.lt hx;omega
  have hbn:b < w3.heap.size:=hA3.lt;have hVn:V < w3.heap.size:=hV3.lt;have hDn:D0 < w3.heap.size:=om;have HEB:Hd (¬ CX p q w3.heap.size):=SM hnX;obtain⟨EB,hEB⟩:=eY w3.heap.size;rw[hEB] at hB4 hbn hVn hDn HEB hEX ⊢;have hzE:w.heap.size≤EB:=om;generalize w3.alloc (.cells (ev kZ 0) 89)=w4 at *;clear hb4 hA3 hV3 hR3 h3 hEB hnX hbw3
  repeat(refine yA ?_;walk_nrm)
  refine yR ?_;refine (Hexp.o w4).mono ?_;rintro _ w5' ⟨rfl,hb5⟩;refine⟨_,rfl,fun u=>Row B8 u D0 dg∧bB u b ⟨V,0,none⟩ bs T U∧bg u V v.key v.skew (some ⟨p.B,0,none⟩) v.now (xh q v.c),fun _ h=>h,⟨hR4.below hb5,hA4.below hb5,hV4.below hb5⟩,?_⟩;walk_nrm;have H5':=SM (h4.below hb5);have HA5':=SM (hA4.below hb5);have HR5':=SM (hR4.below hb5);have Hb5':=SM (bt Hb4.o hb5);have hB5:=hB4.below hb5;clear hb5 hA4 hV4 hR4 h4 Hb4 hB4
  repeat(refine yA ?_;walk_nrm)
  have kE:canAt w5' EB 0 33=true:=by have:=hB5.k;simpa using this
  refine dd rfl rfl (fun K hK=>?_);go_simp;have hk5:=cK w5' EB 0 (ev dg (x:Int));have hA6:=HA5'.o.same (hk5.block b HA5'.o.lt om);have hV6:=(show bg w5' V v.key v.skew (some ⟨p.B,0,none⟩) v.now (xh q v.c) from H5'.o.vf).same (hk5.block V H5'.o.vf.lt om)
  have hR6:=HR5'.o.same (hk5.block D0 HR5'.o.lt om);refine hK _ _ (fun u=>Row B8 u D0 dg∧bB u b ⟨V,0,none⟩ bs T U∧bg u V v.key v.skew (some ⟨p.B,0,none⟩) v.now (xh q v.c)) (fun _ h=>h) ⟨hR6,hA6,hV6⟩ ?_;clear hK kE;have HE5:Hd (readAt (setAt w5' EB 0 (ev dg (x:Int))) EB 0 33=some (ev dg (x:Int))):=SM ((hB5.all (ev dg (x:Int)) sm).r |> fun h=>by simpa using h)
  have H5:Hd (So (setAt w5' EB 0 (ev dg (x:Int))) base p V q n v):=SM (H5'.o.kb hk5 (fun i hi e=>by subst e;exact hEX hi))
  have Hb5:Hd (Below w.heap.size w (setAt w5' EB 0 (ev dg (x:Int)))):=SM (Hb5'.o.trans (hk5.below (fun i hi=>by subst hi;exact hzE) Hb5'.o.size))
  have HA5:=SM hA6;clear hA6 hV6 hR6 hk5 hB5 H5' HA5' HR5' Hb5';generalize setAt w5' EB 0 (ev dg (x:Int))=w5 at *
  repeat(refine yA ?_;walk_nrm)
  refine al ?_
  (
   go_wp2_with fail
   have hdb:=(Sy w5).drew;have hA6:=HA5.o.drew;have h6:=H5.o.below hdb;have hE6:readAt w5.drew EB 0 33=some (ev dg (x:Int)):=HE5.o;have hV6:bg w5.drew V v.key v.skew (some ⟨p.B,0,none⟩) v.now (some ⟨q.C,0,none⟩):=by
    have:=h6.vf;rw[Hc.o] at this;exact this
   refine yW (tk 0 15 (.run 15 (.take 16 .done))) (fun u=>bB u b ⟨V,0,none⟩ bs T U∧bg u V v.key v.skew (some ⟨p.B,0,none⟩) v.now (some ⟨q.C,0,none⟩)∧readAt u EB 0 33=some (ev dg (x:Int))) ⟨hA6,hV6,hE6⟩ ?_;have hw5:=Hb5.o.size;have Hb6:=SM (bt Hb5.o hdb);have hz6:=hdb.size;clear hdb HA5 H5 HE5;generalize w5.drew=w6 at *
   repeat((first|refine yO ?_|refine yM ?_|refine yF rfl rfl (fun w' hC'=>by obtain⟨hA',hV',hE'⟩:=hC';have c0':=hA'.f0;have c4':=hV'.f4;have c3':=hV'.f3;go_simp;first|done|exact rfl) ?_);walk_nrm)
   refine yR ?_;obtain⟨hC6,hne6⟩:=h6.c cm Hc.o;refine (nq w6 base n m p q v.D cm dg x v.now hC6 HI.o HD.o om om om).mono ?_;rintro _ w7 ⟨rfl,hN7⟩;rw[HR.o] at hN7 ⊢;have hN7':=bF.ver h6 Hc.o hN7;have hA7:bB w7 b ⟨V,0,none⟩ bs T U:=by
    obtain⟨_,_,_,_,hk,_⟩:=hN7';exact hA6.same (hk.block b hA6.lt Hb.o)
   have hV7:bg w7 V v.key v.skew (some ⟨p.B,0,none⟩) v.now (some ⟨q.C,0,none⟩):=by
    obtain⟨_,_,_,hk,_⟩:=hN7;refine hV6.same (hk.block V hV6.lt (fun hx=>?_))
    rcases hx with hx | hx | hx
    ·exact h6.nV hx
    ·exact hne6.2.1 hx
    ·exact hne6.2.2.2 hx
   have hE7:readAt w7 EB 0 33=some (ev dg (x:Int)):=by
    obtain⟨_,_,_,hk,_⟩:=hN7;rw[← hE6];simp[readAt,hk.block EB (ac hE6) (fun hx=>HEB.o hx)]
   refine kS ⟨hA7,hV7,hE7⟩ ?_;walk_nrm
   repeat(refine yA ?_;walk_nrm)
   refine al ?_;have HN:=SM (hN7'.pre Hb6.o);clear hN7 hN7' hA7 hV7 hE7 h6 hA6 hV6 hE6 hC6 hne6
   go_wp2
   go_ret
   exact⟨rfl,HN.o⟩)
end
section
theorem o8{key:RW}{l:List UInt8}{c:Nat}(h:eC key l = .error c):c≠0:=by
 unfold eC at h
 split at h
 ·cases h;decide
 ·split at h
  ·rename_i ht;cases h;exact pz _ _ _ ht
  ·split at h
   ·rename_i ha;cases h;exact oC _ _ _ ha
   ·cases h
theorem ig(w:World)(base n m V:Nat)(p:DP)(q:CP)(v:VM)(ad:Option Addr)(nn cc:Nat)(l:List UInt8)(h:So w base p V q n v)(hI:VI n m v)(hg:GK w)(hl:Bs w ad nn cc l)(hnn:nn≤1000000)(hm:m+120≤100000)(hn:n≤100)(hb0:0 < base)(hbase:base≤w.heap.size):
  Calls prog 20 #[.pointer (some ⟨V,0,none⟩),.slice ad nn cc] w fun e w'=>e = .returned (.int .i64 (aU v l).2)∧aF w base p V q v.c n (aU v l).1 w':=by
 have H:=SM h;have HG:=SM hg;have Hl:=SM hl;have HI:=SM hI;obtain⟨R,hR⟩:=eY (aU v l);rw[hR];have HR:=SM hR;clear h hg hl hI hR
 go_in
 go_wp2_with fail
 refine wp_scope_straight ?_
 go_wp2_with fail
 have hA1:=bB.made w ⟨V,0,none⟩ (.slice ad nn cc) (tv ⟨#[]⟩ none 0 0 0 0 cM) (St ⟨#[]⟩ none 0 0 0 0 0) (kf ..) rfl;have hb1:=ba (.cells (ki ⟨V,0,none⟩ (.slice ad nn cc) (tv ⟨#[]⟩ none 0 0 0 0 cM) (St ⟨#[]⟩ none 0 0 0 0 0)) 101) (Sy w);generalize w.alloc (.cells (ki ⟨V,0,none⟩ (.slice ad nn cc) (tv ⟨#[]⟩ none 0 0 0 0 cM) (St ⟨#[]⟩ none 0 0 0 0 0)) 101)=w1 at *;refine wp_label ?_
 go_upto_region 6 with fail
 obtain⟨A,hA⟩:=eY w.heap.size;rw[hA] at hA1 ⊢;have hb2:=ba (.cells #[.func (.func 36) #[.pointer (some ⟨A,0,none⟩)] #[],.func (.func 37) #[.pointer (some ⟨A,0,none⟩)] #[],.func (.func 38) #[.pointer (some ⟨A,0,none⟩)] #[],.func (.func 39) #[.pointer (some ⟨A,0,none⟩)] #[]] 102) (Sy w1);have hF2:=Bk.new w1 #[.func (.func 36) #[.pointer (some ⟨A,0,none⟩)] #[],.func (.func 37) #[.pointer (some ⟨A,0,none⟩)] #[],.func (.func 38) #[.pointer (some ⟨A,0,none⟩)] #[],.func (.func 39) #[.pointer (some ⟨A,0,none⟩)] #[]] 102
 have hbw:=bt hb1 hb2;have hA2:=hA1.below hb2;generalize w1.alloc (.cells #[.func (.func 36) #[.pointer (some ⟨A,0,none⟩)] #[],.func (.func 37) #[.pointer (some ⟨A,0,none⟩)] #[],.func (.func 38) #[.pointer (some ⟨A,0,none⟩)] #[],.func (.func 39) #[.pointer (some ⟨A,0,none⟩)] #[]] 102)=w2 at *;have hAF:A < w1.heap.size:=hA1.lt;obtain⟨F,hF⟩:=eY w1.heap.size;rw[hF] at hF2 hAF ⊢;have hnA : ¬ VX p V q v.c A:=fun hx=>by have:=H.o.lt hx;omega
 have hnF : ¬ VX p V q v.c F:=fun hx=>by have:=H.o.lt hx;have:=hb1.size;omega
 have h2:=H.o.below hbw;have hg2:=HG.o.below HG.o.1 hbw;have hl2:=Hl.o.below hbw;have hzw:=hbw.size;have HlA:Hd (∀ i,VX p V q v.c i→i < A):=SM (fun i hi=>by have:=H.o.lt hi;omega)
 have HnA:=SM hnA;have HnF:=SM hnF;have HF2:=SM hF2;have Hbw:=SM hbw;have hA0:0 < A:=om;have hwA:w.heap.size≤A:=om;have hVA:A≠V:=fun e=>hnA (.inr (.inl e));clear hb1 hb2 hA1 hbw hnA hnF H HG Hl hF hF2 hA;have H2:=SM h2;have HG2:=SM hg2;have Hl2:=SM hl2;have HA2:=SM hA2;clear h2 hg2 hl2 hA2;have c0:w2.cell? ⟨F,0,none⟩=some (.func (.func 36) #[.pointer (some ⟨A,0,none⟩)] #[]):=HF2.o.cell 0 _ rfl;refine wp_loop_rounds 5 ?_
 rw[rounds_succ]
 go_wp2_with fail
 refine (Bo w2 A V ad nn cc _ _ v.key v.skew v.now _ _ l HG2.o hA0 HA2.o H2.o.vf hVA Hl2.o hnn).mono ?_;rintro e w3 ⟨ho,hk3⟩;have hF3:=HF2.o.same (hk3.block F HF2.o.lt om);have h3:=H2.o.kb hk3 (fun i hi e=>by subst e;exact HnA.o hi)
 have hg3:=HG2.o.kb hk3 om;have hz3:=hk3.size;have Hbw3:=SM (Hbw.o.trans (hk3.below (fun i hi=>by subst hi;exact hwA) hzw))
 have HF3:=SM hF3;have H3:=SM h3;have HG3:=SM hg3;have HT3:Hd (∀ v2 u,aF w3 base p V q v.c n v2 u→aF w base p V q v.c n v2 u):=SM (fun v2 u hh=>hh.pre Hbw3.o);have hr:=HR.o;unfold aU at hr;clear c0 hk3 hF3 h3 hg3 HF2 H2 HG2 Hl2 HA2 Hbw HR;cases hq:eC v.key l with
 | error k =>
  rw[hq] at ho hr;obtain⟨rfl,_⟩:=ho;have hk0:=o8 hq;have d:(((k:Nat):Int) != 0)=true:=IG k hk0;simp only at hr;subst hr;obtain⟨wX,hwX⟩ : ∃ u,u=w3:=⟨_,rfl⟩;subst hwX;obtain⟨pX,hpX⟩ : ∃ u,u=p:=⟨_,rfl⟩;subst hpX;obtain⟨qX,hqX⟩ : ∃ u,u=q:=⟨_,rfl⟩;subst hqX;obtain⟨vX,hvX⟩ : ∃ u,u=v:=⟨_,rfl⟩;subst hvX;have HX:=H3;have HT:=HT3;clear hq hk0 H3 HT3 HI HF3 HG3 HnA HnF
  go_wp2_with fail
  (
   go_wp2_with fail
   refine (eI wX base n V pX qX vX HX.o).mono ?_;rintro _ w9 ⟨rfl,hN⟩;have HN:=SM (HT.o _ _ hN);clear hN
   go_wp2_with fail
   simp only[Exit.noGoto]
   go_ret
   exact⟨rfl,HN.o⟩)
 | ok ta =>
  obtain⟨t,a⟩:=ta;have hok:=qK hq;rw[hq] at ho hr;obtain⟨rfl,ad1,c1,ad2,c2,hA3,hs1,hs2,hf1,hf2⟩:=ho;have HA3:=SM hA3;have Hs1:=SM hs1;have Hs2:=SM hs2;have Hok:=SM hok;simp only at hr;have HR:=SM hr;have Hf2:=SM hf2;clear hA3 hs1 hs2 hf1 hf2 hok hr hq
  go_wp2_with fail
  rw[rounds_succ];have c1':w3.cell? ⟨F,1,none⟩=some (.func (.func 37) #[.pointer (some ⟨A,0,none⟩)] #[]):=HF3.o.cell 1 _ rfl
  go_wp2_with fail
  refine (yp w3 A V _ t a ad1 ad2 c1 c2 v.key v.skew v.now _ _ HA3.o H3.o.vf Hs1.o Hs2.o Hok.o.1 (by have:=HI.o.skew;omega) (by have:=HI.o.now;exact this)).mono ?_
  rintro _ w4 ⟨rfl,hb4⟩;have HF4:=SM (HF3.o.below hb4);have H4:=SM (H3.o.below hb4);have HG4:=SM (HG3.o.below HG3.o.1 hb4);have HA4:=SM (HA3.o.below hb4);have Hs4:=SM (Hs2.o.below hb4);have hz4:=hb4.size;have HT4:Hd (∀ v2 u,aF w4 base p V q v.c n v2 u→aF w base p V q v.c n v2 u):=SM (fun v2 u hh=>HT3.o _ _ (hh.pre hb4));clear c1' hb4 HF3 H3 HG3 HA3 Hs1 Hs2 HT3;obtain⟨ck,hck⟩:=eY (iz v.now v.skew t a)
  rw[hck] at HR ⊢;clear hck
  by_cases hk0:ck=0
  ·subst hk0;have hr:=HR.o;rw[if_pos rfl] at hr;have HR:=SM hr;clear hr
   go_wp2_with fail
   rw[rounds_succ];have c2':w4.cell? ⟨F,2,none⟩=some (.func (.func 38) #[.pointer (some ⟨A,0,none⟩)] #[]):=HF4.o.cell 2 _ rfl
   go_wp2_with fail
   refine (Br w4 base n V A p q v _ _ _ H4.o HA4.o HnA.o).mono ?_;rintro _ w5 ⟨rfl,hN5⟩;obtain⟨p5,q5,hB5,h5,hk5,hx5⟩:=hN5;have HF5:=SM (HF4.o.same (hk5.block F HF4.o.lt HnF.o));have HA5:=SM (HA4.o.same (hk5.block A HA4.o.lt HnA.o));have h0 : ¬ VX p V q v.c 0:=fun hx=>by have:=H4.o.lo' hx;omega
   have HG5:=SM (HG4.o.kb hk5 h0);have hz5:=hk5.size;have HT5:Hd (∀ v2 u,aF w5 base p5 V q5 (au v).c n v2 u→aF w base p V q v.c n v2 u):=SM (fun v2 u hh=>HT4.o _ _ (aF.trans hB5 hk5 hx5 hh));have hnA5 : ¬ VX p5 V q5 (au v).c A:=fun hx=>by
    rcases hx5 A hx with hh | hh
    ·exact HnA.o hh
    ·have:=HA4.o.lt;omega
   have HnA5:=SM hnA5;have H5:=SM h5;have hS5:aM w5 ad2 a.2.1.length c2 (a.2.1.map aY):=⟨Hs4.o.1,Hs4.o.2.same (fun g hg hl=>hk5.block g hl (fun hx=>by
    have h1:=HlA.o g hx;cases ad2 with
    | none=>cases hg
    | some a2 =>
     simp only[Value.ownBlock,Option.some.injEq] at hg;have:=Hf2.o a2 rfl;omega))⟩
   have HS5:=SM hS5;clear c2' hB5 h5 hk5 hx5 HF4 HA4 HG4 HT4 H4 Hs4 hnA5 hS5 HnA HnF h0;obtain⟨c,hc⟩:=eY ((au v).c);cases c with
   | none =>
    rw[hc];have hr:=HR.o;rw[hc] at hr;simp only at hr;subst hr;obtain⟨wX,hwX⟩ : ∃ u,u=w5:=⟨_,rfl⟩;subst hwX;obtain⟨pX,hpX⟩ : ∃ u,u=p5:=⟨_,rfl⟩;subst hpX;obtain⟨qX,hqX⟩ : ∃ u,u=q5:=⟨_,rfl⟩;subst hqX;obtain⟨vX,hvX⟩ : ∃ u,u=au v:=⟨_,rfl⟩;have HX:Hd (So wX base pX V qX n vX):=by rw[hvX];exact H5
    have HT:Hd (∀ v2 u,aF wX base pX V qX vX.c n v2 u→aF w base p V q v.c n v2 u):=by rw[hvX];exact HT5
    clear hc H5 HT5 HI HF5 HG5 HnA5 HR HA5 HS5;have hid:au vX=au v:=by rw[hvX];exact fH v
    have HT:Hd (∀ u,aF wX base pX V qX vX.c n (au vX) u→aF w base p V q v.c n (au v) u):=SM (fun u hh=>by rw[← hid];exact HT.o _ _ hh)
    clear hvX hid
    go_wp2_with fail
    refine (eI wX base n V pX qX vX HX.o).mono ?_;rintro _ w9 ⟨rfl,hN⟩;have HN:=SM (HT.o _ hN);clear hN
    go_wp2_with fail
    simp only[Exit.noGoto]
    go_ret
    exact⟨rfl,HN.o⟩
   | some cm =>
    obtain⟨g1,g2,g3⟩:=gF hc;rw[g3] at H5 HT5 HnA5 hc;have hr:=HR.o;rw[g3,hc] at hr;rw[g3,hc];simp only[↓reduceIte] at hr;have Hc:=SM hc;have HI5:=HI;clear hc g1 g2 HR
    by_cases hle:v.now≤cm.til
    ·rw[if_pos hle] at hr
     dsimp only
     rw[if_pos hle];have hr':(au v,(7:Int))=R:=by rw[g3];exact hr
     clear hr;subst hr';obtain⟨wX,hwX⟩ : ∃ u,u=w5:=⟨_,rfl⟩;subst hwX;obtain⟨pX,hpX⟩ : ∃ u,u=p5:=⟨_,rfl⟩;subst hpX;obtain⟨qX,hqX⟩ : ∃ u,u=q5:=⟨_,rfl⟩;subst hqX;obtain⟨vX,hvX⟩ : ∃ u,u=v:=⟨_,rfl⟩;subst hvX;have HX:=H5;have HT:Hd (∀ v2 u,aF wX base pX V qX vX.c n v2 u→aF w base p V q vX.c n v2 u):=SM (fun v2 u hh=>HT5.o _ _ hh);clear g3 H5 HT5 HI HF5 HG5 HnA5 HA5 HS5 hle HI5
     go_wp2_with fail
     (
      go_wp2_with fail
      refine (eI wX base n V pX qX vX HX.o).mono ?_;rintro _ w9 ⟨rfl,hN⟩;have HN:=SM (HT.o _ _ hN);clear hN
      go_wp2_with fail
      simp only[Exit.noGoto]
      go_ret
      exact⟨rfl,HN.o⟩)
    ·rw[if_neg hle] at hr
     dsimp only
     rw[if_neg hle];clear g3;have HR:=SM hr;clear hr hle
     go_wp2_with fail
     rw[rounds_succ];have c3':w5.cell? ⟨F,3,none⟩=some (.func (.func 39) #[.pointer (some ⟨A,0,none⟩)] #[]):=HF5.o.cell 3 _ rfl
     go_wp2_with fail
     refine (uC w5 base n m V A p5 q5 v cm _ _ a ad2 c2 H5.o HI.o Hc.o HA5.o HnA5.o HG5.o HS5.o Hok.o.2.1 ⟨Hok.o.1.2.2,Hok.o.2.2⟩ hm hn om).mono ?_;rintro _ w6 ⟨rfl,hN6⟩;obtain⟨r,hr⟩:=eY (insertC v.D cm (iA a) (a.2.2.1+v.skew.toNat) v.now);rw[hr] at hN6 HR ⊢;obtain⟨pX,qX,hB6,hX,hk6,hx6⟩:=hN6;have hHT:∀ v2 u,aF w6 base pX V qX (some r.2.1) n v2 u→aF w base p V q v.c n v2 u:=fun v2 u hh=>HT5.o _ _ (aF.trans hB6 hk6 hx6 hh)
     obtain⟨vX,hvX⟩ : ∃ u:VM,{ v with D:=r.1,c:=some r.2.1 } = u:=⟨_,rfl⟩
     have hr2:=HR.o;rw[hvX] at hX hr2;have HX:=SM hX;have HT:Hd (∀ v2 u,aF w6 base pX V qX vX.c n v2 u→aF w base p V q v.c n v2 u):=SM (by rw[← hvX];exact hHT)
     obtain⟨wX,hwX⟩ : ∃ u,u=w6:=⟨_,rfl⟩;subst hwX;obtain⟨x,hx⟩:=eY r.2.2;rw[hx] at hr2 ⊢;subst hr2;clear c3' hB6 hX hk6 hx6 hHT hvX hx hr HR HT5 H5 HF5 HG5 HnA5 HA5 HS5 HI HI5
     by_cases hx0:x=0
     ·subst hx0
      go_wp2_with fail
      rw[rounds_succ]
      go_wp2_with fail
      (
       go_wp2_with fail
       refine (eI wX base n V pX qX vX HX.o).mono ?_;rintro _ w9 ⟨rfl,hN⟩;have HN:=SM (HT.o _ _ hN);clear hN
       go_wp2_with fail
       simp only[Exit.noGoto]
       go_ret
       exact⟨rfl,HN.o⟩)
     ·have d:(x != 0)=true:=bne_iff_ne.2 hx0;clear hx0
      go_wp2_with fail
      (
       go_wp2_with fail
       refine (eI wX base n V pX qX vX HX.o).mono ?_;rintro _ w9 ⟨rfl,hN⟩;have HN:=SM (HT.o _ _ hN);clear hN
       go_wp2_with fail
       simp only[Exit.noGoto]
       go_ret
       exact⟨rfl,HN.o⟩)
  ·have hr:=HR.o;rw[if_neg hk0] at hr;have d:(ck != 0)=true:=bne_iff_ne.2 hk0;subst hr;obtain⟨wX,hwX⟩ : ∃ u,u=w4:=⟨_,rfl⟩;subst hwX;obtain⟨pX,hpX⟩ : ∃ u,u=p:=⟨_,rfl⟩;subst hpX;obtain⟨qX,hqX⟩ : ∃ u,u=q:=⟨_,rfl⟩;subst hqX;obtain⟨vX,hvX⟩ : ∃ u,u=v:=⟨_,rfl⟩;subst hvX;have HX:=H4;have HT:=HT4;clear hk0 H4 HT4 HI HF4 HG4 HnA HnF HA4 Hs4 Hok HR
   go_wp2_with fail
   (
    go_wp2_with fail
    refine (eI wX base n V pX qX vX HX.o).mono ?_;rintro _ w9 ⟨rfl,hN⟩;have HN:=SM (HT.o _ _ hN);clear hN
    go_wp2_with fail
    simp only[Exit.noGoto]
    go_ret
    exact⟨rfl,HN.o⟩)
end
section
structure R5 where
 kind:Int
 N:Int
 data:List UInt8
 cuts:List Int
noncomputable def aQ(n:Nat)(v:VM)(o:R5):VM × Int :=
 if o.kind=1 then (dp v o.N,0) else if o.kind=2 then bG n v else if o.kind=3 then aU v o.data else if o.kind=4 then aW v
 else if o.kind=5 then ({ v with D:=bP v.D o.N false [] },0)
 else if o.N=0 then ({ v with D:=de v.D o.cuts },0) else ({ v with D:=bP v.D o.N true o.cuts },0)
def Td(o:R5)(dv cv:Value):Array Value:=#[.int .i64 o.kind,.int .i64 o.N,dv,cv]
structure uw (w:World) (o:R5) (dv cv:Value):Prop where
 d:∃ ad c,dv = .slice ad o.data.length c∧Bs w ad o.data.length c o.data
 c:Se w cv o.cuts.length 1 (o.cuts.map (Value.int .i64))
theorem uw.below{w w':World}{o:R5}{dv cv:Value}(h:uw w o dv cv)(hb:Below w.heap.size w w'):uw w' o dv cv:=by
 obtain⟨ad,c,h1,h2⟩:=h.d;exact⟨⟨ad,c,h1,h2.below hb⟩,h.c.below hb⟩
theorem VI.step{n m:Nat}{v:VM}(h:VI n m v)(hn:n≤100)(h2:2≤n)(o:R5):VI n (m+120) (aQ n v o).1:=by
 unfold aQ
 split
 ·exact (h.tick _).more om
 ·split
  ·exact (h.boot hn h2).more om
  ·split
   ·exact h.verify hn _
   ·split
    ·exact h.compact hn
    ·split
     ·exact VI.more (m:=m) ⟨h.D.plan _ _ _,h.now,h.skew,h.c⟩ om
     ·split
      ·exact VI.more (m:=m) ⟨h.D.crash _,h.now,h.skew,h.c⟩ om
      ·exact VI.more (m:=m) ⟨h.D.plan _ _ _,h.now,h.skew,h.c⟩ om
theorem d8{P:Program}{fn:Func}{p q:Nat}{T:TypeId}{tmps:Array Value}{a:Addr}{v cs:Value}{w:World}(h:fn.results=#[.tmp p,.cell q T])(hp:tmps.getD p undef=v)(hq:tmps.getD q undef = .pointer (some a))(hl:(loadVar T a).run P w = .ok cs w):(results fn tmps).run P w = .ok (.tuple #[v,cs]) w:=by
 have hp':tmps[p]?.getD undef=v:=by simpa using hp
 have hq':tmps[q]?.getD undef = .pointer (some a):=by simpa using hq
 simp[results,h,hp',hq',asAddr,hl]
theorem fX{w:World}{b:Nat}{d:RP}(h:Row B8 w b d):(loadVar 36 ⟨b,0,none⟩).run prog w = .ok (.agg (fw B8 d)) w:=az w b 0 32 36 _ _ h.r underlying36 rfl sv
theorem Row.put{w:World}{b:Nat}{d:RP}(h:Row B8 w b d)(e:RP):Row B8 (setAt w b 0 (fw B8 e)) b e :=
 ⟨am w b 0 32 _ sm h.k,by rw[ap _ _ _ _ _ _ _ (by simpa using h.k)];exact h.k⟩
theorem aF.side{w w2 w3 w4:World}{base n V G:Nat}{p:DP}{q:CP}{v:VM}{c:Option CM}(hb:Below w.heap.size w w2)(h:aF w2 base p V q c n v w3)(hk:Kb (fun i=>i=G) w3 w4)(h1:w.heap.size≤G)(h2:G < w2.heap.size)(hG : ¬ VX p V q c G):aF w base p V q c n v w4:=by
 obtain⟨p',q',g1,g2,g3,g4⟩:=h;have hnG : ¬ VX p' V q' v.c G:=fun hx=>by
  rcases g4 G hx with hh | hh
  ·exact hG hh
  ·omega
 refine⟨p',q',g1,g2.kb hk (fun i hi e=>hnG (e ▸ hi)),(((Kb.of_below (X:=VX p V q c) hb).trans g3 (fun i hi=>.inl hi)).trans hk (fun i hi=>.inr (by subst hi;exact h1))),fun i hi=>?_⟩
 rcases g4 i hi with hh | hh
 ·exact .inl hh
 ·exact .inr (Nat.le_trans hb.size hh)
theorem gA(w:World)(o:R5)(dv cv:Value):∃ w1,(w.alloc (.cells (Td o dv cv) 42)).alloc (.cells (fw B8 bO) 36)=w1∧Bk w1 w.heap.size (Td o dv cv)∧Row B8 w1 (w.heap.size+1) bO∧Below w.heap.size w w1∧w1.heap.size=w.heap.size+2:=by
 have h1:=Bk.new w (Td o dv cv) 42;have hb1:=ba (.cells (Td o dv cv) 42) (Sy w);have h2:=Row.made (f:=B8) (w.alloc (.cells (Td o dv cv) 42)) 36 bO;rw[show (w.alloc (.cells (Td o dv cv) 42)).heap.size=w.heap.size+1 by simp] at h2
 have hb2:=ba (.cells (fw B8 bO) 36) (Below.refl (w.alloc (.cells (Td o dv cv) 42)).heap.size (w.alloc (.cells (Td o dv cv) 42)));exact⟨_,rfl,h1.below hb2,h2,bt hb1 hb2,sm⟩
theorem O2{u:World}{O:Nat}{o:R5}{dv cv:Value}(h:Bk u O (Td o dv cv)):u.cell? ⟨O,1,none⟩=some (.int .i64 o.N):=h.cell 1 _ rfl
theorem Q6{u:World}{O:Nat}{o:R5}{dv cv:Value}(h:Bk u O (Td o dv cv)):u.cell? ⟨O,2,none⟩=some dv:=h.cell 2 _ rfl
theorem QE{u:World}{O:Nat}{o:R5}{dv cv:Value}(h:Bk u O (Td o dv cv)):u.cell? ⟨O,3,none⟩=some cv:=h.cell 3 _ rfl
theorem C1(w:World)(base n m V b:Nat)(p:DP)(q:CP)(v:VM)(o:R5)(dv cv:Value)(d:Option Addr)(h:So w base p V q n v)(hI:VI n m v)(hM:bL w b v.key d (some ⟨V,0,none⟩))(hb : ¬ VX p V q v.c b):
  Calls prog 45 #[.pointer (some ⟨b,0,none⟩),.agg (Td o dv cv)] w fun e w'=>e = .returned (.tuple #[.int .i64 0,.agg (fw B8 bO)])∧aF w base p V q v.c n (dp v o.N) w':=by
 obtain⟨w1,hw1,hO,hG,hbw,hz⟩:=gA w o dv cv;have hM1:=hM.below hbw;have h1:=h.below hbw;have hlt:∀ i,VX p V q v.c i→i < w.heap.size:=fun i hi=>h.lt hi;have Hlt:=SM hlt;have Hb:=SM hb;have HI:=SM hI;clear h hM hb hI hlt
 go_in
 go_wp2_with fail
 clear hw1;have hdb:=(Sy w1).drew;refine yW (tk 0 6 (.run 6 .done)) (fun u=>bL u b v.key d (some ⟨V,0,none⟩)∧Bk u w.heap.size (Td o dv cv)) ⟨hM1.drew,hO.drew⟩ ?_;have hM2:=hM1.drew;have hO2:=hO.drew;have hG2:=hG.drew;have h2:=h1.below hdb;have Hbw:=SM (bt hbw hdb);have hz2:w1.drew.heap.size=w.heap.size+2:=hz;clear hdb hM1 hO hG h1 hbw hz;generalize w1.drew=w2 at *
 repeat((first|refine yO ?_|refine yM ?_|refine yF rfl rfl (fun w' hC'=>by obtain⟨hM',hO'⟩:=hC';have c2:=hM'.f2;have c1:=O2 hO';go_simp;first|done|exact rfl) ?_);walk_nrm)
 refine yR ?_;refine (kq w2 base n m V p q v o.N h2 HI.o).mono ?_;rintro _ w3 ⟨rfl,hN⟩;have hO3:Bk w3 w.heap.size (Td o dv cv):=by
  obtain⟨_,_,_,_,hk,_⟩:=hN;exact hO2.same (hk.block _ hO2.lt (fun hx=>by have:=Hlt.o _ hx;omega))
 have hM3:bL w3 b v.key d (some ⟨V,0,none⟩):=by
  obtain⟨_,_,_,_,hk,_⟩:=hN;exact hM2.same (hk.block _ hM2.lt Hb.o)
 have hG3:Row B8 w3 (w.heap.size+1) bO:=by
  obtain⟨_,_,_,_,hk,_⟩:=hN;exact hG2.same (hk.block _ hG2.lt (fun hx=>by have:=Hlt.o _ hx;omega))
 refine kS ⟨hM3,hO3⟩ ?_;walk_nrm
 repeat(refine yA ?_;walk_nrm)
 refine al ?_;have k3:=hG3.k;have hfin:=SM (aF.side Hbw.o hN (cK w3 (w.heap.size+1) 0 (fw B8 bO)) om om (fun hx=>by have:=Hlt.o _ hx;omega))
 have hG4:=SM (hG3.put bO);clear hN hO3 hM3 hG3 hM2 hO2 hG2 h2
 go_wp2
 refine bodyPost_ret (d8 rfl rfl rfl (fX hG4.o)) rfl ⟨rfl,hfin.o⟩
theorem CV(w:World)(base n m V b:Nat)(p:DP)(q:CP)(v:VM)(o:R5)(dv cv:Value)(d:Option Addr)(h:So w base p V q n v)(hI:VI n m v)(hM:bL w b v.key d (some ⟨V,0,none⟩))(hb : ¬ VX p V q v.c b)(hm:m+8≤100000)(h2:2≤n)(hn:n≤100)(hbase:base≤w.heap.size):
  Calls prog 46 #[.pointer (some ⟨b,0,none⟩),.agg (Td o dv cv)] w fun e w'=>e = .returned (.tuple #[.int .i64 (bG n v).2,.agg (fw B8 bO)])∧aF w base p V q v.c n (bG n v).1 w':=by
 obtain⟨w1,hw1,hO,hG,hbw,hz⟩:=gA w o dv cv;have hM1:=hM.below hbw;have h1:=h.below hbw;have hlt:∀ i,VX p V q v.c i→i < w.heap.size:=fun i hi=>h.lt hi;have Hlt:=SM hlt;have Hb:=SM hb;have HI:=SM hI;clear h hM hb hI hlt;obtain⟨R,hR⟩:=eY (bG n v);have hcall:=iV w1 base n m V p q v h1 HI.o hm hn h2 (by have:=hbw.size;omega)
 rw[hR] at hcall ⊢;clear hR;obtain⟨v',c'⟩:=R;have c2:=hM1.f2
 go_in
 go_wp2_with fail
 clear hw1;refine hcall.mono ?_;rintro _ w3 ⟨⟨k,rfl⟩,hN⟩;have hG3:Row B8 w3 (w.heap.size+1) bO:=by
  obtain⟨_,_,_,_,hk,_⟩:=hN;exact hG.same (hk.block _ hG.lt (fun hx=>by have:=Hlt.o _ hx;omega))
 have hfc:=jF c' k w3;generalize fg c' k=ev at hfc ⊢;have HG3:=SM hG3;have HN:=SM hN;have Hbw:=SM hbw;clear hG3 hN hcall hM1 h1 hO hG c2 hbw
 go_wp2_with fail
 refine hfc.mono ?_;rintro _ w4 ⟨rfl,hb4⟩;have hG4:=HG3.o.below hb4;have k3:=hG4.k;have hfin:=SM (aF.side Hbw.o (HN.o.post hb4) (cK w4 (w.heap.size+1) 0 (fw B8 bO)) om om (fun hx=>by have:=Hlt.o _ hx;omega))
 have hG5:=SM (hG4.put bO);clear hb4 hG4 hfc HG3 HN
 go_wp2
 refine bodyPost_ret (d8 rfl rfl rfl (fX hG5.o)) rfl ⟨rfl,hfin.o⟩
theorem sI(w:World)(base n m V b:Nat)(p:DP)(q:CP)(v:VM)(o:R5)(dv cv:Value)(d:Option Addr)(h:So w base p V q n v)(hI:VI n m v)(hM:bL w b v.key d (some ⟨V,0,none⟩))(hb : ¬ VX p V q v.c b)(hm:m+120≤100000)(hn:n≤100)(hbase:base≤w.heap.size):
  Calls prog 48 #[.pointer (some ⟨b,0,none⟩),.agg (Td o dv cv)] w fun e w'=>e = .returned (.tuple #[.int .i64 (aW v).2,.agg (fw B8 bO)])∧aF w base p V q v.c n (aW v).1 w':=by
 obtain⟨w1,hw1,hO,hG,hbw,hz⟩:=gA w o dv cv;have hM1:=hM.below hbw;have h1:=h.below hbw;have hlt:∀ i,VX p V q v.c i→i < w.heap.size:=fun i hi=>h.lt hi;have Hlt:=SM hlt;have Hb:=SM hb;have HI:=SM hI;clear h hM hb hI hlt;obtain⟨R,hR⟩:=eY (aW v);have hcall:=gk w1 base n m V p q v h1 HI.o hm hn (by have:=hbw.size;omega)
 rw[hR] at hcall ⊢;clear hR;obtain⟨v',c'⟩:=R;have c2:=hM1.f2
 go_in
 go_wp2_with fail
 clear hw1;refine hcall.mono ?_;rintro _ w3 ⟨⟨k,rfl⟩,hN⟩;have hG3:Row B8 w3 (w.heap.size+1) bO:=by
  obtain⟨_,_,_,_,hk,_⟩:=hN;exact hG.same (hk.block _ hG.lt (fun hx=>by have:=Hlt.o _ hx;omega))
 have hfc:=jF c' k w3;generalize fg c' k=ev at hfc ⊢;have HG3:=SM hG3;have HN:=SM hN;have Hbw:=SM hbw;clear hG3 hN hcall hM1 h1 hO hG c2 hbw
 go_wp2_with fail
 refine hfc.mono ?_;rintro _ w4 ⟨rfl,hb4⟩;have hG4:=HG3.o.below hb4;have k3:=hG4.k;have hfin:=SM (aF.side Hbw.o (HN.o.post hb4) (cK w4 (w.heap.size+1) 0 (fw B8 bO)) om om (fun hx=>by have:=Hlt.o _ hx;omega))
 have hG5:=SM (hG4.put bO);clear hb4 hG4 hfc HG3 HN
 go_wp2
 refine bodyPost_ret (d8 rfl rfl rfl (fX hG5.o)) rfl ⟨rfl,hfin.o⟩
end
section
def tZ:rt→Prop:=fun _=>True
structure Ag (half:Nat) (now:Int) (D:DM) (c:CM):Prop where
 d:D.down=false
 o:D.op=[]
 b:c.M.broken=false
 h:c.M.half=half
 e:∃ es,mj half (max c.M.last c.M.gen) (some (c.M.side,c.M.gen,es)) D.st∧c.M.count=es.length∧aO (gR es) now=aO c.ix now
def tp(c:CM):Nat:=max c.M.last c.M.gen
theorem Ag.later{half:Nat}{now now':Int}{D:DM}{c:CM}(h:Ag half now D c)(hn:now≤now'):Ag half now' D c:=by
 obtain⟨es,h1,h2,h3⟩:=h.e;exact⟨h.d,h.o,h.b,h.h,es,h1,h2,oO h3 hn⟩
theorem Ag.cr{half T:Nat}{now:Int}{D:DM}{c:CM}(h:Ag half now D c)(hT:tp c≤T):Cr half T tZ D:=by
 obtain⟨es,h1,_⟩:=h.e;exact Cr.nil h.o trivial (h1.more hT)
theorem yt{half k:Nat}{now:Int}{D:DM}{c:CM}(h:Ag half now D c)(hk:tp c≤k)(hk2:k < 256)(d:RP)(x:Nat)(hx:x≤4611686018427387904)(hr:(c.M.count:Int) < bp c.M.half):
  ((appendL D c.M d x).2.2=0∧(appendL D c.M d x).1.plan=D.plan∧Ag half now (appendL D c.M d x).1 { M:=(appendL D c.M d x).2.1,ix:=(oh c.ix d x).1,til:=c.til }∧max (appendL D c.M d x).2.1.last (appendL D c.M d x).2.1.gen=tp c) ∨
  ((appendL D c.M d x).2.2≠0∧D.plan≠[]∧(appendL D c.M d x).1.plan=D.plan∧((appendL D c.M d x).1.down=false→(appendL D c.M d x).2.1.broken=true)∧Cr half k tZ (appendL D c.M d x).1):=by
 obtain⟨es,hg,hc,hix⟩:=h.e;have hgp:fB half c.M.side c.M.gen es D.st:=hg.k;have hM:=h.h;subst hM;have hroom:es.length+1 < c.M.half:=by
  unfold bp at hr;split at hr <;> omega
 have hgk:c.M.gen≤tp c:=by unfold tp;omega
 have hput:=fun t=>hgp.put (T:=tp c) om hg.t hgk hg.l hroom (d,x) hx ((aR c.M.half c.M.side:Nat)+((es.length+1:Nat):Int)) om t;have hlt:aR c.M.half c.M.side+(es.length+1) < D.st.length:=nF hgp.sd hroom hg.l;have hgood:∀ t,∃ pick,tZ pick∧mj c.M.half k pick (dI D.st ((aR c.M.half c.M.side:Nat)+((es.length+1:Nat):Int),il c.M.gen (d,x)) t):=fun t=>by
  obtain⟨h1,h2⟩:=hput t
  rcases h1 with h1 | ⟨_,h1⟩
  ·exact⟨some (c.M.side,c.M.gen,es ++ [(d,x)]),trivial,fun i=>Nat.le_trans (h2 i) hk,by rw[gh];exact hg.l,hg.h1,h1⟩
  ·exact⟨some (c.M.side,c.M.gen,es),trivial,fun i=>Nat.le_trans (h2 i) hk,by rw[gh];exact hg.l,hg.h1,h1⟩
 have hcr:=(Lt D (aR c.M.half c.M.side) c.M.half (es.length+1) c.M.gen d x h.d om om hlt).cr (half:=c.M.half) (T:=k) (P:=tZ) h.o (Df ⟨some (c.M.side,c.M.gen,es),trivial,hg.more hk⟩ hgood);have hpl:((es.length+1:Nat):Int)=(c.M.count:Int)+1:=by rw[hc];rfl
 rw[hpl] at hcr hput;have e0:appendL D c.M d x=if (putD D (aR c.M.half c.M.side:Nat) c.M.half ((c.M.count:Int)+1) c.M.gen d x).2=0 then ((putD D (aR c.M.half c.M.side:Nat) c.M.half ((c.M.count:Int)+1) c.M.gen d x).1,{ c.M with count:=c.M.count+1 },0)
   else ((putD D (aR c.M.half c.M.side:Nat) c.M.half ((c.M.count:Int)+1) c.M.gen d x).1,eA c.M (putD D (aR c.M.half c.M.side:Nat) c.M.half ((c.M.count:Int)+1) c.M.gen d x).2,(putD D (aR c.M.half c.M.side:Nat) c.M.half ((c.M.count:Int)+1) c.M.gen d x).2):=by
  unfold appendL;rw[if_neg (by rw[h.b];decide)]
 rw[e0];generalize putD D (aR c.M.half c.M.side:Nat) c.M.half ((c.M.count:Int)+1) c.M.gen d x=R at hcr ⊢
 rcases hcr with ⟨c1,c2,c3,c4,c5⟩ | ⟨c1,c2,c3,c4,c5⟩ | ⟨c1,c2,c3,c4,c5⟩
 ·left
  rw[if_pos c1];refine⟨rfl,c5,⟨c4,c3,h.b,rfl,es ++ [(d,x)],?_,by simp[hc],?_⟩,rfl⟩
  ·have h64:fB c.M.half c.M.side c.M.gen (es ++ [(d,x)]) (dI D.st ((aR c.M.half c.M.side:Nat)+((c.M.count:Int)+1),il c.M.gen (d,x)) 64):=by
    rcases (hput 64).1 with h1 | ⟨h1,_⟩
    ·exact h1
    ·omega
   have c2':R.1.st=dI D.st ((aR c.M.half c.M.side:Nat)+((c.M.count:Int)+1),il c.M.gen (d,x)) 64:=c2;rw[c2'];exact⟨(hput 64).2,by rw[gh];exact hg.l,hg.h1,h64⟩
  ·rw[jK];exact ql hix d x
 ·right
  rw[if_neg (by rw[c1];decide)]
  refine⟨by rw[c1];decide,c2,c4,fun _=>?_,c5⟩
  simp[eA,c1]
 ·right
  rw[if_neg (by rw[c1];decide)]
  refine⟨by rw[c1];decide,c2,c4,fun _=>?_,c5⟩
  simp[eA,c1]
def Sg(es N:List RQ):rt→Prop:=fun q=>∃ p G,q=some (p,G,es)∨q=some (p,G,N)
theorem vH{half k:Nat}{now:Int}{D:DM}{c:CM}(h:Ag half now D c)(hk:tp c+1≤k)(hk2:k < 256)(N:List RQ)(hN:N.length+1≤half)(hx:∀ e ∈ N,e.2≤4611686018427387904):
  ∃ es,aO (gR es) now=aO c.ix now∧(
  ((rewriteL D c.M N).2.2=0∧(rewriteL D c.M N).1.plan=D.plan∧(rewriteL D c.M N).1.down=false∧(rewriteL D c.M N).1.op=[]∧(rewriteL D c.M N).2.1.broken=false∧(rewriteL D c.M N).2.1.half=half∧(rewriteL D c.M N).2.1.count=N.length ∧
   mj half (max (rewriteL D c.M N).2.1.last (rewriteL D c.M N).2.1.gen) (some ((rewriteL D c.M N).2.1.side,(rewriteL D c.M N).2.1.gen,N)) (rewriteL D c.M N).1.st∧max (rewriteL D c.M N).2.1.last (rewriteL D c.M N).2.1.gen≤tp c+1) ∨
  ((rewriteL D c.M N).2.2≠0∧D.plan≠[]∧(rewriteL D c.M N).1.plan=D.plan∧((rewriteL D c.M N).1.down=false→(rewriteL D c.M N).2.1.broken=true)∧Cr half k (Sg es N) (rewriteL D c.M N).1)):=by
 obtain⟨es,hg,hc,hix⟩:=h.e;refine⟨es,hix,?_⟩;have hgp:fB half c.M.side c.M.gen es D.st:=hg.k;have hM:=h.h;subst hM;have hp:=hgp.sd;have hq:1 - c.M.side < 2:=om;have hG:c.M.gen < tp c+1:=by unfold tp;omega
 have hlen:=hg.l;have hh1:=hg.h1;have hlt:aR c.M.half (1 - c.M.side)+(c.M.half - 1) < D.st.length:=nF hq om hg.l
 have htags:∀ (W:List (Int × Sj)) C,(∀ q ∈ W,q ∈ jo ((aR c.M.half (1 - c.M.side):Nat):Int) (tp c+1) 0 N)→∀ i,aX (gs (bC D.st W C W.length) i)≤tp c+1:=fun W C hW =>
  y4 D.st C (T:=tp c+1) om (fun i=>Nat.le_succ_of_le (hg.t i)) W (fun q hq=>by
   obtain⟨j,hj,rfl⟩:=mF _ _ _ _ q (hW q hq)
   show aX (il _ _)≤_
   rw[(qm (tp c+1) N[j] om (hx _ (List.getElem_mem _))).2.1];exact Nat.le_refl _)
 have hoth:∀ (W:List (Int × Sj)) C,(∀ q ∈ W,q ∈ jo ((aR c.M.half (1 - c.M.side):Nat):Int) (tp c+1) 0 N)→∀ i,(∀ j,j < N.length→i≠aR c.M.half (1 - c.M.side)+(j+1))→gs (bC D.st W C W.length) i=gs D.st i:=fun W C hW i hi =>
  uM D.st C i W (fun q hq=>by
   obtain⟨j,hj,rfl⟩:=mF _ _ _ _ q (hW q hq);have:=hi j hj
   show ((aR c.M.half (1 - c.M.side):Nat)+1+((0+j:Nat):Int)).toNat≠i
   omega)
 have hsame:∀ (W:List (Int × Sj)) C,(∀ q ∈ W,q ∈ jo ((aR c.M.half (1 - c.M.side):Nat):Int) (tp c+1) 0 N)→fB c.M.half c.M.side c.M.gen es (bC D.st W C W.length):=fun W C hW =>
  hgp.same (fun i hi=>hoth W C hW _ (fun j hj=>kX hh1 hp hi (j+1) om)) (by rw[hoth W C hW _ (fun j hj=>om)];exact hgp.o)
 have hcr1:=((sa (aR c.M.half (1 - c.M.side)) (tp c+1) N 0 D h.d om).sync).cr (half:=c.M.half) (T:=k) (P:=Sg es N) h.o (fun j C =>
  ⟨some (c.M.side,c.M.gen,es),⟨_,_,.inl rfl⟩,fun i=>Nat.le_trans (htags _ C (fun q hq=>List.take_subset _ _ hq) i) hk,by rw[bY];exact hlen,hh1,hsame _ C (fun q hq=>List.take_subset _ _ hq)⟩)
 have e0:rewriteL D c.M N=(if (fillD D (aR c.M.half (1 - c.M.side):Nat) c.M.half (tp c+1) N).2=0 then
   if (commitD (fillD D (aR c.M.half (1 - c.M.side):Nat) c.M.half (tp c+1) N).1 (aR c.M.half (1 - c.M.side):Nat) (tp c+1)).2=0 then
    ((commitD (fillD D (aR c.M.half (1 - c.M.side):Nat) c.M.half (tp c+1) N).1 (aR c.M.half (1 - c.M.side):Nat) (tp c+1)).1,{ c.M with side:=1 - c.M.side,gen:=tp c+1,count:=N.length },0)
   else ((commitD (fillD D (aR c.M.half (1 - c.M.side):Nat) c.M.half (tp c+1) N).1 (aR c.M.half (1 - c.M.side):Nat) (tp c+1)).1,eA c.M (commitD (fillD D (aR c.M.half (1 - c.M.side):Nat) c.M.half (tp c+1) N).1 (aR c.M.half (1 - c.M.side):Nat) (tp c+1)).2,(commitD (fillD D (aR c.M.half (1 - c.M.side):Nat) c.M.half (tp c+1) N).1 (aR c.M.half (1 - c.M.side):Nat) (tp c+1)).2)
   else ((fillD D (aR c.M.half (1 - c.M.side):Nat) c.M.half (tp c+1) N).1,eA c.M (fillD D (aR c.M.half (1 - c.M.side):Nat) c.M.half (tp c+1) N).2,(fillD D (aR c.M.half (1 - c.M.side):Nat) c.M.half (tp c+1) N).2)):=by
  unfold rewriteL;rw[if_neg (by rw[h.b];decide),if_neg (by unfold tp at hk;omega)]
  rfl
 have e1:fillD D (aR c.M.half (1 - c.M.side):Nat) c.M.half (tp c+1) N=if (fillW ((aR c.M.half (1 - c.M.side):Nat):Int) (tp c+1) 0 N D).2=0 then bz (fillW ((aR c.M.half (1 - c.M.side):Nat):Int) (tp c+1) 0 N D).1 else fillW ((aR c.M.half (1 - c.M.side):Nat):Int) (tp c+1) 0 N D:=by
  unfold fillD;have hr:bp (c.M.half:Int)=(c.M.half:Int) - 1:=by unfold bp;rw[if_neg om]
  rw[if_neg (by rw[hr];omega)]
 rw[← e1] at hcr1;rw[e0];generalize fillD D (aR c.M.half (1 - c.M.side):Nat) c.M.half (tp c+1) N=F at hcr1;clear e0 e1
 rcases hcr1 with ⟨c1,c2,c3,c4,c5⟩ | ⟨c1,c2,c3,c4,c5⟩ | ⟨c1,c2,c3,c4,c5⟩
 ·rw[if_pos c1];have hFl:F.1.st.length=D.st.length:=by rw[c2,bY]
  have k1:fB c.M.half c.M.side c.M.gen es F.1.st:=by rw[c2];exact hsame _ _ (fun q hq=>hq)
  have k2:∀ i,aX (gs F.1.st i)≤tp c+1:=by rw[c2];exact htags _ _ (fun q hq=>hq)
  have k3:∀ i (hi:i < N.length),gs F.1.st (aR c.M.half (1 - c.M.side)+(i+1))=il (tp c+1) N[i]:=fun i hi=>by
   rw[c2];exact Cn D.st (aR c.M.half (1 - c.M.side)) (tp c+1) N om i hi
  have k4:∀ i,N.length < i→i < c.M.half→aX (gs F.1.st (aR c.M.half (1 - c.M.side)+i))≠tp c+1:=fun i hi hi2=>by
   rw[c2,hoth _ _ (fun q hq=>hq) _ (fun j hj=>om)];have:=hg.t (aR c.M.half (1 - c.M.side)+i);have:tp c=max c.M.last c.M.gen:=rfl;omega
  have hh:=fun t=>k1.head (T:=tp c+1) om k2 hG (Nat.le_refl _) (by rw[hFl];exact hlen) N hN hx k3 k4 ((aR c.M.half (1 - c.M.side):Nat):Int) om t
  have hcr2:=(oL F.1 (aR c.M.half (1 - c.M.side)) (tp c+1) c4 (by rw[hFl];omega)).cr (half:=c.M.half) (T:=k) (P:=Sg es N) c3 (Df ⟨some (c.M.side,c.M.gen,es),⟨_,_,.inl rfl⟩,fun i=>Nat.le_trans (k2 i) hk,by rw[hFl];exact hlen,hh1,k1⟩ (fun t=>by
   obtain⟨h1,h2⟩:=hh t
   rcases h1 with h1 | ⟨_,h1⟩
   ·exact⟨some (1 - c.M.side,tp c+1,N),⟨_,_,.inr rfl⟩,fun i=>Nat.le_trans (h2 i) hk,by rw[gh,hFl];exact hlen,hh1,h1⟩
   ·exact⟨some (c.M.side,c.M.gen,es),⟨_,_,.inl rfl⟩,fun i=>Nat.le_trans (h2 i) hk,by rw[gh,hFl];exact hlen,hh1,h1⟩))
  generalize commitD F.1 (aR c.M.half (1 - c.M.side):Nat) (tp c+1)=R at hcr2
  rcases hcr2 with ⟨r1,r2,r3,r4,r5⟩ | ⟨r1,r2,r3,r4,r5⟩ | ⟨r1,r2,r3,r4,r5⟩
  ·left
   rw[if_pos r1];have hmx:max c.M.last (tp c+1)=tp c+1:=by have:tp c=max c.M.last c.M.gen:=rfl;omega
   refine⟨rfl,by rw[← c5];exact r5,r4,r3,h.b,rfl,rfl,?_,?_⟩
   ·have r2':R.1.st=dI F.1.st ((aR c.M.half (1 - c.M.side):Nat),dH (tp c+1) toll) 64:=r2;have h64:fB c.M.half (1 - c.M.side) (tp c+1) N (dI F.1.st ((aR c.M.half (1 - c.M.side):Nat),dH (tp c+1) toll) 64):=by
     rcases (hh 64).1 with h1 | ⟨h1,_⟩
     ·exact h1
     ·omega
    show mj c.M.half (max c.M.last (tp c+1)) (some (1 - c.M.side,tp c+1,N)) R.1.st
    rw[hmx,r2'];exact⟨(hh 64).2,by rw[gh,hFl];exact hlen,hh1,h64⟩
   ·show max c.M.last (tp c+1)≤tp c+1
    omega
  ·right
   rw[if_neg (by rw[r1];decide)]
   exact⟨by rw[r1];decide,by rw[← c5];exact r2,by rw[← c5];exact r4,fun _=>by simp[eA,r1],r5⟩
  ·right
   rw[if_neg (by rw[r1];decide)]
   exact⟨by rw[r1];decide,by rw[← c5];exact r2,by rw[← c5];exact r4,fun _=>by simp[eA,r1],r5⟩
 ·right
  rw[if_neg (by rw[c1];decide)]
  exact⟨by rw[c1];decide,c2,c4,fun _=>by simp[eA,c1],c5⟩
 ·right
  rw[if_neg (by rw[c1];decide)]
  exact⟨by rw[c1];decide,c2,c4,fun _=>by simp[eA,c1],c5⟩
theorem ey{n k:Nat}{now:Int}{D:DM}{c:CM}(h:Ag (n / 2) now D c)(hI:CI n c)(hk:tp c+1≤k)(hk2:k < 256):
  ((compactC D c now).2.2=0∧(compactC D c now).1.plan=D.plan∧Ag (n / 2) now (compactC D c now).1 (compactC D c now).2.1∧tp (compactC D c now).2.1≤tp c+1∧(compactC D c now).2.1.ix=aO c.ix now∧(compactC D c now).2.1.til=c.til∧(compactC D c now).2.1.M.count=(cy c.ix now).length) ∨
  ((compactC D c now).2.2≠0∧D.plan≠[]∧(compactC D c now).1.plan=D.plan∧((compactC D c now).1.down=false→(compactC D c now).2.1.M.broken=true)∧(compactC D c now).2.1.ix=c.ix∧(compactC D c now).2.1.til=c.til∧Cr (n / 2) k (fun q=>∃ p G es,q=some (p,G,es)∧aO (gR es) now=aO c.ix now) (compactC D c now).1):=by
 have hL:=hI.live now;obtain⟨es0,hg0,hc0,_⟩:=h.e;have hg0p:fB (n / 2) c.M.side c.M.gen es0 D.st:=hg0.k;have hlen:(cy c.ix now).length+1≤n / 2:=by
  have h1:=hI.len now;have h2:=hI.room;have h3:=hg0.h1;rw[h.h] at h2;unfold bp at h2;split at h2 <;> omega
 have hx:∀ e ∈ cy c.ix now,e.2≤4611686018427387904:=fun e he=>hI.exp e.1 e.2 ((hL.mem e).1 he).1;obtain⟨es,hes,hout⟩:=vH h hk hk2 (cy c.ix now) hlen hx;have hN:aO (gR (cy c.ix now)) now=aO c.ix now:=by rw[CG hL,drop_drop]
 unfold compactC;generalize rewriteL D c.M (cy c.ix now)=R at hout
 rcases hout with ⟨r1,r2,r3,r4,r5,r6,r7,r8,r9⟩ | ⟨r1,r2,r3,r4,r5⟩
 ·left
  rw[if_pos r1];refine⟨rfl,r2,⟨r3,r4,r5,r6,_,r8,r7,?_⟩,r9,rfl,rfl,r7⟩
  show _=aO (aO c.ix now) now
  rw[drop_drop];exact hN
 ·right
  rw[if_neg r1];refine⟨r1,r2,r3,r4,rfl,rfl,r5.more (Nat.le_refl _) ?_⟩;rintro q ⟨p,G,rfl | rfl⟩
  ·exact⟨p,G,es,rfl,hes⟩
  ·exact⟨p,G,_,rfl,hN⟩
end
section
noncomputable def sw(n:Nat)(ix:RP→Option Nat)(d:RP)(x:Nat)(now:Int):Int :=
 if ((ix d).any fun (m:Nat)=>decide (now≤(m:Int)))=true then 8 else if 4611686018427387904 < x then 9 else if ((cy ix now).length:Int) < bp ((n / 2:Nat):Int) then 10 else 9
noncomputable def CE(n:Nat)(ix:RP→Option Nat)(d:RP)(x:Nat)(now:Int):RP→Option Nat :=
 if sw n ix d x now=10 then aO (oh ix d x).1 now else aO ix now
theorem pW(ix:RP→Option Nat)(d:RP)(now:Int):((ix d).any fun (m:Nat)=>decide (now≤(m:Int)))=(aO ix now d).isSome:=by
 cases h:ix d with
 | none=>rw[cZ h];rfl
 | some x =>
  rw[cH h]
  by_cases hx:now≤(x:Int)
  ·rw[if_pos hx];simp[hx]
  ·rw[if_neg hx];simp[hx]
theorem xQ{n k:Nat}{now:Int}{D:DM}{c:CM}(h:Ag (n / 2) now D c)(hk:tp c≤k)(hk2:k < 256)(d:RP)(x:Nat)(hx:x≤4611686018427387904)(hr:(c.M.count:Int) < bp c.M.half):
  ((putC D c d x).2.2=10∧(putC D c d x).1.plan=D.plan∧Ag (n / 2) now (putC D c d x).1 (putC D c d x).2.1∧tp (putC D c d x).2.1=tp c∧(putC D c d x).2.1.til=c.til∧(putC D c d x).2.1.ix=(oh c.ix d x).1) ∨
  (D.plan≠[]∧(putC D c d x).1.plan=D.plan∧((putC D c d x).1.down=false→(putC D c d x).2.1.M.broken=true)∧Cr (n / 2) k tZ (putC D c d x).1):=by
 have ho:=yt h hk hk2 d x hx hr;unfold putC;generalize appendL D c.M d x=R at ho
 rcases ho with ⟨h1,h2,h3,h4⟩ | ⟨h1,h2,h3,h4,h5⟩
 ·left;rw[if_pos h1];exact⟨rfl,h2,h3,h4,rfl,rfl⟩
 ·right;rw[if_neg h1];exact⟨h2,h3,h4,h5⟩
theorem Gf(c:CM)(d:RP)(now:Int):Ge c d now=((c.ix d).any fun (m:Nat)=>decide (now≤(m:Int))):=by
 unfold Ge;cases c.ix d <;> rfl
theorem sx(n:Nat)(c:CM)(d:RP)(x:Nat)(now:Int):sw n c.ix d x now=if Ge c d now=true then 8 else if 4611686018427387904 < x then 9 else if ((cy c.ix now).length:Int) < bp ((n / 2:Nat):Int) then 10 else 9:=by rw[Gf];rfl
theorem kI{n k:Nat}{now:Int}{D:DM}{c:CM}(h:Ag (n / 2) now D c)(hI:CI n c)(hk:tp c+1≤k)(hk2:k < 256)(d:RP)(x:Nat)(R:DM × CM × Int)(hR:insertC D c d x now=R):
  (R.1.plan=D.plan∧Ag (n / 2) now R.1 R.2.1∧tp R.2.1≤tp c+1∧R.2.1.til=c.til∧R.2.2=sw n c.ix d x now∧aO R.2.1.ix now=CE n c.ix d x now) ∨
  (D.plan≠[]∧R.1.plan=D.plan∧(R.1.down=false→R.2.1.M.broken=true)∧Cr (n / 2) k tZ R.1):=by
 subst hR;have hroom:bp c.M.half=bp ((n / 2:Nat):Int):=by rw[h.h]
 unfold insertC CE
 by_cases h1:Ge c d now=true
 ·rw[if_pos h1];have e:sw n c.ix d x now=8:=by rw[sx];rw[if_pos h1]
  exact .inl ⟨rfl,h,by simp only;omega,rfl,e.symm,by rw[e,if_neg dc]⟩
 rw[if_neg h1]
 by_cases h2:c.M.broken=true∨4611686018427387904 < x
 ·rw[if_pos h2];have hx:4611686018427387904 < x:=by
   rcases h2 with h2 | h2
   ·rw[h.b] at h2;cases h2
   ·exact h2
  have e:sw n c.ix d x now=9:=by rw[sx];rw[if_neg h1,if_pos hx]
  exact .inl ⟨rfl,h,by simp only;omega,rfl,e.symm,by rw[e,if_neg dc]⟩
 rw[if_neg h2];have hx : ¬ 4611686018427387904 < x:=fun hh=>h2 (.inr hh)
 by_cases h3:(c.M.count:Int) < bp c.M.half
 ·rw[if_pos h3];have e:sw n c.ix d x now=10:=by
   rw[sx];rw[if_neg h1,if_neg hx,if_pos];have:=hI.len now;rw[hroom] at h3;omega
  rcases xQ h (k:=k) om hk2 d x om h3 with ⟨a1,a2,a3,a4,a5,a6⟩ | ⟨a1,a2,a3,a4⟩
  ·exact .inl ⟨a2,a3,om,a5,by rw[a1,e],by rw[e,if_pos rfl,a6]⟩
  ·exact .inr ⟨a1,a2,a3,a4⟩
 rw[if_neg h3]
 rcases ey h hI hk hk2 with ⟨b1,b2,b3,b4,b5,b6,b7⟩ | ⟨b1,b2,b3,b4,b5,b6,b7⟩
 ·rw[if_pos b1];have hroom2:bp (compactC D c now).2.1.M.half=bp ((n / 2:Nat):Int):=by rw[b3.h]
  by_cases h4:((compactC D c now).2.1.M.count:Int) < bp (compactC D c now).2.1.M.half
  ·rw[if_pos h4];have e:sw n c.ix d x now=10:=by
    rw[sx];rw[if_neg h1,if_neg hx,if_pos];rw[b7,hroom2] at h4;exact h4
   rcases xQ b3 (k:=k) om hk2 d x om h4 with ⟨a1,a2,a3,a4,a5,a6⟩ | ⟨a1,a2,a3,a4⟩
   ·refine .inl ⟨by rw[a2,b2],a3,om,by rw[a5,b6],by rw[a1,e],?_⟩
    rw[e,if_pos rfl,a6,b5];exact ql (drop_drop _ _) d x
   ·exact .inr ⟨by rw[← b2];exact a1,by rw[a2,b2],a3,a4⟩
  ·rw[if_neg h4];have e:sw n c.ix d x now=9:=by
    rw[sx];rw[if_neg h1,if_neg hx,if_neg];rw[b7,hroom2] at h4;exact h4
   exact .inl ⟨b2,b3,b4,b6,e.symm,by rw[e,if_neg dc];simp only;rw[b5,drop_drop]⟩
 ·rw[if_neg b1];exact .inr ⟨b2,b3,b4,b7.more (Nat.le_refl _) (fun _ _=>trivial)⟩
theorem sC{v:VM}{c:CM}(h:(au v).c=some c):dD v=cy c.ix v.now:=by unfold dD;rw[h]
end
end Go.Proofs.YtlcfaaodmickbaaGreatDoor
