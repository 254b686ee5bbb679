/- The part of the proof that is of the law TopRoom alone. No conditions. -/
import Derived.Stop.Joined
import Derived.Test.YtlcfaaodmickbaaGreatDoorPc24
set_option linter.unusedSimpArgs false
set_option linter.unusedVariables false
set_option maxRecDepth 100000
set_option maxHeartbeats 8000000
namespace Go.Proofs.YtlcfaaodmickbaaGreatDoor
open Go.RowKit Go.Proofs.Tryz
section
theorem VI.room{n m:Nat}{v:VM}(h:VI n m v)(h2:2≤n):((dD v).length:Int)≤((n / 2:Nat):Int) - 1:=by
 unfold dD;cases hc:(au v).c with
 | none=>simp;omega
 | some c =>
  have hI:=h.look.c c hc;obtain⟨K,hK1,hK2⟩:=hI.keys;have hr:bp c.M.half=((n / 2:Nat):Int) - 1:=by rw[hI.half];unfold bp;rw[if_neg om]
  have hcr:=hI.room;simp only
  by_cases hx:∃ L,ef c.ix v.now L
  ·obtain⟨L,hL⟩:=hx;rw[hL.eq];have:=jM hL hK2;rw[hr] at hcr;omega
  ·unfold cy;rw[dif_neg hx];simp;omega
theorem ti{n:Nat}(hn:n≤100)(h2:2≤n):∀ (L:List R5) (m:Nat) (v:VM),VI n m v→∀ r ∈ (runL n v L).1,0≤r.live∧r.live≤((n / 2:Nat):Int) - 1
 | [],_,_,_,r,hr=>by simp[runL] at hr
 | o :: L,m,v,h,r,hr=>by
  rw[em] at hr;simp only[List.mem_cons] at hr;have hs:=h.step hn h2 o
  rcases hr with rfl | hr
  ·refine⟨by unfold jt;simp only;omega,?_⟩
   exact hs.look.room h2
  ·exact ti hn h2 L _ _ hs.look r hr
end
section
open Go.RowKit Go.ChangeMaps
theorem Ky(k:RW)(s n:Int):bQ k s n=du k s n:=by unfold bQ du;rfl
theorem G0(w:World)(key:RW)(skew n:Int)(ad:Option Addr)(kn c:Nat)(L:List R3)(hL:L.length=kn)(hO:rC w (.slice ad kn c) L)(hkn:kn≤9223372036854775807)(hg:GK w):
  Calls prog 3 #[.agg (bQ key skew n),.slice ad kn c] w fun e w'=>e = .returned (.bool true)∧Below w.heap.size w w':=by
 have hM:=eV.made w key skew n;have hb1:=ba (.cells (bQ key skew n) 24) (Sy w);have HO:=SM (hO.below hb1);have HL:=SM hL;have HG:=SM (hg.below hg.1 hb1);clear hO hL hg
 go_in
 go_upto_region 1 with fail
 generalize w.alloc (.cells (bQ key skew n) 24)=w1 at *;have HM:=SM hM;have HB:=SM hb1;clear hM hb1
 go_wp2_with fail
 refine (eT w1 HG.o).mono ?_;rintro _ w2 ⟨rfl,hb⟩;replace HM:=SM (HM.o.below hb);replace HO:=SM (HO.o.below hb);replace HG:=SM (HG.o.below HG.o.1 hb);replace HB:=SM (bt HB.o hb);clear hb;have q1:=HM.o.r
 go_wp2_with fail
 refine (jZ w2 key skew n ad kn c L HL.o HO.o hkn).mono ?_;rintro _ w3 ⟨⟨bb,rfl,hbb⟩,hb⟩;replace HM:=SM (HM.o.below hb);replace HO:=SM (HO.o.below hb);replace HG:=SM (HG.o.below HG.o.1 hb);replace HB:=SM (bt HB.o hb);clear hb q1;cases bb with
 | false =>
  go_wp2_with fail
  refine (eT w3 HG.o).mono ?_;rintro _ w4 ⟨rfl,hb⟩;replace HB:=SM (bt HB.o hb)
  go_wp2
  go_ret
  exact⟨rfl,HB.o⟩
 | true =>
  have HA:=SM (hbb rfl);clear hbb;obtain⟨n,rfl⟩ : ∃ m:Nat,n=(m:Int):=⟨n.toNat,by have:=HA.o.n;omega⟩
  have hn2:2≤n:=by have:=HA.o.n;omega
  have hn30:n≤30:=by have:=HA.o.n;omega
  have hs1:1≤skew:=HA.o.s.1;have hs2:skew≤1073741824:=HA.o.s.2;have hk40:kn≤40:=by have:=HA.o.l;have:=HL.o;omega
  have q1:=HM.o.r;rw[Ky] at q1
  go_wp2_with fail
  refine (lG w3 key skew n kn c ad L hs1 hs2 hn2 om HL.o om HO.o HA.o.o HG.o).mono ?_;rintro _ w4 ⟨⟨rv,rfl,hrow⟩,hb⟩;replace HM:=SM (HM.o.below hb);replace HB:=SM (bt HB.o hb);have hrr:=ti (n:=n) om hn2 (L.map Prod.fst) 0 _ (VI.new (n:=n) key skew hs1 hs2 om);have hrl:=qR n (bN key skew (dG n)) (L.map Prod.fst);rw[List.length_map,HL.o] at hrl;obtain⟨rs,hrs⟩:=eY ((runL n (bN key skew (dG n)) (L.map Prod.fst)).1)
  rw[hrs] at hrow hrr hrl;obtain⟨ad4,cap4,rfl,hrd⟩:=aG hrow;have Hrd:Hd (Se w4 (.slice ad4 kn cap4) kn 36 (aZ jy rs)):=SM ⟨_,_,rfl,hrd⟩;have Hrr:=SM hrr;have Hrl:=SM hrl;clear hb q1 hrs hrow hrd hrr hrl HO HG HA HL
  go_wp2
  go_loopw [7] (fun i wr=>∃ k:Nat,k≤kn∧i = .int .i64 k∧Below w4.heap.size w4 wr) (fun i _=>kn - (intOf i).toNat)
  case atStart=>exact⟨0,om,rfl,Below.refl _ _⟩
  case round =>
   obtain⟨k,hk,rfl,hbr⟩:=hrel;have HBr:=SM hbr;clear hbr
   by_cases hlt:k < kn
   ·have d0:decide ((k:Int) < (kn:Int))=true:=dt;have HMr:=SM (HM.o.below HBr.o);obtain⟨b,o,rfl,hr⟩:=kR (Hrd.o.below HBr.o) Hrl.o k hlt;have hc3:=(j9 hr).2.2.2;obtain⟨l0,l1⟩:=Hrr.o _ (List.getElem_mem (by rw[Hrl.o];exact hlt))
    generalize (rs[k]'(by rw[Hrl.o];exact hlt)).live=lv at *
    have hH:(n:Int).tdiv 2=((n / 2:Nat):Int):=by rw[Int.tdiv_eq_ediv_of_nonneg om];omega
    have hH2:(n:Int) / 2=((n / 2:Nat):Int):=om;obtain⟨H,hHe⟩ : ∃ H:Int,((n / 2:Nat):Int)=H:=⟨_,rfl⟩;rw[hHe] at hH hH2 l1;have hHb:1≤H∧H≤15:=om;have hw1:IntKind.i64.wrap H=H:=wi;have hw2:IntKind.i64.wrap (H - 1)=H - 1:=wi;have d1:decide (H - 1 < lv)=false:=df;have d2:decide (lv < 0)=false:=df;have m2:=HMr.o.f2;clear hr hHe
    go_upto_region 9 with fail
    have hdb:=(Sy wr).drew;have m2':=(HMr.o.below hdb).f2;have hc3':wr.drew.cell? ⟨b,o+k * 36+3,none⟩=some (.int .i64 lv):=by rw[← hc3];rfl
    refine yW (tk 0 18 .done) (fun u=>u.cell? ⟨w.heap.size,17,none⟩=some (.int .i64 (n:Int))∧u.cell? ⟨b,o+k * 36+3,none⟩=some (.int .i64 lv)) ⟨m2',hc3'⟩ ?_;replace HBr:=SM (bt HBr.o hdb);clear hdb m2 hc3 m2' hc3' HMr;generalize wr.drew=w5 at *
    repeat((first|refine yO ?_|refine yM ?_|refine yF rfl rfl (fun w' hC'=>by obtain⟨c1,c2⟩:=hC';go_simp;first|done|exact rfl) ?_);walk_nrm)
    refine al ?_;clear hH hH2 hw1 hw2 d1 d2
    go_wp2
    go_roundw
    case rel=>exact⟨k+1,om,by go_num,HBr.o⟩
    case measure=>simp[intOf];omega
   ·obtain rfl:k=kn:=om;have d0:decide ((k:Int) < (k:Int))=false:=sm
    go_wp2
    go_ret
    exact⟨rfl,HB.o.trans (HBr.o.mono HB.o.size)⟩
end
end Go.Proofs.YtlcfaaodmickbaaGreatDoor
