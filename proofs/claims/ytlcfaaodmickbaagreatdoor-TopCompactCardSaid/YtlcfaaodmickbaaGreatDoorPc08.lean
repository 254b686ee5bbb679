/- Part 8 of the proof: texts merged and shortened by a program. No conditions. -/
import Derived.WalkMore
import Derived.ScopeJumps
import Derived.Deep.RegionLaw
import Derived.Laws.BytesArg
import Derived.Laws.IdiomStrings
import Derived.Lib.AppendStr
import Derived.Laws.StructEq
import Derived.Test.YtlcfaaodmickbaaGreatDoorPc07
set_option linter.unusedSimpArgs false
set_option linter.unusedVariables false
set_option maxRecDepth 100000
set_option maxHeartbeats 8000000
namespace Go.Proofs.YtlcfaaodmickbaaGreatDoor
open Go.RowKit Go.Proofs.Tryz
section
open Go.RowKit
end
section
def wN(x:Sj)(base:Nat)(e:Ending)(w':World):Prop:=∃ v,e = .returned (.tuple #[.int .u32 (aX x:Nat),v,.bool true])∧ao w' base v (gq x)
def rD(x:Sj)(base:Nat)(e:Ending)(w':World):Prop:=∃ v,e = .returned (.tuple #[.int .u32 (aX x:Nat),v,.bool true])∧ao w' base v (gq x)∧dJ v
def dK(x:Sj)(base:Nat)(e:Ending)(w':World):Prop:=if Ta x=true then rD x base e w' else e = .returned (.tuple #[.int .u32 0,.slice none 0 0,.bool false])
theorem dK.yes{x:Sj}{base:Nat}{e:Ending}{w':World}(h:dK x base e w')(hk:Ta x=true):rD x base e w':=by unfold dK at h;rwa [if_pos hk] at h
theorem dK.no{x:Sj}{base:Nat}{e:Ending}{w':World}(h:dK x base e w')(hk:Ta x=false):e = .returned (.tuple #[.int .u32 0,.slice none 0 0,.bool false]):=by unfold dK at h;rwa [if_neg (by rw[hk];simp)] at h
def fV(x:Sj)(base:Nat)(e:Ending)(w':World):Prop:=if Ta x=true then wN x base e w' else e = .returned (.tuple #[.int .u32 0,.slice none 0 0,.bool false])
theorem fV.yes{x:Sj}{base:Nat}{e:Ending}{w':World}(h:fV x base e w')(hk:Ta x=true):wN x base e w':=by unfold fV at h;rwa [if_pos hk] at h
theorem fV.no{x:Sj}{base:Nat}{e:Ending}{w':World}(h:fV x base e w')(hk:Ta x=false):e = .returned (.tuple #[.int .u32 0,.slice none 0 0,.bool false]):=by unfold fV at h;rwa [if_neg (by rw[hk];simp)] at h
theorem ao.only{w w':World}{base B:Nat}{v:Value}{l:List UInt8}(h:ao w base v l)(ho:cC B w w')(hB:B < base):ao w' base v l:=by
 refine⟨h.1,?_⟩
 rcases h.2 with hn | ⟨g,cap,cur,hv,hbg,hg,rest⟩
 ·exact .inl hn
 ·exact .inr ⟨g,cap,cur,hv,hbg,by rw[ho.block g om];exact hg,rest⟩
theorem QM(w6:World)(bx:Nat)(x:Sj)(h:readAt w6 bx 0 64=some (av x)):Ps (w6.alloc (.cells #[.slice (some ⟨bx,0,none⟩) 56 64,.slice (some ⟨bx,60,none⟩) 4 4] 39)) (some ⟨w6.heap.size,0,none⟩) 2 2 [(sl x).take 56,(sl x).drop 60]:=by
 have hb:=ba (.cells #[.slice (some ⟨bx,0,none⟩) 56 64,.slice (some ⟨bx,60,none⟩) 4 4] 39) (Sy w6);have h1:=(nz h 0 56 64 om om om).below hb;have h2:=(nz h 60 4 4 om om om).below hb;rw[List.drop_zero] at h1;rw[List.take_of_length_le (l:=(sl x).drop 60) sm] at h2;exact Ps.two (by simp[go_sem]) h1 h2
theorem QN(w5 w6:World)(bx B:Nat)(x:Sj)(ho:cC B (w5.alloc (.cells #[.slice (some ⟨bx,0,none⟩) 56 64,.slice (some ⟨bx,60,none⟩) 4 4] 39)).drew w6)(hB:B < w5.heap.size)(hbx:bx≠B)(h:readAt w5 bx 0 64=some (av x)):Ps w6 (some ⟨w5.heap.size,0,none⟩) 2 2 [(sl x).take 56,(sl x).drop 60]:=by
 have hb:=(ba (.cells #[.slice (some ⟨bx,0,none⟩) 56 64,.slice (some ⟨bx,60,none⟩) 4 4] 39) (Sy w5)).drew;have h1:=(nz h 0 56 64 om om om).below hb;have h2:=(nz h 60 4 4 om om om).below hb;rw[List.drop_zero] at h1;rw[List.take_of_length_le (l:=(sl x).drop 60) sm] at h2;have h3:=ho.bs om h1;have h4:=ho.bs om h2;refine Ps.two ?_ h3 h4;rw[ho.readAt _ _ _ om];simp[go_sem]
theorem Ja{b:Bool}(h:true = !b):b=false:=by cases b;rfl;cases h
theorem I9{b:Bool}(h:false = !b):b=true:=by cases b;cases h;rfl
theorem aV{α:Type}{l:List α}{n:Nat}(h:l.length=n+1):∃ a m,l=a :: m∧m.length=n:=by
 cases l with
 | nil=>simp at h
 | cons a m=>exact⟨a,m,rfl,by simpa using h⟩
theorem Lf(l:List UInt8)(h:l.length≤2):nb l < 65536:=by
 have h1:=nb_lt l;have h2:(256:Nat) ^ l.length≤256 ^ 2:=Nat.pow_le_pow_right om h;have h3:(256:Nat) ^ 2=65536:=dc;omega
theorem vi(l:List UInt8)(h:l.length≤4):nb l < 4294967296:=by
 have h1:=nb_lt l;have h2:(256:Nat) ^ l.length≤256 ^ 4:=Nat.pow_le_pow_right om h;have h3:(256:Nat) ^ 4=4294967296:=dc;omega
set_option maxRecDepth 100000 in
theorem so(x:Sj)(w:World):
  Calls prog 206 #[.agg (av x)] w fun e w'=>dK x w.heap.size e w'∧Below w.heap.size w w':=by
 obtain⟨w0,hw0⟩:=eY (w.alloc (.cells (av x) 201));have hr0:readAt w0 w.heap.size 0 64=some (av x):=by rw[← hw0];simp[go_sem]
 have hB0:Below w.heap.size w w0:=by rw[← hw0];exact ba _ (Below.refl _ _)
 have hsz0:w0.heap.size=w.heap.size+1:=by rw[← hw0];simp
 have Hr0:=SM hr0;have HB0:=SM hB0;have Hsz0:=SM hsz0;have hlt0:w.heap.size < w0.heap.size:=om;have hs0:=nz hr0 0 64 64 om om om;rw[List.drop_zero,List.take_of_length_le sm] at hs0;have Hs0:=SM hs0;clear hr0 hB0 hsz0 hs0
 go_in
 go_wp2
 refine wp_scope_jumps 0 (fun a' w'=>Ta x=false∧Below w.heap.size w w'∧∃ t:Array Value,a'={ tmps:=t,defers:=[] }∧t.size=44) (fun _ _=>0) rfl ?_ ?_
 ·go_wp2_with fail
  refine (C6 _ 64 64 (sl x) _ Hs0.o om).mono ?_;rintro _ w1 ⟨⟨B,hB,rfl,hrd⟩,hb1⟩;have HB:=SM hB;have Hrd1:=SM hrd;have Hb1:=SM hb1;clear hrd hb1 hw0 hB
  go_wp2_with fail
  refine (gz B (sl x) 2 _ Hrd1.o om om sm).mono ?_;have hlen:nb ((sl x).take 2)=qE x:=rfl;rw[hlen];rintro _ w2 ⟨rfl,hrd,ho⟩;have hn16:qE x < 65536:=Lf _ sm;have Hrd2:=SM hrd;have Hb2:=SM (ho.below Hb1.o HB.o);obtain⟨n,hn⟩:=eY (qE x);rw[hn] at hn16 ⊢;have HN:=SM hn;clear hlen hrd ho Hrd1 Hb1 hn Hs0
  by_cases h54:54 < n
  ·have d0:decide ((54:Int) < (n:Int))=true:=sO;have hno:Ta x=false:=by unfold Ta;rw[HN.o,df];rfl
   have Hno:=SM hno;have hfin:=SM (HB0.o.trans (Hb2.o.mono HB0.o.size));clear hno
   go_wp2
   go_step3
   exact⟨rfl,Hno.o,hfin.o,_,rfl,rfl⟩
  ·have d0:decide ((54:Int) < (n:Int))=false:=sO;have hle:n≤54:=om;clear h54
   go_wp2_with fail
   refine (Ey B _ n _ Hrd2.o sO om).mono ?_;rintro _ w3 ⟨⟨v,rfl,hne,hown⟩,hrd,w3a,ho,hb3⟩;have Hnn:=SM hne;have hlt2:=Hrd2.o.lt;have Hpay:Hd (ao w3 w2.heap.size v (gq x)):=by
    show ao _ _ _ _
    have:gq x=((sl x).drop 2).take n:=by unfold gq;rw[HN.o]
    rw[this];exact hown
   have Hrd3:=SM hrd;have Hb3:=SM ((ho.below Hb2.o HB.o).trans (hb3.mono (ho.below Hb2.o HB.o).size));have hsz3:w2.heap.size≤w3.heap.size:=by have:=ho.size;have:=hb3.size;omega
   clear hne hown hrd ho hb3 Hb2 Hrd2
   go_wp2_with fail
   rw[show (54:Int) - (n:Int)=((54 - n:Nat):Int) by omega]
   refine (Ey B _ (54 - n) _ Hrd3.o sO om).mono ?_;rintro _ w4 ⟨⟨v2,rfl,hne,hown⟩,hrd,w4a,ho,hb4⟩;have Hpay4:=SM ((Hpay.o.only ho hlt2).below hb4);have Hb4:=SM ((ho.below Hb3.o HB.o).trans (hb4.mono (ho.below Hb3.o HB.o).size));have hpad:(((sl x).drop 2).drop n).take (54 - n)=og x:=by unfold og;rw[HN.o,List.drop_drop]
   have h56:(((sl x).drop 2).drop n).drop (54 - n)=(sl x).drop 56:=by rw[List.drop_drop,List.drop_drop];congr 1;omega
   rw[hpad] at hown;rw[h56] at hrd;have hsz4:w2.heap.size≤w4.heap.size:=by have:=ho.size;have:=hb4.size;omega
   have Hrd4:=SM hrd;obtain⟨pa,pc,rfl,hpb⟩:=hown.bs;have Hpb:=SM hpb;have Hpl:=SM hpb.1;have hpm:(og x).length≤100:=by unfold og;simp;omega
   clear hne hown hrd ho hb4 Hb3 Hrd3 Hpay hpad h56 hpb hsz3;obtain⟨P,hP⟩:=eY (og x);rw[hP] at Hpb Hpl hpm ⊢;have HP:=SM hP;clear hP;generalize hM:P.length=M at *;have HM:=SM hM;clear hM
   go_wp2_with fail
   go_loop [9,25] (fun _ i=>∃ k:Nat,k≤M∧i = .int .i64 k∧Hd (∀ j,j < k→P.getD j 0=0)) (fun _ i=>M - (intOf i).toNat)
   case atStart=>exact⟨0,om,rfl,fun j hj=>absurd hj om⟩
   case round =>
    obtain⟨k,hk,rfl,hz⟩:=hrel
    by_cases hlt:k < M
    ·obtain⟨b,o,rfl,hcell⟩:=Hpb.o.at k hlt
     by_cases hc:P.getD k 0=0
     ·have hz2:Hd (∀ j,j < k+1→P.getD j 0=0):=fun j hj=>by
       rcases Nat.lt_or_eq_of_le (Nat.lt_succ_iff.1 hj) with h | h
       ·exact hz.o j h
       ·rw[h];exact hc
      have hd:(((P.getD k 0).toNat:Int) != 0)=false:=by rw[hc];rfl
      clear hc;generalize ((P.getD k 0).toNat:Int)=y at *
      go_wp2
      go_round
      case rel=>exact⟨k+1,om,by go_num,hz2.o⟩
      case measure=>simp[intOf];omega
     ·have hd:(((P.getD k 0).toNat:Int) != 0)=true:=by
       rw[bne_iff_ne];intro e;exact hc (UInt8.toNat_inj.1 (by have:(0:UInt8).toNat=0:=rfl;omega))
      have hno:Ta x=false:=by
       unfold Ta;rw[HP.o];have : ¬ ∀ c ∈ P,c=0:=fun h=>hc (h _ (by rw[List.getD_eq_getElem?_getD,List.getElem?_eq_getElem (by rw[HM.o];exact hlt)];exact List.getElem_mem _))
       rw[decide_eq_false this];simp
      have Hno:=SM hno;have hfin:=SM (HB0.o.trans (Hb4.o.mono HB0.o.size));clear hno hc;generalize ((P.getD k 0).toNat:Int)=y at *
      go_wp2
      go_step3
      exact⟨rfl,Hno.o,hfin.o,_,rfl,rfl⟩
    ·obtain rfl:k=M:=om;have hS:Ao x=t7 ((sl x).take 56 ++ (sl x).drop 60):=rfl;have hfl:([(sl x).take 56,(sl x).drop 60] : List (List UInt8)).flatten=(sl x).take 56 ++ (sl x).drop 60:=sm;have hsto:nb (((sl x).drop 56).take 4)=Am x:=rfl;have hsto32:Am x < 4294967296:=vi _ sm;have hsum32:Ao x < 4294967296:=uO _;have hokx:Ta x=decide (Am x=Ao x):=by
      unfold Ta;have hall:∀ c ∈ og x,c=0:=by
       rw[HP.o];intro c hc;obtain⟨j,hj,rfl⟩:=List.getElem_of_mem hc;have:=hz.o j (by rw[← HM.o];exact hj)
       rw[List.getD_eq_getElem?_getD,List.getElem?_eq_getElem hj] at this;exact this
      rw[HN.o,decide_eq_true hle,decide_eq_true hall];simp
     have hd60:((sl x).drop 56).drop 4=(sl x).drop 60:=by rw[List.drop_drop]
     have htag:nb (((sl x).drop 60).take 4)=aX x:=by rw[List.take_of_length_le sm];rfl
     have htag32:aX x < 4294967296:=vi _ sm;obtain⟨S,hSS⟩:=eY (Ao x);obtain⟨D,hDD⟩:=eY (Am x);obtain⟨G,hGG⟩:=eY (aX x);rw[hSS] at hS hsum32 hokx;rw[hDD] at hsto hsto32 hokx;rw[hGG] at htag htag32;have HS:=SM hS;have Hfl:=SM hfl;have Hsto:=SM hsto;have Hokx:=SM hokx;have Hd60:=SM hd60;have Htag:=SM htag;have HGG:=SM hGG;have hwr:IntKind.u64.wrap (S:Int)=(S:Int):=wu;have hltB:=Hrd4.o.lt;have hr4:readAt w4 w.heap.size 0 64=some (av x):=by rw[ak Hb4.o hlt0];exact Hr0.o
     have Hr4:=SM hr4;have hBb:w.heap.size≠B:=by have:=HB.o;omega
     have HRd:Hd (∀ W,Below w4.heap.size w4 W→Sf W B ((sl x).drop 56)):=fun W hW=>Hrd4.o.below hW;have HRx:Hd (∀ W,Below w4.heap.size w4 W→readAt W w.heap.size 0 64=some (av x)):=fun W hW=>by rw[ak hW (ac Hr4.o)];exact Hr4.o
     clear hS hfl hsto hokx hd60 htag hSS hDD hGG hr4 Hr0 Hpb hz HM Hpl hpm HP;have hne:((D:Int) != (S:Int))=true∨((D:Int) != (S:Int))=false:=by cases ((D:Int) != (S:Int)) <;> simp
     have HDS:Hd (((D:Int) != (S:Int)) = !decide (D=S)):=by
      show _=_
      by_cases h:D=S
      ·subst h;simp
      ·rw[decide_eq_false h];rw[bne_iff_ne.2 om];rfl
     go_wp2_with fail
     rcases hne with hne | hne
     all_goals
      go_region_with (first
       | (go_at_call 126;refine (gz B ((sl x).drop 56) 4 _ (HRd.o _ (by first | exact (Below.refl _ _).drew | exact (ba _ (Below.refl _ _)).drew)) om om sm).mono ?_;rw[Hsto.o];rintro _ w6 ⟨rfl,hrd6,ho6⟩;have HO:Hd (∃ W1,Below w4.heap.size w4 W1∧cC B W1 w6):=⟨_,by first | exact (Below.refl _ _).drew | exact (ba _ (Below.refl _ _)).drew,ho6⟩;have Hrd6:=SM hrd6;have Ho6:=SM ho6;clear hrd6 ho6)
       | (go_at_call 204;refine (Et _ 2 2 [(sl x).take 56,(sl x).drop 60] _ (by first | exact QM _ _ x ((Ho6.o.readAt _ _ _ hBb).trans (HRx.o _ (Below.refl _ _).drew)) | exact QN _ _ _ B x Ho6.o hltB hBb Hr4.o)).mono ?_;rw[Hfl.o,← HS.o];rintro _ w7 ⟨rfl,hb7⟩;have Hb7:Hd (Below w6.heap.size w6 w7):=(by first | exact hb7 | exact bt (ba _ (Below.refl _ _)) hb7);clear hb7))
     all_goals
      obtain⟨W1,hW1,hO⟩:=HO.o;have hbA:=Hb4.o.trans (hW1.mono Hb4.o.size);have hbB:=hO.below hbA HB.o;have HbC:=SM (hbB.trans (Hb7.o.mono hbB.size));have hpB:=(((Hpay4.o.below hW1).only hO hlt2).below Hb7.o);have HpC:=SM hpB;have HrC:=SM (Hrd6.o.below Hb7.o);clear hW1 hO hbA hbB hpB HO Ho6 Hrd6
     ·have hq:decide (D=S)=false:=by have h:=HDS.o;rw[hne] at h;exact Ja h
      have Hno:Hd (Ta x=false):=by show _=_;rw[Hokx.o];exact hq
      have hfin:=SM (HB0.o.trans (HbC.o.mono HB0.o.size));clear hq hne
      go_wp2
      go_step3
      exact⟨rfl,Hno.o,hfin.o,_,rfl,rfl⟩
     ·have hq:decide (D=S)=false:=by have h:=HDS.o;rw[hne] at h;exact Ja h
      have Hno:Hd (Ta x=false):=by show _=_;rw[Hokx.o];exact hq
      have hfin:=SM (HB0.o.trans (HbC.o.mono HB0.o.size));clear hq hne
      go_wp2
      go_step3
      exact⟨rfl,Hno.o,hfin.o,_,rfl,rfl⟩
     ·have hq:decide (D=S)=true:=by have h:=HDS.o;rw[hne] at h;exact I9 h
      have Hyes:Hd (Ta x=true):=by show _=_;rw[Hokx.o];exact hq
      have hrdl:=HrC.o;rw[Hd60.o] at hrdl;have HrD:=SM hrdl;clear hq hne hrdl
      go_wp2_with fail
      refine (gz B _ 4 _ HrD.o om om sm).mono ?_;rw[Htag.o];rintro _ w8 ⟨rfl,_,ho8⟩;have hfin:=SM (HB0.o.trans ((ho8.below HbC.o HB.o).mono HB0.o.size));have hle2:w.heap.size≤w2.heap.size:=by have:=HB.o;omega
      have hpf:=SM (bj (HpC.o.only ho8 hlt2) hle2);clear ho8
      go_wp2
      simp only[Exit.jump]
      go_ret3
      refine⟨?_,hfin.o⟩;unfold dK;rw[if_pos Hyes.o];exact⟨_,by rw[HGG.o];rfl,hpf.o,Hnn.o⟩
     ·have hq:decide (D=S)=true:=by have h:=HDS.o;rw[hne] at h;exact I9 h
      have Hyes:Hd (Ta x=true):=by show _=_;rw[Hokx.o];exact hq
      have hrdl:=HrC.o;rw[Hd60.o] at hrdl;have HrD:=SM hrdl;clear hq hne hrdl
      go_wp2_with fail
      refine (gz B _ 4 _ HrD.o om om sm).mono ?_;rw[Htag.o];rintro _ w8 ⟨rfl,_,ho8⟩;have hfin:=SM (HB0.o.trans ((ho8.below HbC.o HB.o).mono HB0.o.size));have hle2:w.heap.size≤w2.heap.size:=by have:=HB.o;omega
      have hpf:=SM (bj (HpC.o.only ho8 hlt2) hle2);clear ho8
      go_wp2
      simp only[Exit.jump]
      go_ret3
      refine⟨?_,hfin.o⟩;unfold dK;rw[if_pos Hyes.o];exact⟨_,by rw[HGG.o];rfl,hpf.o,Hnn.o⟩
 ·rintro a' w' ⟨hno,hb,t,rfl,ht⟩;obtain⟨l⟩:=t;have hl:l.length=44:=ht;clear ht;obtain⟨u0,l0,rfl,hl0⟩:=aV hl;obtain⟨u1,l1,rfl,hl1⟩:=aV hl0;obtain⟨u2,l2,rfl,hl2⟩:=aV hl1;obtain⟨u3,l3,rfl,hl3⟩:=aV hl2;obtain⟨u4,l4,rfl,hl4⟩:=aV hl3;obtain⟨u5,l5,rfl,hl5⟩:=aV hl4;obtain⟨u6,l6,rfl,hl6⟩:=aV hl5;obtain⟨u7,l7,rfl,hl7⟩:=aV hl6;obtain⟨u8,l8,rfl,hl8⟩:=aV hl7;obtain⟨u9,l9,rfl,hl9⟩:=aV hl8;obtain⟨u10,l10,rfl,hl10⟩:=aV hl9
  obtain⟨u11,l11,rfl,hl11⟩:=aV hl10;obtain⟨u12,l12,rfl,hl12⟩:=aV hl11;obtain⟨u13,l13,rfl,hl13⟩:=aV hl12;obtain⟨u14,l14,rfl,hl14⟩:=aV hl13;obtain⟨u15,l15,rfl,hl15⟩:=aV hl14;obtain⟨u16,l16,rfl,hl16⟩:=aV hl15;obtain⟨u17,l17,rfl,hl17⟩:=aV hl16;obtain⟨u18,l18,rfl,hl18⟩:=aV hl17;obtain⟨u19,l19,rfl,hl19⟩:=aV hl18;obtain⟨u20,l20,rfl,hl20⟩:=aV hl19;obtain⟨u21,l21,rfl,hl21⟩:=aV hl20;obtain⟨u22,l22,rfl,hl22⟩:=aV hl21
  obtain⟨u23,l23,rfl,hl23⟩:=aV hl22;obtain⟨u24,l24,rfl,hl24⟩:=aV hl23;obtain⟨u25,l25,rfl,hl25⟩:=aV hl24;obtain⟨u26,l26,rfl,hl26⟩:=aV hl25;obtain⟨u27,l27,rfl,hl27⟩:=aV hl26;obtain⟨u28,l28,rfl,hl28⟩:=aV hl27;obtain⟨u29,l29,rfl,hl29⟩:=aV hl28;obtain⟨u30,l30,rfl,hl30⟩:=aV hl29;obtain⟨u31,l31,rfl,hl31⟩:=aV hl30;obtain⟨u32,l32,rfl,hl32⟩:=aV hl31;obtain⟨u33,l33,rfl,hl33⟩:=aV hl32;obtain⟨u34,l34,rfl,hl34⟩:=aV hl33
  obtain⟨u35,l35,rfl,hl35⟩:=aV hl34;obtain⟨u36,l36,rfl,hl36⟩:=aV hl35;obtain⟨u37,l37,rfl,hl37⟩:=aV hl36;obtain⟨u38,l38,rfl,hl38⟩:=aV hl37;obtain⟨u39,l39,rfl,hl39⟩:=aV hl38;obtain⟨u40,l40,rfl,hl40⟩:=aV hl39;obtain⟨u41,l41,rfl,hl41⟩:=aV hl40;obtain⟨u42,l42,rfl,hl42⟩:=aV hl41;obtain⟨u43,l43,rfl,hl43⟩:=aV hl42;obtain rfl:l43=[]:=List.eq_nil_of_length_eq_zero hl43;have Hno:=SM hno;clear hno hw0
  go_wp2
  simp only[Exit.jump]
  go_ret3
  refine⟨?_,hb⟩;unfold dK;rw[if_neg (by rw[Hno.o];simp)]
  rfl
theorem zg(x:Sj)(w:World):
  Calls prog 206 #[.agg (av x)] w fun e w'=>fV x w.heap.size e w'∧Below w.heap.size w w':=by
 refine (so x w).mono ?_;rintro e w' ⟨h,hb⟩;refine⟨?_,hb⟩;unfold fV
 by_cases hk:Ta x=true
 ·rw[if_pos hk];obtain⟨v,h1,h2,_⟩:=h.yes hk;exact⟨v,h1,h2⟩
 ·rw[if_neg hk];exact h.no (by simpa using hk)
end
section
section
variable {P:Program} {ops:Array Oper} {o:Oper} {a:Act} {w:World} {K:Act→World→Prop} {Q:Exit→Act→World→Prop} {E:Prop}
end
end
section
def aY(l:List UInt8):ByteArray:=⟨l.toArray⟩
theorem An(ns:List UInt8):(ns.map fun c=>(c.toNat:Int)).foldl (fun (r:ByteArray) (n:Int)=>r.push (UInt8.ofNat n.toNat)) ByteArray.empty=aY ns:=by
 rw[foldl_push_bytes];unfold aY
 congr 1
 apply Array.ext'
 rw[Array.toList_append];have e:(ByteArray.empty.data.toList:List UInt8)=[]:=rfl;rw[e,List.nil_append,List.map_map];have:((fun (n:Int)=>UInt8.ofNat n.toNat) ∘ fun (c:UInt8)=>(c.toNat:Int))=id:=by
  funext c;simp
 rw[this,List.map_id]
theorem qb{w:World}{ad:Option Addr}{n c:Nat}{l:List UInt8}(h:Bs w ad n c l):(convert 39 9 (.slice ad n c)).run prog w = .ok (.string (aY l)) w:=by
 rcases h.src with ⟨rfl,rfl,rfl,rfl⟩ | ⟨a,rfl,hs⟩
 ·rw[run_convert_bytes_nil w 39 5 underlying39 underlying5 0 0 _ underlying9];rfl
 ·rw[run_convert_bytes_string w 39 9 5 _ n c underlying39 underlying5 underlying9];have e:l.map B8=(l.map fun c=>(c.toNat:Int)).map (Value.int .u8):=by rw[List.map_map];rfl
  have hl:=run_loadCells_list (P:=prog) w a (l.map B8) hs;rw[List.length_map,h.1,e] at hl;rw[run_bytesToString w a n c _ hl,An]
theorem nH(l:List UInt8):(aY l).toList=l:=ByteArray.toList_mk l
theorem Mu(a b:List UInt8):((aY a).toList == (aY b).toList)=decide (a=b):=by
 rw[nH,nH]
 by_cases h:a=b
 ·subst h;simp
 ·rw[decide_eq_false h];simpa using h
attribute [irreducible] aY
theorem oF(ad bd:Option Addr)(n m c c2:Nat)(a b:List UInt8)(w:World)(ha:Bs w ad n c a)(hb:Bs w bd m c2 b):
  Calls prog 207 #[.slice ad n c,.slice bd m c2] w fun e w'=>e = .returned (.bool (decide (a=b)))∧w=w':=by
 have k1:=qb ha;have k2:=qb hb;have he:=Mu a b;clear ha hb
 go_in
 go_wp2
 go_ret
 exact⟨rfl,rfl⟩
def toll:List UInt8:=[84,79,76,76]
def Tb(x:Sj):Bool:=Ta x && decide (gq x=toll)
def ej(x:Sj):Nat:=if Tb x then aX x else 0
theorem xI(w:World)(fr:Nat × Nat):readAt (w.alloc (.cells #[.int .u8 84,.int .u8 79,.int .u8 76,.int .u8 76] 5 fr)) w.heap.size 0 4=some (bv toll):=by
 rw[aj _ _ _ _ _ _ _ rfl sm];rfl
theorem zk(g:Nat)(w:World)(hg:g < 4294967296):
  Calls prog 119 #[.int .u32 g] w fun e w'=>e = .returned (.agg (av (dH g toll)))∧Below w.heap.size w w':=by
 have hbA:=ba (.cells #[.int .u8 84,.int .u8 79,.int .u8 76,.int .u8 76] 5 (4,5)) (ba (.cells (av cB) 201) (Sy w));have HbA:=SM hbA;have hl:=SM (Bs.lit (l:=toll) 4 rfl om (xI (w.alloc (.cells (av cB) 201)) (4,5)));have hsz:(w.alloc (.cells (av cB) 201)).heap.size=w.heap.size+1:=sm;have hc:canAt ((w.alloc (.cells (av cB) 201)).alloc (.cells #[.int .u8 84,.int .u8 79,.int .u8 76,.int .u8 76] 5 (4,5))) w.heap.size 0 64=true:=by simp[go_sem]
 have Hc:=SM hc;have hl2:=hl.o;rw[hsz] at hl2;have Hl2:=SM hl2;clear hbA hl hsz hc hl2
 go_in
 go_wp2_with fail
 refine (si g _ 4 4 toll _ hg Hl2.o om).mono ?_;rintro _ w1 ⟨rfl,hb1⟩;have Hb1:=SM (ba (.cells (av (dH g toll)) 201) (HbA.o.trans (hb1.mono HbA.o.size)));have hc1:canAt w1 w.heap.size 0 64=true:=by rw[ay hb1 (bA Hc.o)];exact Hc.o
 have hlt1:=bA hc1;have Hc1:Hd (canAt (w1.alloc (.cells (av (dH g toll)) 201)) w.heap.size 0 64=true):=by show _=_;rw[eW _ _ _ _ _ hlt1];exact hc1
 have hc1':=SM hc1;clear hb1 hc1 Hl2;have hcw:=Hc1.o
 go_wp2
 refine bodyPost_ret (np rfl _ _ (w.heap.size) 0 (av (dH g toll)) rfl ?_) rfl ⟨rfl,aa Hb1.o (Nat.le_refl _) _ _⟩;exact am _ _ _ _ _ sm Hc1.o
end
section
theorem iS(w:World)(b h:Nat)(hk:h≤32):(Instr.sliceAt 35 (.pointer (some ⟨b,0,none⟩)) none (some (.int .i64 (h:Int))) none).run prog w = .ok (.slice (some ⟨b,0,none⟩) h 32) w:=by
 have h3 : ¬ 32 < h:=om;cases hq:prog.info? 5 with
 | none=>have:=cQ;simp[hq] at this
 | some i=>simp[Instr.sliceAt,run_underlying underlying35,Instr.sureAddr,Instr.sliceBounds,Instr.sliceBound,asIntOf,h3,sizeOf,typeInfo,hq,Addr.add]
theorem JY{a b:List UInt8}(h:0 < a.length)(k:0 < b.length):∀ l ∈ [a,b],0 < l.length:=by
 intro l hl;simp only[List.mem_cons,List.not_mem_nil,or_false] at hl
 rcases hl with rfl | rfl
 ·exact h
 ·exact k
theorem qc(s:ByteArray)(w:World)(hs:s.size≤1000000):∃ C W',(convert 9 39 (.string s)).run prog w = .ok (.slice (some ⟨w.heap.size,0,none⟩) s.size C) W'∧Bs W' (some ⟨w.heap.size,0,none⟩) s.size C s.data.toList∧Below w.heap.size w W'∧W'.heap.size=w.heap.size+1:=by
 refine⟨_,_,run_bytes_of_string (P:=prog) w 9 39 5 s underlying9 underlying39 underlying5,?_,(Below.refl _ _).drew.alloc (Nat.le_refl _) _,sm⟩;have hge:=grownCap_ge w s.size 0 5;have hle:=grownCap_le_maxLen w s.size 0 5 (by simp only[maxLen];omega)
 refine⟨rfl,hge,by simp only[maxLen] at hle;omega,fun h=>(by cases h),fun h0=>⟨_,0,rfl,?_⟩⟩
 have hsz:0+s.size≤(bytesRow s (grownCap w s.size 0 5)).size:=by
  simp only[bytesRow,Array.size_append,Array.size_map,Array.size_replicate];have:s.data.size=s.size:=rfl;omega
 have h:=aj w.drew (bytesRow s (grownCap w s.size 0 5)) 5 ((bytesRow s (grownCap w s.size 0 5)).size,(bytesRow s (grownCap w s.size 0 5)).size+1) w.heap.size 0 s.size rfl hsz;rw[h]
 congr 1
 apply Array.ext_getElem?
 intro i;rw[cO _ _ _ _ hsz,Nat.zero_add]
 by_cases hi:i < s.size
 ·rw[if_pos hi,bytesRow_at s _ i hi];have hi':i < s.data.size:=hi;simp[bv];rw[Array.getElem?_eq_getElem hi'];rfl
 ·rw[if_neg hi];have hi' : ¬ i < s.data.size:=hi;simp[bv];rw[Array.getElem?_eq_none om];rfl
theorem oN(ka:Option Addr)(kn kc:Nat)(kl:List UInt8)(s:ByteArray)(n:Nat)(w:World)(hk:Bs w ka kn kc kl)(hk1:0 < kn)(hk2:kn≤64)(hg:GK w)(hs:s.size≤1000)(hs0:0 < s.size)(hn0:0 < n)(hn:n≤32):
  Calls prog 209 #[.slice ka kn kc,.string s,.int .i64 n] w fun e w'=>(∃ v,e = .returned v∧ao w' w.heap.size v ((cF kl s.data.toList).toList.take n))∧Below w.heap.size w w':=by
 obtain⟨i0,hi,hz,hsz,hby⟩:=info_parts fS;obtain⟨w1,hmk,hown1,hgr1⟩:=run_make_own (P:=prog) w w.heap.size 39 5 i0 _ 1 underlying39 hi hz hsz .i64 .i64 n (by rw[hby,Nat.one_mul];omega) (by simp only[maxLen];omega) (Nat.le_refl _)
 have hb1:Below w.heap.size w w1:=(Below.refl _ _).grown hgr1 (Nat.le_refl _) (fun _ h=>by cases h)
 have Hown1:Hd (ao w1 w.heap.size (.slice (some ⟨w.heap.size,0,none⟩) 0 n) []):=hown1;have HK:=SM hk;have HG:=SM hg;have Hb1:=SM hb1;clear hown1 hgr1 hk hg hb1;have d1:decide ((n:Int) < 0)=false:=df;have d2:decide ((8160:Int) < (n:Int))=false:=df
 go_in
 go_wp2_with fail
 clear hmk d1 d2
 go_loopw [7,8] (fun v i wr=>Below w.heap.size w wr∧((i = .int .i64 1∧ao wr w.heap.size v [])∨(i = .int .i64 2∧ao wr w.heap.size v ((cF kl s.data.toList).toList.take n)))) (fun _ i _=>2 - (intOf i).toNat)
 case atStart=>exact⟨Hb1.o,.inl ⟨rfl,Hown1.o⟩⟩
 case round =>
  clear Hb1 Hown1;obtain⟨hb,⟨rfl,ho⟩ | ⟨rfl,ho⟩⟩:=hrel
  ·have Hb:=SM hb;have Ho:=SM ho;have hob:=ho.bs;simp only[List.length_nil] at hob;obtain⟨ad,c,rfl,hbs⟩:=hob;clear hb ho hbs;have d1:decide ((0:Int) < (n:Int))=true:=dt;have hP:=ba (.cells #[.int .u8 1] 5) (Sy wr);have hB1:Bs (wr.alloc (.cells #[.int .u8 1] 5)) (some ⟨wr.heap.size,0,none⟩) 1 1 [1]:=Bs.lit 1 rfl om (by rw[aj _ _ _ _ _ _ _ rfl sm];rfl)
   obtain⟨C,w2,hcv,hB2,hb2,hs2⟩:=qc s (wr.alloc (.cells #[.int .u8 1] 5)) om;rw[show (wr.alloc (.cells #[.int .u8 1] 5)).heap.size=wr.heap.size+1 by simp] at hcv hB2 hs2
   go_wp2_with fail
   clear hcv;have hb3:=bt hP hb2;have hb4:=ba (.cells #[.slice (some ⟨wr.heap.size,0,none⟩) 1 1,.slice (some ⟨wr.heap.size+1,0,none⟩) s.size C] 39) hb3;have hPs:Ps (w2.alloc (.cells #[.slice (some ⟨wr.heap.size,0,none⟩) 1 1,.slice (some ⟨wr.heap.size+1,0,none⟩) s.size C] 39)) (some ⟨wr.heap.size+1+1,0,none⟩) 2 2 [[1],s.data.toList]:=by
    have hb5:=ba (.cells #[.slice (some ⟨wr.heap.size,0,none⟩) 1 1,.slice (some ⟨wr.heap.size+1,0,none⟩) s.size C] 39) (Sy w2);exact Ps.two (by rw[aj _ _ _ _ _ _ _ hs2.symm sm];rfl) ((hB1.below hb2).below hb5) (hB2.below hb5)
   generalize hW3:w2.alloc (.cells #[.slice (some ⟨wr.heap.size,0,none⟩) 1 1,.slice (some ⟨wr.heap.size+1,0,none⟩) s.size C] 39)=w3 at *;clear hW3 hP hB1 hB2 hb2 hs2 hb3;refine (CU ka kn kc kl (some ⟨wr.heap.size+1+1,0,none⟩) 2 2 [[1],s.data.toList] w3 ((HK.o.below Hb.o).below hb4) hk1 hk2 (HG.o.below HG.o.1 (bt Hb.o hb4)) hPs om om (JY sm (by simpa using hs0)) (by simp;have:s.data.size=s.size:=rfl;omega)).mono ?_
   rintro _ w4 ⟨rfl,hb5⟩;clear hPs;have hD:xA kl [[1],s.data.toList].flatten=cF kl s.data.toList:=by simp[cF]
   rw[hD];generalize hDD:cF kl s.data.toList=D at *;have hD4:=Row.made (f:=B8) w4 35 D;have hb6:=ba (.cells (fw B8 D) 35) (bt hb4 hb5);have hs1:=iS;have HDD:=SM hDD;clear hD hDD
   go_upto_region 8 with fail
   generalize w4.alloc (.cells (fw B8 D) 35)=w5 at *;generalize w4.heap.size=Q at *
   rcases Nat.lt_or_eq_of_le hn with hlt | h32
   ·have d2:decide ((n:Int) < 32)=true:=dt;obtain⟨T,hT⟩:=eY (D.toList.take n);have hTl:T.length=n:=by rw[← hT];simp;try omega
    have hsrc:∀ j u,(T.map B8)[j]? = some u→w5.cell? ((⟨Q,0,none⟩ : Addr).add j)=some u:=fun j u hu=>by
     rw[Addr.add_lit,Nat.zero_add];have hj2:j < n:=by
      have:=(List.getElem?_eq_some_iff.1 hu).1;simp at this;omega
     have hj:j < 32:=om;rw[hD4.cell j hj,← hu,← hT];simp[List.getElem?_take,hj2,hj]
    have Ho5:=SM (Ho.o.below hb6);have Hsrc:=SM hsrc;have Hb6:=SM (bt Hb.o hb6);have HT:=SM hT;have HTl:=SM hTl;clear hsrc hb4 hb5 hb6 Hb Ho hD4 hT hTl
    go_wp2_with (at_builtin;refine wpList_append_own _ rfl _ _ 39 rfl w.heap.size 5 i0 _ 1 1 underlying39 hi hz hsz hby rfl dc _ 0 _ rfl Ho5.o ⟨Q,0,none⟩ n 32 (T.map B8) rfl ?c1 Hsrc.o ?c3 ?c4 ?c5 ?c6 ?_)
    case c1=>rw[List.length_map,HTl.o];omega
    case c3=>exact dZ _
    case c4=>simp only[maxLen];omega
    case c5=>omega
    case c6=>exact Hb6.o.size
    intro v' w6 hown6 hgr hnil;have hb7:=SM (Hb6.o.grown hgr Hb6.o.size (fun b hbk=>(Ho5.o.lt b hbk).1));have Hown6:Hd (ao w6 w.heap.size v' ((cF kl s.data.toList).toList.take n)):=by
     show ao _ _ _ _
     rw[HDD.o,HT.o];unfold ao;rw[HTl.o]
     simpa using hown6
    clear hown6 hgr hnil Ho5 Hsrc Hb6 hs1 HDD HT HTl
    go_wp2
    go_roundw
    case rel=>exact⟨hb7.o,.inr ⟨rfl,Hown6.o⟩⟩
    case measure=>simp[intOf]
   ·have RU:=SM h32;have d2:(32:Int)≤(n:Int):=om;clear h32;obtain⟨T,hT⟩:=eY (D.toList.take n);have hTl:T.length=n:=by rw[← hT];simp;try omega
    have hsrc:∀ j u,(T.map B8)[j]? = some u→w5.cell? ((⟨Q,0,none⟩ : Addr).add j)=some u:=fun j u hu=>by
     rw[Addr.add_lit,Nat.zero_add];have hj2:j < n:=by
      have:=(List.getElem?_eq_some_iff.1 hu).1;simp at this;omega
     have hj:j < 32:=om;rw[hD4.cell j hj,← hu,← hT];simp[List.getElem?_take,hj2,hj]
    have Ho5:=SM (Ho.o.below hb6);have Hsrc:=SM hsrc;have Hb6:=SM (bt Hb.o hb6);have HT:=SM hT;have HTl:=SM hTl;clear hsrc hb4 hb5 hb6 Hb Ho hD4 hT hTl
    go_wp2_with (at_builtin;refine wpList_append_own _ rfl _ _ 39 rfl w.heap.size 5 i0 _ 1 1 underlying39 hi hz hsz hby rfl dc _ 0 _ rfl Ho5.o ⟨Q,0,none⟩ 32 32 (T.map B8) rfl ?c1 Hsrc.o ?c3 ?c4 ?c5 ?c6 ?_)
    case c1=>rw[List.length_map,HTl.o,RU.o]
    case c3=>exact dZ _
    case c4=>simp only[maxLen];omega
    case c5=>omega
    case c6=>exact Hb6.o.size
    intro v' w6 hown6 hgr hnil;have hb7:=SM (Hb6.o.grown hgr Hb6.o.size (fun b hbk=>(Ho5.o.lt b hbk).1));have Hown6:Hd (ao w6 w.heap.size v' ((cF kl s.data.toList).toList.take n)):=by
     show ao _ _ _ _
     rw[HDD.o,HT.o];unfold ao;rw[HTl.o,RU.o]
     simpa using hown6
    clear hown6 hgr hnil Ho5 Hsrc Hb6 hs1 HDD HT HTl
    go_wp2
    go_roundw
    case rel=>exact⟨hb7.o,.inr ⟨rfl,Hown6.o⟩⟩
    case measure=>simp[intOf]
  ·have Hb:=SM hb;have Ho:=SM ho;have hob:=ho.bs;have hl:((cF kl s.data.toList).toList.take n).length=n:=sO;rw[hl] at hob;obtain⟨ad,c,rfl,hbs⟩:=hob;clear hb ho hbs;have Hl:=SM hl;have d1:decide ((n:Int) < (n:Int))=false:=df;clear hl
   go_wp2
   go_ret
   exact⟨⟨_,rfl,Ho.o⟩,Hb.o⟩
end
section
open Go.RowKit Go.ChangeMaps
theorem ww(s:ByteArray):Lib.strCells s=s.data.toList.map B8:=by
 unfold Lib.strCells
 rfl
theorem xS(w:World)(base:Nat)(ty:TypeId)(v:Value)(l:List UInt8)(hown:ao w base v l)(s:ByteArray)(hlen:l.length+s.size≤1099511627776)(hbase:base≤w.heap.size):
  ∃ v' w',(Builtin.append_ #[39,9] ty #[v,.string s]).run prog w = .ok v' w'∧ao w' base v' (l ++ s.data.toList)∧w.grownBy w' v.ownBlock:=by
 obtain⟨i0,hi,hz,hsz,hby⟩:=info_parts fS;obtain⟨v',w',hr,ho,hg,_⟩:=Lib.run_append_own_string (P:=prog) w base 39 9 ty 5 i0 underlying39 underlying9 hi hz hsz hby v l.length (l.map B8) hown s (by simp only[maxLen];omega) om hbase
 refine⟨v',w',hr,?_,hg⟩;unfold ao;rw[List.length_append,List.map_append,← ww];exact ho
theorem nP{w:World}{ops:Array Oper}{rest:List Oper}{o:Oper}{a:Act}{Q:Exit→Act→World→Prop}(hgd:o.guard=none)(sl x:Operand)
  (ho:o.op = .call { callee:=.builtin .append,args:=#[sl,x],argTypes:=#[39,9] })
  (base:Nat) (v:Value) (l:List UInt8) (hs:a.eval sl=v) (hown:ao w base v l) (s:ByteArray) (hx:a.eval x = .string s)
  (hlen:l.length+s.size≤1099511627776) (hbase:base≤w.heap.size)
  (h:∀ v' w',ao w' base v' (l ++ s.data.toList)→w.grownBy w' v.ownBlock→wpList prog ops Q rest (a.put o.dst v') w'):wpList prog ops Q (o :: rest) a w:=by
 obtain⟨v',w',hr,h1,h2⟩:=xS w base o.type v l hown s hlen hbase;refine wpList_plain hgd fun K hK=>?_;unfold Oper.wp execOp;simp only[ho,resolve,invoke,builtin,Sem.run_bind,Sem.run_pure,Result.andThen_ok,List.map_toArray,List.map_cons,List.map_nil,hs,hx,hr];exact hK _ _ (h _ _ h1 h2)
theorem ao.below'{w u:World}{B:Nat}{v:Value}{l:List UInt8}(h:ao w B v l)(a:World)(hg:Below B a w)(hb:w.grownBy u v.ownBlock)(hz:B≤w.heap.size):Below B a u:=dy hg hb hz (fun g h1=>(h.in g h1).1)
theorem ao.adr{w:World}{B:Nat}{v:Value}{l:List UInt8}(h:ao w B v l)(h0:0 < l.length):∃ g c,v = .slice (some ⟨g,0,none⟩) l.length c∧Bs w (some ⟨g,0,none⟩) l.length c l:=by
 obtain⟨g,cap,hv,_⟩:=eP h h0;obtain⟨ad,c,he,hb⟩:=h.bs;rw[hv] at he;simp only[Value.slice.injEq,true_and] at he;obtain⟨rfl,rfl⟩:=he;exact⟨g,_,hv,hb⟩
theorem nc(ka:Option Addr)(kn kc:Nat)(kl:List UInt8)(s:ByteArray)(n:Nat)(w:World)(hk:Bs w ka kn kc kl)(hk2:kn≤64)(hs:s.size≤1000)(hn0:0 < n)(hn:n≤32):
  Calls prog 100 #[.slice ka kn kc,.string s,.int .i64 n] w fun e w'=>(∃ b c,e = .returned (.slice (some ⟨b,0,none⟩) n c)∧Bs w' (some ⟨b,0,none⟩) n c ((cF kl s.data.toList).toList.take n))∧Below w.heap.size w w':=by
 obtain⟨D,hD⟩:=eY (cF kl s.data.toList);rw[hD];unfold cF at hD;have HD:=SM hD;have HK:=SM hk;have hss:s.data.toList.length=s.size:=rfl;clear hD hk;have d1:decide ((n:Int) < 0)=false:=df;have d2:decide ((n:Int) > 8160)=false:=df;have d3:decide ((8160:Int) < (n:Int))=false:=df
 go_in
 go_wp2_with fail
 clear d1 d2 d3
 go_loopw [7,8] (fun v i wr=>Below w.heap.size w wr∧((i = .int .i64 0∧v = .slice none 0 0)∨∃ k:Nat,1≤k∧k≤n∧i = .int .i64 k∧∃ b c,v = .slice (some ⟨b,0,none⟩) 32 c∧Bs wr (some ⟨b,0,none⟩) 32 c D.toList)) (fun _ i _=>n - (intOf i).toNat)
 case atStart=>exact⟨Below.refl _ _,.inl ⟨rfl,rfl⟩⟩
 case round =>
  obtain⟨hb,⟨rfl,rfl⟩ | ⟨k,hk1,hk2',rfl,b,c,rfl,hbs⟩⟩:=hrel
  ·have HB:=SM hb;clear hb;have d1:decide ((0:Int) < (n:Int))=true:=dt
   go_upto_region 8 with fail
   have hb3:=ba (.cells #[.int .u8 1] 5) (Sy wr);have ho3:=ao.made wr wr.heap.size [1] dc dc (Nat.le_refl _);have Ho3:Hd (ao (wr.alloc (.cells #[.int .u8 1] 5)) wr.heap.size (.slice (some ⟨wr.heap.size,0,none⟩) 1 1) [1]):=SM ho3;clear ho3
   go_wp2_with (at_builtin;refine nP rfl _ _ rfl wr.heap.size _ [1] rfl Ho3.o s rfl ?c1 ?c2 ?_)
   case c1=>simp;omega
   case c2=>simp
   intro v4 w4 ho4 hg4;have hB4:=Ho3.o.below' wr hb3 hg4 sm;obtain⟨a4,k4,rfl,hbs4⟩:=ho4.bs;have hl4:(1 :: s.data.toList).length=1+s.size:=by rw[List.length_cons,hss,Nat.add_comm]
   rw[hl4] at hbs4 ⊢;have HS4:=SM hbs4;have HB4:=SM (bt HB.o hB4);clear ho4 hg4 hB4 hbs4 hl4 hb3 Ho3
   go_wp2_with fail
   refine (s7 ka kn kc kl a4 (1+s.size) k4 (1 :: s.data.toList) w4 (HK.o.below HB4.o) hk2 HS4.o om).mono ?_;rintro _ w5 ⟨rfl,hb5⟩;rw[HD.o];replace HB4:=SM (bt HB4.o hb5);obtain⟨hI,hb6,hs6⟩:=dU w5 35 B8 D
   go_upto_region 9 with fail
   generalize w5.alloc (.cells (fw B8 D) 35)=w6 at *;have HIb:=SM (hI.bs dc);replace HB4:=SM (bt HB4.o hb6);clear hI hb5 hb6 HS4;generalize w5.heap.size=I at *
   go_wp2_with (at_builtin;refine bJ rfl _ _ rfl w6.heap.size _ [] rfl (ao.nil _ _) _ _ _ D.toList rfl HIb.o ?c3 ?c4 ?_)
   case c3=>simp
   case c4=>exact Nat.le_refl _
   intro a7 k7 w7 ho7 hb7 hn7;obtain⟨g7,k7',he,hbs7⟩:=ho7.adr sm;simp only[List.nil_append,Vector.length_toList] at he hbs7;rw[he];have HS7:=SM hbs7;have HB7:=SM (HB4.o.trans (hb7.mono (by have:=HB4.o.size;omega)))
   clear ho7 hb7 hn7 he hbs7 HIb
   go_wp2
   go_roundw
   case rel=>exact⟨HB7.o,.inr ⟨1,om,om,by go_num,g7,k7',rfl,HS7.o⟩⟩
   case measure=>simp[intOf];omega
  ·have HB:=SM hb;have HS:=SM hbs;clear hb hbs
   by_cases hlt:k < n
   ·have d1:decide ((k:Int) < (n:Int))=true:=dt;have e7:(k:Int).tmod 32=(k:Int):=by rw[Int.tmod_eq_emod_of_nonneg om];omega
    have e8:(k:Int) % 32=(k:Int):=om;have d2:((k:Int) == 0)=false:=by simpa using (by omega : ¬ k=0)
    have d3 : ¬ (k:Int)=0:=om
    go_wp2
    go_roundw
    case rel=>exact⟨HB.o,.inr ⟨k+1,om,om,by go_num,b,c,rfl,HS.o⟩⟩
    case measure=>simp[intOf];omega
   ·obtain rfl:k=n:=om;have d1:decide ((k:Int) < (k:Int))=false:=sm;have hcap:k≤c:=by have:=HS.o.2.1;omega
    have hcap2:(k:Int)≤(c:Int):=om;have hk0:(0:Int)≤(k:Int):=om
    go_wp2
    go_ret
    exact⟨⟨b,c,rfl,HS.o.take k c om hcap (Nat.le_refl _)⟩,HB.o⟩
end
section
theorem gI(ad:Option Addr)(n c:Nat)(L:List (List UInt8))(w:World)(hL:Ps w ad n c L)(hs:L.flatten.length≤1099511627776):
  Calls prog 103 #[.slice ad n c] w fun e w'=>(∃ v,e = .returned v∧ao w' w.heap.size v L.flatten)∧Below w.heap.size w w':=by
 obtain⟨i0,hi,hz,hsz,hby⟩:=info_parts fS;have hn:Hd (L.length=n):=hL.1;have hmx:n≤9223372036854775807:=by have:=hL.2.1;have:=hL.2.2.1;omega
 have HL:=SM hL;clear hL
 go_in
 go_wp2
 go_loopw [3,4] (fun v i wr=>∃ k:Nat,k≤n∧i = .int .i64 k∧ao wr w.heap.size v (L.take k).flatten∧Below w.heap.size w wr) (fun _ i _=>n - (intOf i).toNat)
 case atStart=>exact⟨0,om,rfl,by simpa [ao] using World.ownsRow_nil _ _ _ _,Below.refl _ _⟩
 case round =>
  obtain⟨k,hk,rfl,hown,hb⟩:=hrel;have Hown:=SM hown;clear hown
  by_cases hlt:k < n
  ·obtain⟨b,o,ai,ni,ci,rfl,hcell,hbs⟩:=(HL.o.below hb).at k hlt;have hsn:=eN L k (by rw[hn.o];exact hlt)
   have hle:=fG L (k+1);rw[hsn,List.length_append] at hle;have hni:(L.getD k []).length=ni:=hbs.1;have Hsn:=SM hsn;clear hsn;generalize (L.take k).flatten=F at *;generalize L.getD k []=G at *
   rcases hbs.src with ⟨rfl,rfl,rfl,h0⟩ | ⟨a,rfl,hsrc⟩
   ·have hsame:(L.take (k+1)).flatten=F:=by rw[Hsn.o,h0,List.append_nil]
    have Hs:=SM hsame;clear hsame h0 hni hbs hle
    go_wp2_with (at_builtin;refine wpList_append_own_none rfl _ _ 39 rfl w.heap.size 5 i0 1 underlying39 hi _ _ _ rfl Hown.o rfl ?_)
    go_roundw
    case rel=>exact⟨k+1,om,by go_num,by rw[Hs.o];exact Hown.o,hb⟩
    case measure=>simp[intOf];omega
   ·have Hsrc:=SM hsrc;have Hni:=SM hni;clear hsrc hni hbs
    go_wp2_with (at_builtin;refine wpList_append_own _ rfl _ _ 39 rfl w.heap.size 5 i0 _ 1 1 underlying39 hi hz hsz hby rfl dc _ F.length _ rfl Hown.o a ni ci (G.map B8) rfl ?c1 Hsrc.o ?c3 ?c4 ?c5 ?c6 ?_)
    case c1=>rw[List.length_map,Hni.o];omega
    case c3=>exact dZ _
    case c4=>have:=Hni.o;simp only[maxLen];omega
    case c5=>have:=Hni.o;omega
    case c6=>exact hb.size
    intro v' w3 hown3 hgr _;have hb4:=SM (hb.grown hgr hb.size (fun b hbk=>(Hown.o.lt b hbk).1));have hown4:Hd (ao w3 w.heap.size v' (L.take (k+1)).flatten):=by
     show ao _ _ _ _
     rw[Hsn.o];unfold ao;rw[List.length_append,List.map_append,Hni.o];exact hown3
    clear hown3 hgr Hown
    go_wp2
    go_roundw
    case rel=>exact⟨k+1,om,by go_num,hown4.o,hb4.o⟩
    case measure=>simp[intOf];omega
  ·obtain rfl:k=n:=om;have hf0:=Hown.o;rw[List.take_of_length_le (by rw[hn.o];exact Nat.le_refl _)] at hf0
   have hf:=SM hf0;clear hf0;clear Hown
   go_wp2
   go_ret
   exact⟨⟨_,rfl,hf.o⟩,hb⟩
end
section
theorem O0{x:Sj}(h:Ta x=false):Tb x=false∧ej x=0:=by
 have e:Tb x=false:=by unfold Tb;rw[h];rfl
 exact⟨e,by unfold ej;rw[e];rfl⟩
theorem OZ{x:Sj}(h:Ta x=true):Tb x=decide (gq x=toll):=by unfold Tb;rw[h];rfl
theorem uT{x:Sj}(h:Tb x=true):ej x=aX x:=by unfold ej;rw[h];rfl
theorem zj{x:Sj}(h:Tb x=false):ej x=0:=by unfold ej;rw[h];rfl
theorem Cj(x:Sj)(w:World):
  Calls prog 175 #[.agg (av x)] w fun e w'=>e = .returned (.tuple #[.int .u32 (ej x:Nat),.bool (Tb x)])∧Below w.heap.size w w':=by
 have hr0:readAt (w.alloc (.cells (av x) 201)) w.heap.size 0 64=some (av x):=by simp[go_sem]
 have hb0:=ba (.cells (av x) 201) (Sy w);have Hb0:=SM hb0;clear hb0
 go_in
 go_wp2_with fail
 refine (zg x _).mono ?_;rintro _ w1 ⟨hp,hb1⟩;have Hb1:=SM (bt Hb0.o hb1);clear hb1 hr0;cases hok:Ta x with
 | false =>
  have he:=hp.no hok;subst he;have Hno:=SM (O0 hok);clear hp hok
  go_wp2
  go_ret2
  exact⟨by rw[Hno.o.1,Hno.o.2];rfl,Hb1.o⟩
 | true =>
  obtain⟨v,rfl,hown⟩:=hp.yes hok;obtain⟨pa,pc,rfl,hpb⟩:=hown.bs;have Hyes:=SM (OZ hok);have hx:=ba (.cells #[.int .u8 84,.int .u8 79,.int .u8 76,.int .u8 76] 5 (4,5)) (Sy w1);have HA:=SM (hpb.below hx);have HL:=SM (Bs.lit (l:=toll) 4 rfl om (xI w1 (4,5)));have Hb2:=SM (bt Hb1.o hx);clear hp hok hown hpb hx;obtain⟨G,hG⟩:=eY (aX x);have HG:=SM hG;rw[hG];clear hG;have Hyes2:Hd (Tb x=decide (gq x=toll)):=Hyes.o
  generalize gq x=P at *;clear Hyes
  go_wp2_with fail
  refine (oF _ _ _ _ _ _ P toll _ HA.o HL.o).mono ?_;rintro _ _ ⟨rfl,rfl⟩
  by_cases he:P=toll
  ·rw[decide_eq_true he];have hq:Tb x=true:=by rw[Hyes2.o,decide_eq_true he]
   have hT:=uT hq;have Hq:=SM hq;have HT:=SM hT;clear he hq hT
   go_wp2
   go_ret2
   exact⟨by rw[Hq.o,HT.o,HG.o];rfl,Hb2.o⟩
  ·rw[decide_eq_false he];have hq:Tb x=false:=by rw[Hyes2.o,decide_eq_false he]
   have hT:=zj hq;have Hq:=SM hq;have HT:=SM hT;clear he hq hT
   go_wp2
   go_ret2
   exact⟨by rw[Hq.o,HT.o];rfl,Hb2.o⟩
end
section
open Go.RowKit
end
section
abbrev RP:=Vector UInt8 32
def kZ:RP:=Vector.replicate 32 0
def ev(d:RP)(x:Int):Array Value:=(av d).push (.int .i64 x)
@[simp,go_sem] theorem Eh(d:RP)(x:Int):(ev d x).size=33:=by simp[ev]
section
variable (d:RP) (x:Int)
theorem xo:∀ v ∈ ev d x,v.oneCell'=true:=by
 intro v hv;simp only[ev,Array.mem_push] at hv
 rcases hv with hv | hv
 ·exact oE d v hv
 ·subst hv;rfl
theorem qo:(ev d x)[32]? = some (.int .i64 x):=by
 have h:=Array.getElem?_push_size (xs:=av d) (x:=Value.int .i64 x)
 rwa [cU] at h
theorem Jl:(ev d x).pop=av d:=Array.pop_push
theorem Jk:(ev d x).extract 0 33=ev d x:=by
 apply Array.ext'
 simp[List.extract_eq_take_drop];exact List.take_of_length_le sm
end
theorem tU:(prog.info? 89).map (fun i=>(i.zero,i.size,i.bytes))=some (some (.agg (ev kZ 0)),33,40):=kr
theorem Cy:(prog.info? 89).map (·.size)=some 33:=kr
theorem sv:(prog.info? 36).map (·.size)=some 32:=kr
def J9(v:Value):Sem Value:=Instr.loadAt 89 v
def I6(v x:Value):Sem Unit:=Instr.storeAt 89 v x
def AM:Sem Value:=Instr.alloc 89 true (.tuple #[])
def wJ(parts:Array (Nat × Value)):Sem Value:=Instr.build 89 parts
def J8(v:Value):Sem Value:=Instr.loadAt 36 v
@[go_sem ↓] theorem P6(v:Value):Instr.loadAt 89 v=J9 v:=rfl
@[go_sem ↓] theorem Pk(v x:Value):Instr.storeAt 89 v x=I6 v x:=rfl
@[go_sem ↓] theorem Qp:Instr.alloc 89 true (.tuple #[])=AM:=rfl
@[go_sem ↓] theorem Qv(parts:Array (Nat × Value)):Instr.build 89 parts=wJ parts:=rfl
@[go_sem ↓] theorem P5(v:Value):Instr.loadAt 36 v=J8 v:=rfl
@[go_sem ↓] theorem Pd(w:World)(b o:Nat)(h:(readAt w b o 33).isSome=true):
  (J9 (.pointer (some ⟨b,o,none⟩))).run prog w = .ok (.agg ((readAt w b o 33).getD #[])) w:=by
 obtain⟨cs,hc⟩:=Option.isSome_iff_exists.1 h;unfold J9;rw[aJ w b o 33 89 _ cs hc underlying89 rfl Cy,hc];rfl
@[go_sem ↓] theorem Pc(w:World)(b o:Nat)(h:(readAt w b o 32).isSome=true):
  (J8 (.pointer (some ⟨b,o,none⟩))).run prog w = .ok (.agg ((readAt w b o 32).getD #[])) w:=by
 obtain⟨cs,hc⟩:=Option.isSome_iff_exists.1 h;unfold J8;rw[aJ w b o 32 36 _ cs hc underlying36 rfl sv,hc];rfl
@[go_sem ↓] theorem Nw(w:World)(b o:Nat)(d:RP)(x:Int)(h:canAt w b o 33=true):
  (I6 (.pointer (some ⟨b,o,none⟩)) (.agg (ev d x))).run prog w = .ok () (setAt w b o (ev d x)) :=
 aH w b o 33 89 (ev d x) h (Eh ..) Cy (xo d x)
@[go_sem] theorem Nm(w:World):
  AM.run prog w = .ok (.pointer (some ⟨w.heap.size,0,none⟩)) (w.alloc (.cells (ev kZ 0) 89)):=by
 obtain⟨i,hi,hz,hs,hb⟩:=info_parts tU;unfold AM;simp[Instr.alloc,zeroValue,typeInfo,hi,hz,newVar,newRow,Value.cells]
theorem Ku:prog.built 89 []=some (ev kZ 0):=kr
@[go_sem] theorem Mf(w:World):(wJ #[]).run prog w = .ok (.agg (ev kZ 0)) w:=run_build w _ _ _ Ku
theorem xv(f:Array Value→Value × Nat→Array Value)(hf:f=fun cs cj=>cs.setIfInBounds cj.2 cj.1):∀ (xs:List Value) (k:Nat) (cs:Array Value),k+xs.length≤cs.size→(xs.zipIdx k).foldl f cs=bK cs k xs.toArray
 | [],k,cs,_=>by apply Array.ext';simp[bK]
 | x :: xs,k,cs,h=>by
  simp only[List.length_cons] at h;rw[List.zipIdx_cons,List.foldl_cons,xv f hf xs (k+1) _ (by rw[hf];simp;omega)]
  subst hf
  apply Array.ext'
  simp only[bK,Array.toList_setIfInBounds,List.size_toArray,List.length_cons];rw[show k+1+xs.length=k+(xs.length+1) by omega,List.drop_set_of_lt om]
  have e:(cs.toList.set k x).take (k+1)=cs.toList.take k ++ [x]:=by
   rw[List.take_set,List.take_add_one,List.getElem?_eq_getElem (by simpa using (by omega:k < cs.size))]
   simp only[Option.toList_some];rw[List.set_append_right _ _ sO];simp;have:min k cs.size=k:=om;simp[this]
  rw[e];simp[List.append_assoc]
theorem Kv(d:RP)(x:Int):prog.built 89 [(0,.agg (av d)),(1,.int .i64 x)]=some (ev d x):=by
 obtain⟨i,hi,hz,hs,hb⟩:=info_parts tU;obtain⟨j,hj,hjs⟩:=Option.map_eq_some_iff.1 sv;have h64:(prog.info? 2).map (·.size)=some 1:=kr
 obtain⟨k,hk,hks⟩:=Option.map_eq_some_iff.1 h64;have hf:Array.foldl (fun (cs:Array Value) (cj:Value × Nat)=>cs.setIfInBounds cj.2 cj.1) (ev kZ 0) (av d).zipIdx 0 32=(av d).push (.int .i64 0):=by
  have e32:(av d).zipIdx.size=32:=sm;rw[show Array.foldl (fun (cs:Array Value) (cj:Value × Nat)=>cs.setIfInBounds cj.2 cj.1) (ev kZ 0) (av d).zipIdx 0 32=Array.foldl (fun (cs:Array Value) (cj:Value × Nat)=>cs.setIfInBounds cj.2 cj.1) (ev kZ 0) (av d).zipIdx 0 (av d).zipIdx.size by rw[e32]]
  rw[← Array.foldl_toList,Array.toList_zipIdx];rw[xv _ rfl (av d).toList 0 (ev kZ 0) sm]
  apply Array.ext'
  have hd:(ev kZ 0).toList.drop 32=[.int .i64 0]:=by
   rw[ev,Array.toList_push];exact iY sm
  simp only[bK,List.take_zero,List.nil_append,Nat.zero_add,List.size_toArray,Array.length_toList,cU,hd,Array.toList_push]
 simp[Program.built,hi,underlying89,hz,hj,hk,hjs,hks,Instr.fill,Value.cells];rw[hf];refine⟨sm,?_⟩;unfold ev
 apply Array.ext'
 rw[Array.toList_setIfInBounds,Array.toList_push,Array.toList_push,List.set_append_right _ _ sm];simp
@[go_sem] theorem vM(w:World)(d:RP)(x:Int):(wJ #[(0,.agg (av d)),(1,.int .i64 x)]).run prog w = .ok (.agg (ev d x)) w:=run_build w _ _ _ (Kv d x)
theorem CF(w:World):(isAgg 36).run prog w = .ok true w:=by
 simp[isAgg,run_underlying underlying36]
theorem GQ(w:World)(d:RP)(x:Int):(part 36 (ev d x) 0).run prog w = .ok (.agg (av d)) w:=by
 obtain⟨i,hi,hs⟩:=Option.map_eq_some_iff.1 sv;simp[part,CF,sizeOf,typeInfo,hi,hs,Jl]
theorem GR(w:World)(d:RP)(x:Int):(part 2 (ev d x) 32).run prog w = .ok (.int .i64 x) w :=
 run_part_plain w kr (qo d x)
theorem po(w:World)(k:Nat)(x y:RP):(Op.equalIn (k+2) 36 (.agg (av x)) (.agg (av y))).run prog w = .ok (x == y) w:=by
 cases hq:prog.info? 5 with
 | none=>have:=cQ;simp[hq] at this
 | some i =>
  rw[run_equalIn_array w (k+1) (av x) (av y) underlying36 hq,gu w k x y _ sm,ld]
theorem OK:prog.stoodInHeld 89=false:=kr
theorem F7 : (Tryz.prog.fieldsOf 89).toList = [{ name := "Digest", type := 36, offset := 0, embedded := false, tag := "", pkgPath := "", byteOffset := 0 }, { name := "Expiry", type := 2, offset := 32, embedded := false, tag := "", pkgPath := "", byteOffset := 32 }] := by kernel_rfl
theorem QO:prog.underlying 89=some (.struct (prog.fieldsOf 89)):=kr
@[go_sem ↓ high] theorem Ij(w:World)(d f:RP)(x y:Int):(Op.equalIn 10000 89 (.agg (ev d x)) (.agg (ev f y))).run prog w = .ok (d == f && x == y) w:=by
 rw[run_equalIn_struct w 9999 _ _ _ QO OK,F7];have h2:(Op.equalIn 9999 2 (.int .i64 x) (.int .i64 y)).run prog w = .ok (x == y) w:=run_equalIn_int w 9998 _ _ .i64 _ _ underlying2;have h1:=po w 9997 d f;cases hh:(d == f) <;> simp[Op.eqFields,GQ,GR,h1,h2,hh]
 cases hx:(x == y) <;> simpa using hx
@[go_sem] theorem FY:prog.eqGuardType prog.depth 89=false:=kr
attribute [irreducible] ev
end
section
theorem uP(B:Nat)(l:List UInt8)(w:World)(h:Sf w B l):
  Calls prog 128 #[.pointer (some ⟨B,0,none⟩)] w fun e w'=>e = .returned (.bool (decide (l=[])))∧w=w':=by
 obtain⟨hc,g,o,c,hg,hr,hbs⟩:=h;have c0:=ab hr 0 _ rfl;have c1:=ab hr 1 _ rfl;rw[Nat.zero_add] at c0 c1;have hl:(((l.length:Nat):Int) == 0)=decide (l=[]):=by
  rw[Bool.eq_iff_iff];simp;
 have Hl:=SM hl;clear hl hr hbs hc;generalize l.length=n at *
 go_in
 go_wp2
 go_ret
 exact⟨by rw[← Hl.o];rfl,rfl⟩
theorem qj(B:Nat)(w:World)(h:fC w B):
  Calls prog 128 #[.pointer (some ⟨B,0,none⟩)] w fun e w'=>e = .returned (.bool false)∧w=w':=by
 obtain⟨hc,hr⟩:=h;have c0:=ab hr 0 _ rfl;have c1:=ab hr 1 _ rfl;rw[Nat.zero_add] at c0 c1;clear hr hc
 go_in
 go_wp2
 go_ret
 exact⟨rfl,rfl⟩
end
section
def y7(l:List UInt8):RP:=Vector.ofFn fun i=>l.getD i.val 0
theorem Fw(l:List UInt8)(h:l.length=32):bv l=av (y7 l):=by
 apply Array.ext_getElem?
 intro i
 by_cases hi:i < 32
 ·rw[iw _ i hi,Jc l i om];simp[y7]
 ·simp[bv,hi,h]
def dF(x:Sj):Nat:=nb ((gq x).drop 32)
def S9(x:Sj):Bool:=Ta x && (decide ((gq x).length=40) && decide (dF x≤4611686018427387904))
def ei(x:Sj):RP:=y7 ((gq x).take 32)
def ux(x:Sj)(e:Ending):Prop:=if S9 x=true then e = .returned (.tuple #[.int .u32 (aX x:Nat),.agg (ev (ei x) (dF x:Nat)),.bool true]) else e = .returned (.tuple #[.int .u32 0,.agg (ev kZ 0),.bool false])
theorem ux.no{x:Sj}(h:S9 x=false):ux x (.returned (.tuple #[.int .u32 0,.agg (ev kZ 0),.bool false])):=by unfold ux;rw[if_neg (by rw[h];simp)]
theorem ux.yes{x:Sj}(h:S9 x=true):ux x (.returned (.tuple #[.int .u32 (aX x:Nat),.agg (ev (ei x) (dF x:Nat)),.bool true])):=by unfold ux;rw[if_pos h]
theorem eE{fn:Func}(h:fn.results=#[.tmp 2,.cell 3 89,.tmp 4])(tmps:Array Value)(w:World)(b o:Nat)(cs:Array Value)(u v:Value)
  (hu:tmps.getD 2 undef=u) (hp:tmps.getD 3 undef = .pointer (some ⟨b,o,none⟩)) (hq:tmps.getD 4 undef=v) (hg:readAt w b o 33=some cs):(results fn tmps).run prog w = .ok (.tuple #[u,.agg cs,v]) w:=by
 have hu':tmps[2]?.getD undef=u:=by simpa using hu
 have hp':tmps[3]?.getD undef = .pointer (some ⟨b,o,none⟩):=by simpa using hp
 have hq':tmps[4]?.getD undef=v:=by simpa using hq
 simp[results,h,hu',hp',hq',asAddr,az w b o 33 89 _ cs hg underlying89 rfl Cy]
theorem wD(x:Int):IntKind.i64.wrap x=wrap64 x:=by rw[IntKind.wrap_i64];unfold wrap64;rfl
theorem AA(x:Nat)(h:x≤4611686018427387904):IntKind.i64.wrap (x:Int)=(x:Int):=by
 rw[IntKind.wrap_i64];omega
theorem Ny(w:World)(b:Nat)(cs:Array Value)(h:canAt w b 0 33=true)(hs:cs.size=33):readAt (setAt w b 0 cs) b 0 33=some cs:=am _ _ _ _ _ hs.symm h
end
section
def oA(w:World)(B g:Nat)(l:List UInt8):Prop :=
 canAt w B 0 2=true∧∃ o c,g≠B∧readAt w B 0 2=some #[.slice (some ⟨g,o,none⟩) l.length c,.bool false]∧Bs w (some ⟨g,o,none⟩) l.length c l
theorem oA.rdr{w:World}{B g:Nat}{l:List UInt8}(h:oA w B g l):Sf w B l:=⟨h.1,g,h.2⟩
theorem oA.below{w w':World}{B g:Nat}{l:List UInt8}(h:oA w B g l)(hb:Below w.heap.size w w'):oA w' B g l:=by
 have hlt:=bA h.1;obtain⟨h1,o,c,h2,h3,h4⟩:=h;exact⟨by rw[ay hb hlt];exact h1,o,c,h2,by rw[ak hb hlt];exact h3,h4.below hb⟩
theorem oA.only{w w':World}{B g E:Nat}{l:List UInt8}(h:oA w B g l)(ho:cC E w w')(hB:B≠E)(hg:g≠E):oA w' B g l:=by
 obtain⟨h1,o,c,h2,h3,h4⟩:=h;refine⟨?_,o,c,h2,by rw[ho.readAt _ _ _ hB];exact h3,ho.bs hg h4⟩
 have:=ho.block B hB;simp only[canAt,this];exact h1
def Ka(B g:Nat)(l:List UInt8)(n:Nat)(w:World)(e:Ending)(w':World):Prop :=
 ∃ o,g≠B∧e = .returned (.tuple #[.slice (some ⟨g,o,none⟩) n n,.bool true])∧Bs w' (some ⟨g,o,none⟩) n n (l.take n)∧oA w' B g (l.drop n)∧cC B w w'
theorem Q5(a:Addr)(n c:Nat)(l:List UInt8)(w:World)(hl:Bs w (some a) n c l)(hs:n≤1099511627776):
  Calls prog 124 #[.slice (some a) n c] w fun e w'=>(∃ B g,w.heap.size≤B∧w.heap.size≤g∧e = .returned (.pointer (some ⟨B,0,none⟩))∧oA w' B g l)∧Below w.heap.size w w':=by
 go_in
 go_wp2_with fail
 refine (fA a n c l _ hl hs).mono ?_;rintro _ w1 ⟨⟨v,rfl,hne,hown⟩,hb1⟩;obtain⟨ad,c1,rfl,hbs⟩:=hown.bs;have had:∃ g o,ad=some ⟨g,o,none⟩∧g < w1.heap.size∧w.heap.size≤g:=by
  rcases hown.2 with ⟨h,_⟩ | ⟨g,cap,cur,hv,hbg,hg,_⟩
  ·exact absurd h hne
  ·simp only[Value.slice.injEq] at hv;exact⟨g,0,hv.1,(Array.getElem?_eq_some_iff.1 hg).1,hbg⟩
 obtain⟨g,o,rfl,hg,hbg⟩:=had;clear hne hown hl;have Hbs:=SM hbs;clear hbs
 go_wp2
 go_ret
 refine⟨⟨w1.heap.size,g,hb1.size,hbg,rfl,?_⟩,ba _ hb1⟩;exact⟨by simp[go_sem],o,c1,om,by simp[go_sem],Hbs.o.below (ba _ (Below.refl _ _))⟩
theorem Lj(B g:Nat)(l:List UInt8)(n:Nat)(w:World)(h:oA w B g l)(hn:n≤l.length):
  Calls prog 179 #[.pointer (some ⟨B,0,none⟩),.int .u64 n] w (Ka B g l n w):=by
 obtain⟨hc,o,c,hg,hr,hbs⟩:=h;have f0:=bq hc 0;have g0:=ab hr 0 _ rfl;have g1:=ab hr 1 _ rfl;simp only[Nat.zero_add] at f0 g0 g1;simp only[List.getElem_toArray,List.getElem_cons_zero,List.getElem_cons_succ] at g0 g1;have hlc:=hbs.2.1;have hmx:=hbs.2.2.1;have Hbs:=SM hbs;have Hcr:=SM (And.intro hc hr);clear hbs hc hr;generalize hN:l.length=N at *;have HN:=SM hN;clear hN;have d0:decide ((N:Int) < (n:Int))=false:=sO
 by_cases hcn:c=n
 ·obtain rfl:c=n:=hcn;obtain rfl:N=c:=om;have hset:=SM (qW _ _ (.slice (some ⟨g,o,none⟩) 0 0) Hcr.o.1 Hcr.o.2)
  go_in
  go_wp2
  go_ret2
  obtain⟨h1,h2,h3⟩:=hset.o;refine⟨o,hg,rfl,h1.bs hg (Hbs.o.take N N (Nat.le_refl _) (Nat.le_refl _) (Nat.le_refl _)),⟨h2,o,0,hg,?_,?_⟩,h1⟩
  ·rw[List.drop_of_length_le (by rw[HN.o];exact Nat.le_refl _)];exact h3
  ·rw[List.drop_of_length_le (by rw[HN.o];exact Nat.le_refl _)]
   exact⟨rfl,Nat.le_refl _,om,fun h=>(by cases h),fun h=>absurd h sm⟩
 ·have hset:=SM (qW _ _ (.slice (some ⟨g,o+n,none⟩) (N - n) (c - n)) Hcr.o.1 Hcr.o.2)
  go_in
  go_wp2
  go_ret2
  obtain⟨h1,h2,h3⟩:=hset.o;refine⟨o,hg,rfl,h1.bs hg (Hbs.o.take n n hn (Nat.le_refl _) om),⟨h2,o+n,c - n,hg,?_,?_⟩,h1⟩
  ·rw[List.length_drop,HN.o];exact h3
  ·rw[List.length_drop,HN.o];exact h1.bs hg (Hbs.o.drop n hn)
theorem QL(B g:Nat)(l:List UInt8)(n:Nat)(w:World)(h:oA w B g l)(hn:n≤l.length)(hs:n≤1073741824):
  Calls prog 185 #[.pointer (some ⟨B,0,none⟩),.int .i64 n] w fun e w'=>(∃ v,e = .returned v∧dJ v∧ao w' w.heap.size v (l.take n))∧oA w' B g (l.drop n)∧∃ w1,cC B w w1∧Below w1.heap.size w1 w':=by
 have H:=SM h;clear h;have d0:decide ((n:Int) < 0)=false:=sm
 go_in
 go_wp2_with fail
 refine (Lj B g l n _ H.o hn).mono ?_;rintro _ w1 ⟨o,hg,rfl,hbs,hrd,ho⟩;have Hbs:=SM hbs;have Hrd:=SM hrd;have Ho:=SM ho;clear hbs hrd ho
 go_wp2_with fail
 refine (fA _ n n _ _ Hbs.o om).mono ?_;rintro _ w2 ⟨⟨v,rfl,hne,hown⟩,hb2⟩;have hfin:Hd (ao w2 w.heap.size v (l.take n)∧dJ v∧oA w2 B g (l.drop n)∧Below w1.heap.size w1 w2):=⟨bj hown (by rw[Ho.o.size];exact Nat.le_refl _),hne,Hrd.o.below hb2,hb2⟩
 clear hne hown hb2
 go_wp2
 go_ret
 exact⟨⟨_,rfl,hfin.o.2.1,hfin.o.1⟩,hfin.o.2.2.1,w1,Ho.o,hfin.o.2.2.2⟩
end
section
theorem O4(x:Sj):(gq x).length≤62:=by
 unfold gq;simp;omega
theorem nC(w:World)(b o:Nat):(Instr.sliceAt 36 (.pointer (some ⟨b,o,none⟩)) none none none).run prog w = .ok (.slice (some ⟨b,o,none⟩) 32 32) w:=by
 cases hq:prog.info? 5 with
 | none=>have:=cQ;simp[hq] at this
 | some i=>simp[Instr.sliceAt,run_underlying underlying36,Instr.sureAddr,Instr.sliceBounds,Instr.sliceBound,asIntOf,sizeOf,typeInfo,hq,Addr.add]
attribute [go_sem] nC
theorem O7(l:List UInt8)(h:l.length=32)(x:Int):bK (ev kZ x) 0 (bv l)=ev (y7 l) x:=by
 rw[Fw l h];unfold ev
 apply Array.ext'
 have hd:((av kZ).push (.int .i64 x)).toList.drop 32=[.int .i64 x]:=by
  rw[Array.toList_push];exact iY sm
 simp only[bK,List.take_zero,List.nil_append,Nat.zero_add,cU,hd];rw[Array.toList_push]
theorem cC.canAt{B:Nat}{w w':World}(h:cC B w w')(b o n:Nat)(hb:b≠B):canAt w' b o n=canAt w b o n:=by
 have:=h.block b hb;simp only[Proofs.YtlcfaaodmickbaaGreatDoor.canAt,this]
theorem Ls(d:RP)(x y:Int):bK (ev d x) 32 #[.int .i64 y]=ev d y:=by
 unfold ev
 apply Array.ext'
 have hd:((av d).push (.int .i64 x)).toList.drop 33=[]:=List.drop_of_length_le sm;have ht:((av d).push (.int .i64 x)).toList.take 32=(av d).toList:=by
  rw[Array.toList_push];exact ri sm
 simp only[bK,List.size_toArray,List.length_cons,List.length_nil,ht,Array.toList_push];simp[hd]
theorem uS(x:Sj)(w:World):
  Calls prog 176 #[.agg (av x)] w fun e w'=>ux x e∧Below w.heap.size w w':=by
 obtain⟨W,hW⟩:=eY ((w.alloc (.cells (av x) 201)).alloc (.cells (ev kZ 0) 89));have hb0:Below w.heap.size w W:=by rw[← hW];exact ba _ (ba _ (Below.refl _ _))
 have hr0:readAt W w.heap.size 0 64=some (av x):=by rw[← hW];simp[go_sem]
 have hk0:canAt W (w.heap.size+1) 0 33=true:=by rw[← hW,aq _ _ _ _ _ _ sm sm]
 have Hb0:=SM hb0;have Hk0:=SM hk0;have Hlt:=SM (bA hk0);clear hb0 hk0
 go_in
 go_wp2_with fail
 clear hr0 hW;refine (so x _).mono ?_;rintro _ w1 ⟨hpo,hb1⟩;have Hk1:=SM ((ay hb1 Hlt.o 0 33).trans Hk0.o);have Hb1:=SM (Hb0.o.trans (hb1.mono Hb0.o.size));have Hlt1:=SM (Nat.lt_of_lt_of_le Hlt.o hb1.size);clear hb1 Hk0 Hb0 Hlt
 by_cases hok:Ta x=true
 ·obtain⟨v,rfl,hown,hnn⟩:=hpo.yes hok;obtain⟨pa,pc,rfl,hpb⟩:=hown.bs;obtain⟨a,rfl⟩ : ∃ a,pa=some a:=by
   rcases hpb.src with ⟨rfl,h0,rfl,hl⟩ | ⟨a,h,_⟩
   ·exact absurd (by rw[h0]) hnn
   ·exact⟨a,h⟩
  have hL:=O4 x;have hbE:=ba (.cells (ev kZ 0) 89) (Sy w1);have Hpb:=SM (hpb.below hbE);have Hb2:=SM (Hb1.o.trans (hbE.mono Hb1.o.size));have Hk2:=SM ((ay hbE Hlt1.o 0 33).trans Hk1.o);have HrE:=SM (show readAt (w1.alloc (.cells (ev kZ 0) 89)) w1.heap.size 0 33=some (ev kZ 0) by rw[aj _ _ _ _ _ _ _ rfl sm,Jk])
  have HkE:=SM (show canAt (w1.alloc (.cells (ev kZ 0) 89)) w1.heap.size 0 33=true by rw[aq _ _ _ _ _ _ rfl sm])
  have HsE:=SM (show (w1.alloc (.cells (ev kZ 0) 89)).heap.size=w1.heap.size+1 by simp)
  clear hpo hown hnn hpb hbE Hb1 Hk1;have hokE:S9 x=(decide ((gq x).length=40) && decide (dF x≤4611686018427387904)):=by unfold S9;rw[hok];rfl
  have hEO:dF x=nb ((gq x).drop 32):=rfl;have hDO:ei x=y7 ((gq x).take 32):=rfl;have HokE:=SM hokE;have HEO:=SM hEO;have HDO:=SM hDO;clear hokE hEO hDO hok;generalize gq x=l at *
  go_wp2_with fail
  generalize w1.alloc (.cells (ev kZ 0) 89)=w2 at *;refine (Q5 a _ pc l _ Hpb.o om).mono ?_;rintro _ w3 ⟨⟨B,g,hB,hg,rfl,hrd⟩,hb3⟩;have HBE:Hd (B≠w1.heap.size):=by have:=HsE.o;show B≠_;omega
  have HgE:Hd (g≠w1.heap.size):=by have:=HsE.o;show g≠_;omega
  have HBR:Hd (B≠w.heap.size+1):=by have:=HsE.o;have:=Hlt1.o;show B≠_;omega
  have HBw:Hd (w.heap.size≤B):=by have:=HsE.o;have:=Hlt1.o;show _≤B;omega
  have hE2:w1.heap.size < w2.heap.size:=by rw[HsE.o];omega
  have Hrd3:=SM hrd;have Hb3:=SM (Hb2.o.trans (hb3.mono Hb2.o.size));have HR3:=SM ((ay hb3 (by have:=Hlt1.o;omega) 0 33).trans Hk2.o)
  have HrE3:=SM ((ak hb3 hE2 0 33).trans HrE.o);have HkE3:=SM ((ay hb3 hE2 0 33).trans HkE.o);have HER:Hd (w.heap.size+1 < w1.heap.size):=Hlt1;clear hrd hb3 hB hg Hb2 Hk2 HrE HkE hE2 Hpb HsE Hlt1;generalize w1.heap.size=E at *
  by_cases h32:l.length < 32
  ·have h40 : ¬ l.length=40:=om;have Hno:Hd (S9 x=false):=by show _=_;rw[HokE.o,decide_eq_false h40];rfl
   clear HokE HEO HDO h40 HrE3 HkE3
   go_wp2_with fail
   go_region_with (go_at_call 185;refine (ME B 32 _ (.inr ⟨l,(Hrd3.o.below (by first | exact (Below.refl _ _).drew | exact Below.refl _ _)).rdr,h32⟩) om).mono ?_;rintro _ w5 ⟨rfl,hbad,ho⟩;have HO:Hd (∃ W1,Below w3.heap.size w3 W1∧cC B W1 w5):=⟨_,by first | exact (Below.refl _ _).drew | exact Below.refl _ _,ho⟩;have Hbad:=SM hbad;have hcp:(Builtin.copy_ #[39,39] 3 #[.slice (some ⟨E,0,none⟩) 32 32,.slice none 0 0]).run prog w5 = .ok (goInt 0) w5:=run_copy_none w5 _ _ _ 5 _ _ _ _ _ _ underlying39 cQ sm;clear hbad ho)
   all_goals
    obtain⟨W1,hW1,hO⟩:=HO.o;have hbA:=Hb3.o.trans (hW1.mono Hb3.o.size);have Hb5:=SM (hO.below hbA HBw.o);have hR:w.heap.size+1 < w3.heap.size:=bA HR3.o;have HR5:=SM ((hO.canAt (w.heap.size+1) 0 33 (Ne.symm HBR.o)).trans ((ay hW1 hR 0 33).trans HR3.o));clear hW1 hO hbA hR HO hcp HR3 Hb3 Hrd3
    go_wp2_with fail
    refine (rB B 8 _ (.inl Hbad.o) om om).mono ?_;rintro _ w6 ⟨rfl,hbad6,ho6⟩;have Hb6:=SM (ho6.below Hb5.o HBw.o);have HR6:=SM ((ho6.canAt (w.heap.size+1) 0 33 (Ne.symm HBR.o)).trans HR5.o);have Hbad6:=SM hbad6;clear hbad6 ho6 Hb5 HR5 Hbad
    go_wp2_with fail
    refine (qj B _ Hbad6.o).mono ?_;rintro _ _ ⟨rfl,rfl⟩;have hR6:=HR6.o
    go_wp2
    refine bodyPost_ret (eE rfl _ _ (w.heap.size+1) 0 _ _ _ rfl rfl rfl (Ny _ _ _ hR6 sm)) rfl ⟨ux.no Hno.o,aa Hb6.o om _ _⟩
  ·have hT:(l.take 32).length=32:=by rw[List.length_take];omega
   have HT:=SM hT;clear hT
   go_wp2_with fail
   go_region_with (go_at_call 185;refine (QL B g l 32 _ (Hrd3.o.below (by first | exact (Below.refl _ _).drew | exact Below.refl _ _)) om om).mono ?_;rintro _ w5 ⟨⟨v,rfl,hnn,hown⟩,hrd,w4,ho,hb5⟩;have HO:Hd (∃ W1,Below w3.heap.size w3 W1∧cC B W1 w4):=⟨_,by first | exact (Below.refl _ _).drew | exact Below.refl _ _,ho⟩;have Hrd:=SM hrd;have Hb45:=SM hb5;obtain⟨g2,c2,rfl,hbg2,hlc2,hcm2,hr2,hk2⟩:=hown.view (by rw[HT.o];omega);rw[HT.o] at hr2 hlc2 ⊢;have hkE5:canAt w5 E 0 33=true:=(by obtain⟨W1,hW1,hO⟩:=HO.o;have h1:=(ay hW1 (bA HkE3.o) 0 33).trans HkE3.o;have h2:=(hO.canAt E 0 33 (Ne.symm HBE.o)).trans h1;exact (ay hb5 (bA h2) 0 33).trans h2);have HkE5:=SM hkE5;have hcp:=dP w5 3 E 0 32 32 g2 0 32 c2 32 sm (bv (l.take 32)) (aC hkE5 0 32 om) hr2 (oG _);clear hnn hown hrd ho hb5 hbg2 hr2 hk2 hkE5)
   all_goals
    obtain⟨W1,hW1,hO⟩:=HO.o;have hbA:=hO.below (Hb3.o.trans (hW1.mono Hb3.o.size)) HBw.o;have hbB:=hbA.trans (Hb45.o.mono hbA.size);have hR:w.heap.size+1 < w3.heap.size:=bA HR3.o;have hR4:=(hO.canAt (w.heap.size+1) 0 33 (Ne.symm HBR.o)).trans ((ay hW1 hR 0 33).trans HR3.o);have hR5:=(ay Hb45.o (bA hR4) 0 33).trans hR4;have hrE4:=(hO.readAt E 0 33 (Ne.symm HBE.o)).trans ((ak hW1 (bA HkE3.o) 0 33).trans HrE3.o)
    have hrE5:=(ak Hb45.o (ac hrE4) 0 33).trans hrE4;have hoE:=cC.setAt w5 E 0 (bv (l.take 32));have HrE7:Hd (readAt (setAt w5 E 0 (bv (l.take 32))) E 0 33=some (ev (ei x) 0)):=by
     show _=_
     rw[ae _ _ 0 33 _ hrE5 HkE5.o 0 _ (Nat.le_refl _) sO,Nat.sub_zero,O7 _ HT.o,HDO.o]
    have HkE7:Hd (canAt (setAt w5 E 0 (bv (l.take 32))) E 0 33=true):=by
     show _=_
     rw[ap _ _ _ _ _ _ _ (by simpa [HT.o] using aC HkE5.o 0 32 om)];exact HkE5.o
    have HR7:=SM ((hoE.canAt (w.heap.size+1) 0 33 (by have:=HER.o;omega)).trans hR5)
    have Hrd7:=SM (Hrd.o.only hoE HBE.o HgE.o).rdr;have Hb7:=SM (hoE.below hbB (by have:=HER.o;omega))
    clear hW1 hO hbA hbB hR hR4 hR5 hrE4 hrE5 hoE HO hcp HR3 Hb3 Hrd3 Hrd Hb45 HkE5 HrE3 HkE3 HT HDO;generalize setAt w5 E 0 (bv (l.take 32))=w7 at *
    go_wp2_with fail
    by_cases hl40:l.length < 40
    ·have h40 : ¬ l.length=40:=om;have Hno:Hd (S9 x=false):=by show _=_;rw[HokE.o,decide_eq_false h40];rfl
     clear HokE HEO h40;refine (rB B 8 _ (.inr ⟨_,Hrd7.o,by rw[List.length_drop];omega⟩) om om).mono ?_
     rintro _ w8 ⟨rfl,hbad8,ho8⟩;have Hb8:=SM (ho8.below Hb7.o HBw.o);have HR8:=SM ((ho8.canAt (w.heap.size+1) 0 33 (Ne.symm HBR.o)).trans HR7.o);have Hbad8:=SM hbad8;clear hbad8 ho8 Hb7 HR7 Hrd7 HrE7 HkE7
     go_wp2_with fail
     refine (qj B _ Hbad8.o).mono ?_;rintro _ _ ⟨rfl,rfl⟩;have hR8:=HR8.o
     go_wp2
     refine bodyPost_ret (eE rfl _ _ (w.heap.size+1) 0 _ _ _ rfl rfl rfl (Ny _ _ _ hR8 sm)) rfl ⟨ux.no Hno.o,aa Hb8.o om _ _⟩
    ·refine (gz B _ 8 _ Hrd7.o om om (by rw[List.length_drop];omega)).mono ?_
     rintro _ w8 ⟨rfl,hrd8,ho8⟩;have Hb8:=SM (ho8.below Hb7.o HBw.o);have HR8:=SM ((ho8.canAt (w.heap.size+1) 0 33 (Ne.symm HBR.o)).trans HR7.o);have HrE8:=SM ((ho8.readAt E 0 33 (Ne.symm HBE.o)).trans HrE7.o);have HkE8:=SM ((ho8.canAt E 0 33 (Ne.symm HBE.o)).trans HkE7.o);have Hrd8:=SM hrd8;clear hrd8 ho8 Hb7 HR7 Hrd7 HrE7 HkE7
     by_cases h40:l.length=40
     ·have hnil:decide ((l.drop 32).drop 8=[])=true:=by
       rw[List.drop_drop];simp;omega
      have htk:(l.drop 32).take 8=l.drop 32:=List.take_of_length_le (by rw[List.length_drop];omega)
      have hlt:dF x < 18446744073709551616:=by
       rw[HEO.o];have h1:=nb_lt (l.drop 32);rw[List.length_drop,h40] at h1;exact h1
      have hokE:S9 x=decide (dF x≤4611686018427387904):=by rw[HokE.o,decide_eq_true h40];rfl
      have HokE':=SM hokE;rw[htk,← HEO.o];clear htk HEO HokE hokE;generalize hXX:dF x=X at *;have HXX:=SM hXX;clear hXX
      go_wp2_with fail
      refine (uP B _ _ Hrd8.o).mono ?_;rintro _ _ ⟨rfl,rfl⟩;rw[hnil];clear hnil
      by_cases hX:X≤4611686018427387904
      ·have hd:decide ((4611686018427387904:Int) < (X:Int))=false:=sO;have hwr:wrap64 (X:Int)=(X:Int):=by rw[← wD];exact AA X hX
       have Hyes:Hd (S9 x=true):=by show _=_;rw[HokE'.o,decide_eq_true hX]
       have hcE:=ab HrE8.o 32 _ (qo _ _);have hfE:=bq HkE8.o 32;rw[Nat.zero_add] at hcE hfE;have hcan1:=aC HkE8.o 32 1 om;have hoE:=cC.setAt w8 E 32 #[.int .i64 (X:Int)];have hrE9:readAt (setAt w8 E 32 #[.int .i64 (X:Int)]) E 0 33=some (ev (ei x) (X:Int)):=by
        rw[ae _ _ 0 33 _ HrE8.o HkE8.o 32 _ om sm,Nat.sub_zero,Ls]
       have hR9:=(hoE.canAt (w.heap.size+1) 0 33 (by have:=HER.o;omega)).trans HR8.o
       have Hb9:=SM (hoE.below Hb8.o (by have:=HER.o;omega))
       have hsc:=aK (v:=.int .i64 (X:Int)) hcan1;clear hoE HokE' hX
       go_wp2_with fail
       generalize setAt w8 E 32 #[.int .i64 (X:Int)]=w9 at *
       go_region
       all_goals
        have hk6:canAt w9.drew (w.heap.size+1) 0 33=true:=by rw[ku];exact hR9
        have hfin:=Hb9.o.drew
        go_wp2
        refine bodyPost_ret (eE rfl _ _ (w.heap.size+1) 0 _ _ _ rfl rfl rfl (Ny _ _ _ hk6 sm)) rfl ⟨?_,aa hfin om _ _⟩;rw[← HXX.o];exact ux.yes Hyes.o
      ·have hd:decide ((4611686018427387904:Int) < (X:Int))=true:=sO;have Hno:Hd (S9 x=false):=by show _=_;rw[HokE'.o,decide_eq_false hX]
       have hR8:=HR8.o;clear HokE' hX
       go_wp2
       refine bodyPost_ret (eE rfl _ _ (w.heap.size+1) 0 _ _ _ rfl rfl rfl (Ny _ _ _ hR8 sm)) rfl ⟨ux.no Hno.o,aa Hb8.o om _ _⟩
     ·have hnil:decide ((l.drop 32).drop 8=[])=false:=by
       rw[List.drop_drop];simp;omega
      have Hno:Hd (S9 x=false):=by show _=_;rw[HokE.o,decide_eq_false h40];rfl
      clear HokE HEO;generalize nb ((l.drop 32).take 8)=X at *
      go_wp2_with fail
      refine (uP B _ _ Hrd8.o).mono ?_;rintro _ _ ⟨rfl,rfl⟩;rw[hnil];have hR8:=HR8.o
      go_wp2
      refine bodyPost_ret (eE rfl _ _ (w.heap.size+1) 0 _ _ _ rfl rfl rfl (Ny _ _ _ hR8 sm)) rfl ⟨ux.no Hno.o,aa Hb8.o om _ _⟩
 ·obtain rfl:=hpo.no (by simpa using hok)
  have hno:S9 x=false:=by unfold S9;rw[show Ta x=false by simpa using hok];rfl
  have hk1:=Hk1.o;clear hpo
  go_wp2
  refine bodyPost_ret (eE rfl _ _ (w.heap.size+1) 0 _ _ _ rfl rfl rfl (Ny _ _ _ hk1 sm)) rfl ⟨ux.no hno,aa Hb1.o om _ _⟩
end
end Go.Proofs.YtlcfaaodmickbaaGreatDoor
