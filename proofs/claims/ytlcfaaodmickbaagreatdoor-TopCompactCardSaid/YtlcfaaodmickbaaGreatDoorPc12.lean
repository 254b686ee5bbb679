/- Part 12 of the proof: texts merged and shortened by a program. No conditions. -/
import Derived.Test.YtlcfaaodmickbaaGreatDoorPc11
set_option linter.unusedSimpArgs false
set_option linter.unusedVariables false
set_option maxRecDepth 100000
set_option maxHeartbeats 8000000
namespace Go.Proofs.YtlcfaaodmickbaaGreatDoor
open Go.RowKit Go.Proofs.Tryz
section
def bV:Nat→RS→List (List UInt8)→Option (List (List UInt8) × RS)
 | 0,s,acc=>some (acc,s)
 | n+1,s,acc=>if db (fT 1 s)=true then bV n (fz 1 s) (acc ++ [fT 1 s]) else none
def fh(s:RS):Option (List UInt8 × List (List UInt8) × RS) :=
 if db (fT 1 s)=true then
  if 1≤bS 1 (fz 1 s)∧bS 1 (fz 1 s)≤8 then (bV (bS 1 (fz 1 s)) (aI 1 (fz 1 s)) []).map fun x=>(fT 1 s,x.1,x.2) else none
 else none
theorem Ay(s:RS)(h:db (fT 1 s)=true):∃ l,fz 1 s=some l:=by
 cases hs:fz 1 s with
 | some l=>exact⟨l,rfl⟩
 | none =>
  exfalso
  have:fT 1 s=[]:=by
   unfold fz at hs;unfold fT
   split at hs
   ·rename_i l hl
    split at hs
    ·cases hs
    ·rename_i hn;simp[hn]
   ·rfl
  rw[this] at h;simp[db] at h
def A2(o:Option (List UInt8 × List (List UInt8) × RS))(w:World)(B lo hi:Nat)(e:Ending)(w':World):Prop :=
 match o with
 | none=>e = .returned (.tuple #[.agg #[.string ⟨#[]⟩,.slice none 0 0],.bool false])
 | some (r,ps,s')=>(∃ ad c,e = .returned (.tuple #[.agg #[.string (aY r),.slice ad ps.length c],.bool true])∧aM w' ad ps.length c (ps.map aY)∧∀ a,ad=some a→w.heap.size≤a.block∧a.block < w'.heap.size)∧Rd w' B lo hi s'
structure P2 (w:World) (b:Nat) (x y:Value):Prop where
 k:canAt w b 0 2=true
 r:readAt w b 0 2=some #[x,y]
section
variable {w w':World} {b:Nat} {x y x' y':Value}
theorem P2.lt(h:P2 w b x y):b < w.heap.size:=ac h.r
theorem P2.same(h:P2 w b x y)(hb:w'.heap[b]? = w.heap[b]?):P2 w' b x y:=⟨by rw[← h.k];simp[canAt,hb],by rw[← h.r];simp[readAt,hb]⟩
theorem P2.below(h:P2 w b x y)(hb:Below w.heap.size w w'):P2 w' b x y:=h.same (hb.block b h.lt)
theorem P2.drew(h:P2 w b x y):P2 w.drew b x y:=h.same rfl
theorem P2.c0(h:P2 w b x y):w.cell? ⟨b,0,none⟩=some x:=by have:=ab h.r 0 _ rfl;rwa [Nat.zero_add] at this
theorem P2.c1(h:P2 w b x y):w.cell? ⟨b,1,none⟩=some y:=by have:=ab h.r 1 _ rfl;rwa [Nat.zero_add] at this
theorem P2.free(h:P2 w b x y)(i:Nat):w.frozen? ⟨b,i,none⟩=false:=by have:=bq h.k i;rwa [Nat.zero_add] at this
theorem P2.set0(h:P2 w b x y)(v:Value):P2 (w.setCell ⟨b,0,none⟩ v) b v y:=by
 have hk:=aC h.k 0 1 om;rw[aK hk];refine⟨by rw[ap _ _ _ _ _ _ _ hk];exact h.k,?_⟩
 rw[ae w b 0 2 _ h.r h.k 0 _ om sm];simp[bK]
theorem P2.set1(h:P2 w b x y)(v:Value):P2 (w.setCell ⟨b,1,none⟩ v) b x v:=by
 have hk:=aC h.k 1 1 om;rw[aK hk];refine⟨by rw[ap _ _ _ _ _ _ _ hk];exact h.k,?_⟩
 rw[ae w b 0 2 _ h.r h.k 1 _ om sm];simp[bK]
theorem P2.set(h:P2 w b x y)(u v:Value):P2 ((w.setCell ⟨b,0,none⟩ u).setCell ⟨b,1,none⟩ v) b u v:=(h.set0 u).set1 v
theorem P2.other(h:P2 w b x y)(p:Addr)(v:Value)(hp:p.block≠b):P2 (w.setCell p v) b x y:=h.same (Below.heap_setCell _ _ _ _ (fun e=>hp e.symm))
theorem P2.made(w:World)(t:TypeId)(x y:Value):P2 (w.alloc (.cells #[x,y] t)) w.heap.size x y:=⟨by simp[go_sem],by simp[go_sem]⟩
end
theorem KT:(prog.info? 95).map (·.size)=some 2:=kr
theorem Pw:prog.underlying 95=some (.struct (prog.fieldsOf 95)):=kr
theorem mR{w:World}{b:Nat}{x y:Value}(h:P2 w b x y):(loadVar 95 ⟨b,0,none⟩).run prog w = .ok (.agg #[x,y]) w:=az w b 0 2 95 _ _ h.r Pw rfl KT
theorem tK(l:List UInt8):(aY l).data.toList=l:=by simp[aY]
theorem EI:(prog.info? 9).map (fun i=>(i.zero,i.size,i.bytes))=some (some (.string ⟨#[]⟩),1,16):=kr
theorem te(n:Nat)(s:RS)(acc:List (List UInt8))(h:db (fT 1 s)=false):bV (n+1) s acc=none:=by unfold bV;rw[h];rfl
theorem qN(n:Nat)(s:RS)(acc:List (List UInt8))(h:db (fT 1 s)=true):bV (n+1) s acc=bV n (fz 1 s) (acc ++ [fT 1 s]):=by
 rw[bV,if_pos h]
def Es(L:List (List UInt8)):List Value:=L.map fun p=>.string (aY p)
theorem vC(s:RS)(h:db (fT 1 s)=false):fh s=none:=by unfold fh;rw[h];rfl
theorem pg(s:RS)(h:db (fT 1 s)=true)(hn:bS 1 (fz 1 s) < 1∨8 < bS 1 (fz 1 s)):fh s=none:=by
 unfold fh;rw[if_pos h,if_neg om]
theorem zU(s:RS)(h:db (fT 1 s)=true)(hn:1≤bS 1 (fz 1 s)∧bS 1 (fz 1 s)≤8):fh s=(bV (bS 1 (fz 1 s)) (aI 1 (fz 1 s)) []).map fun x=>(fT 1 s,x.1,x.2):=by
 unfold fh;rw[if_pos h,if_pos hn]
theorem sK(B lo hi:Nat)(s:RS)(w:World)(h:Rd w B lo hi s):
  Calls prog 184 #[.pointer (some ⟨B,0,none⟩)] w fun e w'=>A2 (fh s) w B lo hi e w'∧Kb (fun b=>b=B) w w':=by
 have H:=SM h;clear h;obtain⟨R,hR⟩:=eY (fh s);rw[hR];have HR:=SM hR;clear hR
 go_in
 go_wp2_with fail
 have hRB:=P2.made w 95 (.string ⟨#[]⟩) (.slice none 0 0);have hb0:=ba (.cells #[.string ⟨#[]⟩,.slice none 0 0] 95) (Sy w);have hs0:(w.alloc (.cells #[.string ⟨#[]⟩,.slice none 0 0] 95)).heap.size=w.heap.size+1:=sm;generalize w.alloc (.cells #[.string ⟨#[]⟩,.slice none 0 0] 95)=w1 at *;have hsz:=H.o.sz;refine (jX B lo hi s 1 w1 (H.o.below hb0) om om).mono ?_;rintro _ w2 ⟨⟨ad,c,rfl,hB,_⟩,hr2,hk2⟩;have hBlt:B < w.heap.size:=by have:=H.o.b;omega
 have HB2:=H.o.b;have hcv:=qb hB;have HRB:=SM (hRB.same (hk2.block _ hRB.lt om));have HK:=SM ((Kb.of_below (X:=fun b=>b=B) hb0).trans hk2 (fun i hi=>.inl hi));have Hr2:=SM hr2;have hs2:=hk2.size;clear hRB hr2 hk2 hB hb0
 go_wp2_with fail
 have hNB:=P2.made w2 95 (.string (aY (fT 1 s))) (.slice none 0 0);have hb3:=ba (.cells #[.string (aY (fT 1 s)),.slice none 0 0] 95) (Sy w2);have hs3:(w2.alloc (.cells #[.string (aY (fT 1 s)),.slice none 0 0] 95)).heap.size=w2.heap.size+1:=sm;generalize w2.alloc (.cells #[.string (aY (fT 1 s)),.slice none 0 0] 95)=w3 at *;clear hcv;refine (lW (aY (fT 1 s)) w3).mono ?_;rintro _ w4 ⟨rfl,hb4⟩;rw[tK]
 have HN4:=SM (hNB.below hb4);have HR4:=SM ((HRB.o.below hb3).below hb4);have Hr4:=SM ((Hr2.o.below hb3).below hb4);have HK4:=SM ((HK.o.trans (Kb.of_below (X:=fun b=>b=B) hb3) (fun i hi=>.inl hi)).trans (Kb.of_below (X:=fun b=>b=B) hb4) (fun i hi=>.inl hi));have l1:w.heap.size < w2.heap.size:=om;have hs4:=hb4.size;clear hNB HRB Hr2 HK hb3 hb4;generalize w2.heap.size=NB at *;generalize hRe:w.heap.size=RB at *
 obtain⟨r,hr⟩:=eY (fT 1 s);have Hre:=SM hr;rw[hr] at HN4 ⊢;clear hr;have kp:∀ (u:World) (x y:Value),Kb (fun b=>b=B) w u→Kb (fun b=>b=B) w ((u.setCell ⟨RB,0,none⟩ x).setCell ⟨RB,1,none⟩ y):=fun u x y hk=>(hk.cellN _ _ (.inr (by show _≤RB;omega))).cellN _ _ (.inr (by show _≤RB;omega))
 have Kp:=SM kp;clear kp;cases hw:db r with
 | false =>
  have hn:R=none:=by rw[← HR.o];exact vC s (by rw[Hre.o];exact hw)
  subst hn;have f0:=HR4.o.free 0;have f1:=HR4.o.free 1;have q0:=HR4.o.c0;have q1:=HR4.o.c1
  go_wp2
  refine bodyPost_ret (aD _ _ ⟨RB,0,none⟩ (.agg #[.string ⟨#[]⟩,.slice none 0 0]) (.bool false) rfl rfl rfl (mR (HR4.o.set _ _))) rfl ⟨rfl,Kp.o _ _ _ HK4.o⟩
 | true =>
  go_wp2_with fail
  refine (dB B lo hi (fz 1 s) 1 w4 Hr4.o om om).mono ?_;rintro _ w5 ⟨rfl,hr5,hk5⟩;have HN5:=SM (HN4.o.same (hk5.block _ HN4.o.lt om));have HR5:=SM (HR4.o.same (hk5.block _ HR4.o.lt om));have Hr5:=SM hr5;have HK5:=SM (HK4.o.trans hk5 (fun i hi=>.inl hi));have hs5:=hk5.size;have hlt:=mY 1 (fz 1 s) om;obtain⟨m,hm⟩:=eY (bS 1 (fz 1 s));rw[hm] at hlt ⊢;have Hm:=SM hm;have Hw:=SM hw;clear hm hw hr5 hk5 HN4 HR4 Hr4 HK4
  by_cases h1:m < 1
  ·have hn:R=none:=by rw[← HR.o];exact pg s (by rw[Hre.o];exact Hw.o) (.inl (by rw[Hm.o];exact h1))
   subst hn;have d1:decide ((m:Int) < 1)=true:=dt;have f0:=HR5.o.free 0;have f1:=HR5.o.free 1;have q0:=HR5.o.c0;have q1:=HR5.o.c1
   go_wp2
   refine bodyPost_ret (aD _ _ ⟨RB,0,none⟩ (.agg #[.string ⟨#[]⟩,.slice none 0 0]) (.bool false) rfl rfl rfl (mR (HR5.o.set _ _))) rfl ⟨rfl,Kp.o _ _ _ HK5.o⟩
  by_cases h8:8 < m
  ·have hn:R=none:=by rw[← HR.o];exact pg s (by rw[Hre.o];exact Hw.o) (.inr (by rw[Hm.o];exact h8))
   subst hn;have d1:decide ((m:Int) < 1)=false:=df;have d2:decide ((8:Int) < (m:Int))=true:=dt;have f0:=HR5.o.free 0;have f1:=HR5.o.free 1;have q0:=HR5.o.c0;have q1:=HR5.o.c1
   go_wp2
   refine bodyPost_ret (aD _ _ ⟨RB,0,none⟩ (.agg #[.string ⟨#[]⟩,.slice none 0 0]) (.bool false) rfl rfl rfl (mR (HR5.o.set _ _))) rfl ⟨rfl,Kp.o _ _ _ HK5.o⟩
  have hRe2:R=(bV m (aI 1 (fz 1 s)) []).map fun x=>(r,x.1,x.2):=by
   rw[← HR.o,zU s (by rw[Hre.o];exact Hw.o) (by rw[Hm.o];omega),Hm.o,Hre.o]
  obtain⟨Q,hQ⟩:=eY (bV m (aI 1 (fz 1 s)) []);rw[hQ] at hRe2;subst hRe2;have HQ:=SM hQ;clear hQ;have d1:decide ((m:Int) < 1)=false:=df;have d2:decide ((8:Int) < (m:Int))=false:=df;obtain⟨i0,hit,hz,hsz',hby⟩:=info_parts EI;have l2:RB < NB:=l1;have l3:NB < w5.heap.size:=HN5.o.lt;have l4:hi≤RB:=om
  go_wp2
  go_loopw [26] (fun i wr=>∃ (j:Nat) (acc:List (List UInt8)) (sj:RS) (v:Value),i = .int .u64 j∧j≤m∧acc.length=j∧Hd (bV (m - j) sj acc=Q)∧Hd (0 < j→sj.isNone=false)∧Rd wr B lo hi sj∧P2 wr NB (.string (aY r)) v∧wr.ownsRow w5.heap.size 9 1 v j (Es acc)∧P2 wr RB (.string ⟨#[]⟩) (.slice none 0 0)∧Kb (fun b=>b=B) w wr∧w5.heap.size≤wr.heap.size) (fun i _=>m - (intOf i).toNat)
  case atStart=>exact⟨0,[],_,_,rfl,om,rfl,HQ,fun h=>absurd h om,Hr5.o,HN5.o,World.ownsRow_nil _ _ _ _,HR5.o,HK5.o,Nat.le_refl _⟩
  case round =>
   obtain⟨j,acc,sj,v,rfl,hj,hacc,hq,hsj,hr,hN,ho,hRr,hk,hz5⟩:=hrel;have Hacc:=SM hacc;have Hr:=SM hr;have HN:=SM hN;have Ho:=SM ho;have HRr:=SM hRr;have HK:=SM hk;have Hz5:=SM hz5;clear hacc hr hN ho hRr hk hz5
   by_cases hlt:j < m
   ·obtain⟨mm,hmm⟩ : ∃ mm,m - j=mm+1:=⟨m - j - 1,om⟩;have Hmm:=SM hmm;have hq2:=hq.o;rw[hmm] at hq2;have Hq:=SM hq2;clear hmm hq2 hq hsj
    go_wp2_with fail
    refine (jX B lo hi sj 1 wr Hr.o om om).mono ?_;rintro _ w6 ⟨⟨ad,cc,rfl,hB,_⟩,hr6,hk6⟩;have hcv:=qb hB;have HN6:=SM (HN.o.same (hk6.block _ HN.o.lt om));have HR6:=SM (HRr.o.same (hk6.block _ HRr.o.lt om));have Hr6:=SM hr6;have HK6:=SM (HK.o.trans hk6 (fun i hi=>.inl hi));have Ho6:=SM (bu Ho.o (fun g hg hlt=>hk6.block g hlt (by have:=(Ho.o.lt g hg).1;omega)))
    have hz6:w5.heap.size≤w6.heap.size:=Nat.le_trans Hz5.o hk6.size;clear hr6 hk6 hB Hr HN HRr Ho HK
    go_wp2_with fail
    clear hcv;refine (lW (aY (fT 1 sj)) w6).mono ?_;rintro _ w7 ⟨rfl,hb7⟩;rw[tK];replace HN6:=SM (HN6.o.below hb7);replace HR6:=SM (HR6.o.below hb7);replace Hr6:=SM (Hr6.o.below hb7);replace HK6:=SM (HK6.o.trans (Kb.of_below (X:=fun b=>b=B) hb7) (fun i hi=>.inl hi));replace Ho6:=SM (ah Ho6.o hb7);have hz7:w5.heap.size≤w7.heap.size:=Nat.le_trans hz6 hb7.size;clear hb7;obtain⟨p,hp⟩:=eY (fT 1 sj);rw[hp]
    have Hp:=SM hp;clear hp;cases hw:db p with
    | false =>
     have hn:Q=none:=by rw[← Hq.o];exact te _ _ _ (by rw[Hp.o];exact hw)
     subst hn;have f0:=HR6.o.free 0;have f1:=HR6.o.free 1;have q0:=HR6.o.c0;have q1:=HR6.o.c1
     go_wp2
     refine bodyPost_ret (aD _ _ ⟨RB,0,none⟩ (.agg #[.string ⟨#[]⟩,.slice none 0 0]) (.bool false) rfl rfl rfl (mR (HR6.o.set _ _))) rfl ⟨rfl,Kp.o _ _ _ HK6.o⟩
    | true =>
     have hq3:bV mm (fz 1 sj) (acc ++ [p])=Q:=by rw[← Hq.o,qN _ _ _ (by rw[Hp.o];exact hw),Hp.o]
     have hst:Hd (0 < j+1→(fz 1 sj).isNone=false):=fun _=>by
      obtain⟨l,hl⟩:=Ay sj (by rw[Hp.o];exact hw)
      rw[hl];rfl
     have Hq3:=SM hq3;clear hq3 hw Hq;have n0:=HN6.o.c0;have n1:=HN6.o.c1;have nf:=HN6.o.free 1;have hb8:=ba (.cells #[.string (aY p)] 9) (Sy w7);have hsrc:∀ k u,[Value.string (aY p)][k]? = some u→(w7.alloc (.cells #[.string (aY p)] 9)).cell? ((⟨w7.heap.size,0,none⟩ : Addr).add k)=some u:=fv (n:=1) (cs:=#[.string (aY p)]) (by simp[go_sem])
     have HN8:=SM (HN6.o.below hb8);have HR8:=SM (HR6.o.below hb8);have Hr8:=SM (Hr6.o.below hb8);have HK8:=SM (HK6.o.trans (Kb.of_below (X:=fun b=>b=B) hb8) (fun i hi=>.inl hi));have Ho8:=SM (ah Ho6.o hb8);have hz8:w5.heap.size≤(w7.alloc (.cells #[.string (aY p)] 9)).heap.size:=Nat.le_trans hz7 hb8.size;have Hsrc:=SM hsrc;clear HN6 HR6 Hr6 HK6 Ho6 hb8 hsrc
     go_wp2_with (at_builtin;refine wpList_append_own _ rfl _ _ 93 rfl w5.heap.size 9 i0 _ 1 16 underlying93 hit hz hsz' hby rfl dc _ j _ rfl Ho8.o ⟨w7.heap.size,0,none⟩ 1 1 [.string (aY p)] rfl rfl Hsrc.o ?c3 ?c4 ?c5 ?c6 ?_)
     case c3=>intro u hu;first | rfl | (simp at hu;subst hu;rfl)
     case c4=>simp only[maxLen];omega
     case c5=>omega
     case c6=>exact hz8
     intro v' w9 hown9 hgr hnil;obtain⟨ad9,cap9,rfl,_⟩:=aG hown9;have hne:∀ r,v.ownBlock=some r→w5.heap.size≤r:=fun r e=>(Ho8.o.lt r e).1;have HN9:=SM (HN8.o.same (hgr.block NB HN8.o.lt (fun e=>by have:=hne NB e.symm;omega)))
     have HR9:=SM (HR8.o.same (hgr.block RB HR8.o.lt (fun e=>by have:=hne RB e.symm;omega)))
     have hKg:=Kb.of_grown (X:=fun r=>w5.heap.size≤r) hgr (fun r e=>hne r e);have HK9:=SM (HK8.o.trans hKg (fun i hi=>.inr (by have:=HK5.o.size;omega)))
     have Hr9:=SM (Hr8.o.kb hKg (fun b hb=>.inr om));have hz9:w5.heap.size≤w9.heap.size:=Nat.le_trans hz8 hgr.size;have Ho9:Hd (w9.ownsRow w5.heap.size 9 1 (.slice ad9 (j+1) cap9) (j+1) (Es (acc ++ [p]))):=by
      show World.ownsRow _ _ _ _ _ _ _
      unfold Es at hown9 ⊢;rw[List.map_append];exact hown9
     clear hown9 hgr hnil hKg HN8 HR8 HK8 Hr8 Ho8 Hsrc n0 n1 nf;have n0:=HN9.o.c0;have n1:=HN9.o.c1;have nf:=HN9.o.free 1;have HN10:=SM (HN9.o.set1 (.slice ad9 (j+1) cap9));have HR10:=SM (HR9.o.other ⟨NB,1,none⟩ (.slice ad9 (j+1) cap9) (by show NB≠RB;omega))
     have HK10:=SM (HK9.o.cellN ⟨NB,1,none⟩ (.slice ad9 (j+1) cap9) (.inr (by show _≤NB;omega)))
     have Hr10:=SM (Hr9.o.kb (Kb.mod (X:=fun b=>b=NB) (A:=w9) ⟨NB,1,none⟩ (.slice ad9 (j+1) cap9) rfl) (fun b hb=>.inr om));have Ho10:=SM (bu (w':=w9.setCell ⟨NB,1,none⟩ (.slice ad9 (j+1) cap9)) Ho9.o (fun g hg hlt=>Below.heap_setCell _ _ _ _ (by have:=(Ho9.o.lt g hg).1;show g≠NB;omega)))
     have hz10:w5.heap.size≤(w9.setCell ⟨NB,1,none⟩ (.slice ad9 (j+1) cap9)).heap.size:=by simpa using hz9
     clear HN9 HR9 HK9 Hr9 Ho9
     go_wp2
     go_roundw
     case rel=>exact⟨j+1,acc ++ [p],fz 1 sj,(.slice ad9 (j+1) cap9),by go_num,om,by rw[List.length_append,Hacc.o];rfl,by show _=_;rw[show m - (j+1)=mm by have:=Hmm.o;omega];exact Hq3.o,hst,Hr10.o,HN10.o,Ho10.o,HR10.o,HK10.o,hz10⟩
     case measure=>simp[intOf];omega
   ·obtain rfl:j=m:=om;have hq2:=hq.o;rw[Nat.sub_self] at hq2;have hqe:Q=some (acc,sj):=by rw[← hq2];rfl
    subst hqe;clear hq2 hq;have hsn:=hsj.o om;obtain⟨adv,capv,rfl,_⟩:=aG Ho.o
    go_upto_region 14 with fail
    replace Hr:=SM Hr.o.drew;replace HN:=SM HN.o.drew;replace HRr:=SM HRr.o.drew;replace Ho:=SM (ah Ho.o (Below.refl _ _).drew);replace HK:=SM (HK.o.trans (Kb.of_below (X:=fun b=>b=B) (Below.refl _ _).drew) (fun i hi=>.inl hi));refine yW (tk 0 2 (.call 2 (.take 3 (.run 4 (.take 5 .done))))) (fun u=>P2 u NB (.string (aY r)) (.slice adv j capv)∧Rd u B lo hi sj) ⟨HN.o,Hr.o⟩ ?_;generalize wr.drew=wr at *
    repeat((first|refine yO ?_|refine yM ?_|refine yF rfl rfl (fun w' hC'=>by have q0:=hC'.1.c0;have q1:=hC'.1.c1;go_simp;first|done|exact rfl) ?_);walk_nrm)
    refine nK rfl rfl ?_;apply Exists.intro;apply Exists.intro;apply Exists.intro;refine⟨fun w' hC'=>?_,fun w' hC'=>?_,?_⟩;(skip;go_simp;exact⟨rfl,rfl⟩);(skip;exact eR (Pa B lo hi sj _ hC'.2));walk_nrm;rw[hsn]
    repeat(refine yA ?_;walk_nrm)
    have q2:=HRr.o.c0;have q3:=HRr.o.c1;have q4:=HRr.o.free 0;have q5:=HRr.o.free 1;refine dd rfl rfl (fun K hK=>?_);go_simp;have hR2:=HRr.o.set (.string (aY r)) (.slice adv j capv);have hkm:Kb (fun b=>b=RB) wr ((wr.setCell ⟨RB,0,none⟩ (.string (aY r))).setCell ⟨RB,1,none⟩ (.slice adv j capv)):=(Kb.mod (X:=fun b=>b=RB) ⟨RB,0,none⟩ _ rfl).cell1 _ _ rfl;have hN2:=HN.o.same (hkm.block NB HN.o.lt om);have hr2:=Hr.o.kb hkm (fun b hb=>.inr om)
    have ho2:=bu Ho.o (fun g hg hlt=>hkm.block g hlt (by have:=(Ho.o.lt g hg).1;omega))
    have hk2:=Kp.o _ (.string (aY r)) (.slice adv j capv) HK.o;refine hK _ _ (fun u=>P2 u NB (.string (aY r)) (.slice adv j capv)∧Rd u B lo hi sj) (fun _ h=>h) ⟨hN2,hr2⟩ ?_;clear hK hkm hN2 q2 q3 q4 q5;generalize (wr.setCell ⟨RB,0,none⟩ (.string (aY r))).setCell ⟨RB,1,none⟩ (.slice adv j capv)=w10 at *
    repeat(refine yA ?_;walk_nrm)
    refine al ?_;have HX:=SM (And.intro hR2 (And.intro hr2 (And.intro ho2 hk2)));clear hR2 hr2 ho2 hk2
    go_wp2
    refine bodyPost_ret (aD _ _ ⟨RB,0,none⟩ (.agg #[.string (aY r),.slice adv j capv]) (.bool true) rfl rfl rfl (mR HX.o.1)) rfl ⟨?_,HX.o.2.2.2⟩
    show A2 (some (r,acc,sj)) w B lo hi _ _
    have hS:aM w10 adv acc.length capv (acc.map aY):=by
     have h:=aG HX.o.2.2.1;rw[← Hacc.o] at h;refine⟨sm,?_⟩;have e:(acc.map aY).map Value.string=Es acc:=by simp[Es]
     rw[e];exact h
    refine⟨⟨adv,capv,by rw[Hacc.o],hS,fun a ha=>?_⟩,HX.o.2.1⟩
    have h5:=HK5.o.size
    rcases HX.o.2.2.1.2 with ⟨hn,_⟩ | ⟨g,cap,cur,hv,hbg,hgg,_⟩
    ·simp only[Value.slice.injEq] at hn;rw[hn.1] at ha;cases ha
    ·simp only[Value.slice.injEq] at hv;rw[hv.1] at ha;cases ha;exact⟨by show w.heap.size≤g;omega,(Array.getElem?_eq_some_iff.1 hgg).1⟩
end
section
section
variable (r:ByteArray) (ad:Option Addr) (n c:Nat) (s e:Int) (k k':RX)
theorem tQ:tv r ad n c s e k=#[.string r,.slice ad n c,.int .i64 s,.int .i64 e] ++ av k:=by unfold tv;rfl
theorem IH:bK (tv r ad n c s e k) 4 (av k')=tv r ad n c s e k':=by
 rw[tQ,tQ,o5 _ _ _ 4 rfl sm]
end
theorem EU:(prog.info? 97).bind (·.zero)=some (.agg (tv ⟨#[]⟩ none 0 0 0 0 cM)):=kr
theorem EG:prog.underlying 97=some (.struct (prog.fieldsOf 97)):=kr
theorem sQ:((prog.fieldsOf 97).toList.mapM fun f=>(prog.info? f.type).map fun i=>(f.offset,i.size))=some [(0,2),(2,1),(3,1),(4,16)]:=kr
@[go_sem ↓] theorem JG(w:World):(mh #[]).run prog w = .ok (.agg (tv ⟨#[]⟩ none 0 0 0 0 cM)) w:=by
 unfold mh;exact run_build w _ _ _ (by rw[jC EU EG sQ];rfl)
@[go_sem ↓] theorem JH(w:World)(r:ByteArray)(ad:Option Addr)(n c:Nat)(s e:Int):(mh #[(0,.agg #[.string r,.slice ad n c]),(1,.int .i64 s),(2,.int .i64 e)]).run prog w = .ok (.agg (tv r ad n c s e cM)) w:=by
 unfold mh;refine run_build w _ _ _ ?_;rw[jC EU EG sQ]
 show Instr.fill _ _ _=_
 rw[gC (off:=0) (size:=2) rfl rfl sm,gC (off:=2) (size:=1) rfl rfl (by rw[da _ _ _ (by simp[Value.cells])];simp),gC (off:=3) (size:=1) rfl rfl (by rw[da _ _ _ (by rw[da _ _ _ (by simp[Value.cells])];simp[Value.cells]),da _ _ _ (by simp[Value.cells])];simp)]
 simp only[Value.cells,Instr.fill,tQ];refine congrArg some ?_
 apply Array.ext'
 simp[bK]
structure gS (w:World) (b:Nat) (r:ByteArray) (ad:Option Addr) (n c:Nat) (s e:Int) (k:RX):Prop where
 r:readAt w b 0 20=some (tv r ad n c s e k)
 k:canAt w b 0 20=true
section
variable {w w':World} {b:Nat} {r r':ByteArray} {ad ad':Option Addr} {n c n' c':Nat} {s e s' e':Int} {k k':RX}
theorem gS.lt(h:gS w b r ad n c s e k):b < w.heap.size:=ac h.r
theorem gS.same(h:gS w b r ad n c s e k)(hb:w'.heap[b]? = w.heap[b]?):gS w' b r ad n c s e k:=⟨by rw[← h.r];simp[readAt,hb],by rw[← h.k];simp[canAt,hb]⟩
theorem gS.below(h:gS w b r ad n c s e k)(hb:Below w.heap.size w w'):gS w' b r ad n c s e k:=h.same (hb.block b h.lt)
theorem gS.drew(h:gS w b r ad n c s e k):gS w.drew b r ad n c s e k:=h.same rfl
theorem gS.all(h:gS w b r ad n c s e k)(r':ByteArray)(ad':Option Addr)(n' c':Nat)(s' e':Int)(k':RX):gS (setAt w b 0 (tv r' ad' n' c' s' e' k')) b r' ad' n' c' s' e' k' :=
 ⟨by rw[am _ _ _ _ _ sm (by simpa using h.k)],by rw[ap _ _ _ _ _ _ _ (by simpa using h.k)];exact h.k⟩
theorem gS.key(h:gS w b r ad n c s e k)(k':RX):gS (setAt w b 4 (fw B8 k')) b r ad n c s e k':=by
 have hk:=aC h.k 4 16 om;refine⟨?_,by rw[ap _ _ _ _ _ _ _ (by simpa using hk)];exact h.k⟩
 rw[ae w b 0 20 _ h.r h.k 4 _ om sm,Nat.sub_zero];exact congrArg some (IH r ad n c s e k k')
theorem gS.apart(h:gS w b r ad n c s e k)(b' o:Nat)(cs:Array Value)(hb:b'≠b):gS (setAt w b' o cs) b r ad n c s e k:=h.same (aw w b' o cs b (Ne.symm hb))
theorem gS.made(w:World)(r:ByteArray)(ad:Option Addr)(n c:Nat)(s e:Int)(k:RX):gS (w.alloc (.cells (tv r ad n c s e k) 97)) w.heap.size r ad n c s e k :=
 ⟨by rw[aj _ _ _ _ _ _ _ rfl sm];simp[JX],by rw[aq _ _ _ _ _ _ rfl sm]⟩
theorem dS(h:gS w b r ad n c s e k):(loadVar 97 ⟨b,0,none⟩).run prog w = .ok (.agg (tv r ad n c s e k)) w:=az w b 0 20 97 _ _ h.r EG rfl uX
end
theorem Se.same'{w w':World}{ad:Option Addr}{n c sz:Nat}{xs:List Value}(h:Se w (.slice ad n c) n sz xs)(hb:∀ a,ad=some a→w'.heap[a.block]? = w.heap[a.block]?):Se w' (.slice ad n c) n sz xs:=by
 obtain⟨ad',cap,h1,h2,h3,h4,h5,h6⟩:=h;refine⟨ad',cap,h1,h2,h3,h4,h5,fun h0=>?_⟩;obtain⟨b,o,e,hr⟩:=h6 h0;simp only[Value.slice.injEq] at h1;exact⟨b,o,e,by rw[← hr];simp[readAt,hb ⟨b,o,none⟩ (h1.1.trans e)]⟩
theorem aM.same{w w':World}{ad:Option Addr}{n c:Nat}{L:List ByteArray}(h:aM w ad n c L)(hb:∀ a,ad=some a→w'.heap[a.block]? = w.heap[a.block]?):aM w' ad n c L:=⟨h.1,h.2.same' hb⟩
theorem aM.lt{w:World}{ad:Option Addr}{n c:Nat}{L:List ByteArray}(h:aM w ad n c L)(a:Addr)(ha:ad=some a)(h0:0 < n):a.block < w.heap.size:=by
 obtain⟨_,ad',cap,h1,_,_,_,_,h6⟩:=h;obtain⟨b,o,e,hr⟩:=h6 h0;simp only[Value.slice.injEq] at h1;rw[h1.1,e] at ha;cases ha;exact ac hr
theorem aM.kb{X:Nat→Prop}{w w':World}{ad:Option Addr}{n c:Nat}{L:List ByteArray}(h:aM w ad n c L)(hk:Kb X w w')(hx:∀ a,ad=some a→¬ X a.block):aM w' ad n c L:=by
 by_cases h0:0 < n
 ·exact h.same (fun a ha=>hk.block _ (h.lt a ha h0) (hx a ha))
 ·obtain rfl:n=0:=om;obtain⟨h1,ad',cap,h2,h3,h4,h5,h6,h7⟩:=h;exact⟨h1,ad',cap,h2,h3,h4,h5,h6,fun h=>absurd h om⟩
def SO(l:List UInt8):RW:=Vector.ofFn fun i=>l.getD i.val 0
theorem Ow(l:List UInt8)(h:l.length=16):bv l=fw B8 (SO l):=by
 apply BE
 apply List.ext_getElem
 ·simp[h]
 ·intro i h1 h2;simp[SO,h1]
def io(l:List UInt8):Option (List UInt8 × List (List UInt8) × Nat × Nat × RW) :=
 if bS 1 (some l)=1 then
  match fh (aI 1 (some l)) with
  | none=>none
  | some (r,ps,s)=>if aI 16 (aI 8 (aI 8 s))=some []∧bS 8 s≤bS 8 (aI 8 s)∧bS 8 (aI 8 s)≤1099511627776 then some (r,ps,bS 8 s,bS 8 (aI 8 s),SO (tO 16 (aI 8 (aI 8 s)))) else none
 else none
def Qn(o:Option (List UInt8 × List (List UInt8) × Nat × Nat × RW))(base:Nat)(e:Ending)(w':World):Prop :=
 match o with
 | none=>e = .returned (.tuple #[.agg (tv ⟨#[]⟩ none 0 0 0 0 cM),.bool false])
 | some (r,ps,st,en,k)=>∃ ad c,e = .returned (.tuple #[.agg (tv (aY r) ad ps.length c (st:Nat) (en:Nat) k),.bool true])∧aM w' ad ps.length c (ps.map aY)∧∀ a,ad=some a→base≤a.block
theorem Ar(a:Addr)(n c:Nat)(l:List UInt8)(w:World)(h:Bs w (some a) n c l)(hn:n≤1000000):
  Calls prog 130 #[.slice (some a) n c] w fun e w'=>Qn (io l) w.heap.size e w'∧Below w.heap.size w w':=by
 have H:=SM h;clear h;obtain⟨R,hR⟩:=eY (io l);rw[hR];have HR:=SM hR;clear hR
 go_in
 go_wp2_with fail
 have hRB:=gS.made w ⟨#[]⟩ none 0 0 0 0 cM;have hb0:=ba (.cells (tv ⟨#[]⟩ none 0 0 0 0 cM) 97) (Sy w);have hs0:(w.alloc (.cells (tv ⟨#[]⟩ none 0 0 0 0 cM) 97)).heap.size=w.heap.size+1:=sm;generalize w.alloc (.cells (tv ⟨#[]⟩ none 0 0 0 0 cM) 97)=w1 at *;refine (DI a n c l w1 (H.o.below hb0) hn).mono ?_;rintro _ w2 ⟨⟨B,rfl,hr⟩,hb2⟩;generalize hlo:w1.heap.size=lo at *;generalize hhi:w2.heap.size=hi at *
 have hi2:hi≤w2.heap.size:=om;have HRB:=SM (hRB.below (by rw[hlo];exact hb2))
 have Hb:=SM (bt hb0 (by rw[hlo];exact hb2))
 have Hr:=SM hr;have hwlo:w.heap.size < lo:=om;have hBlo:lo≤B:=hr.b.1;clear hRB hb0 hr hb2 hs0 hlo hhi
 go_wp2_with fail
 refine (dB B lo hi (some l) 1 w2 Hr.o om om).mono ?_;rintro _ w3 ⟨rfl,hr3,hk3⟩;have kbw:∀ (A u:World),Below w.heap.size w A→Kb (fun b=>b=B) A u→Below w.heap.size w u:=fun A u hA hk=>hA.trans (hk.below (fun b hb=>by subst hb;omega) hA.size)
 have HRB3:=SM (HRB.o.same (hk3.block _ HRB.o.lt om));have Hb3:=SM (kbw _ _ Hb.o hk3);have Hr3:=SM hr3;have Kbw:=SM kbw;have hs3:=hk3.size;clear kbw hr3 hk3 HRB Hb Hr
 by_cases h1:bS 1 (some l)=1
 ·rw[h1];have H1:=SM h1;clear h1
  go_wp2_with fail
  refine (sK B lo hi (aI 1 (some l)) w3 Hr3.o).mono ?_;intro e4 w4 hx;obtain⟨hno,hk4⟩:=hx;have HRB4:=SM (HRB3.o.same (hk4.block _ HRB3.o.lt om));have Hb4:=SM (Kbw.o _ _ Hb3.o hk4);have hs4:=hk4.size;clear hk4 HRB3 Hb3 Hr3;cases hn4:fh (aI 1 (some l)) with
  | none =>
   rw[hn4] at hno;have he:e4 = .returned (.tuple #[.agg #[.string ⟨#[]⟩,.slice none 0 0],.bool false]):=hno;subst he;have hRn:R=none:=by rw[← HR.o];unfold io;rw[if_pos H1.o,hn4]
   subst hRn;clear hno hn4;have hb5:=ba (.cells #[.string ⟨#[]⟩,.slice none 0 0] 95) (Sy w4);have HRB5:=SM (HRB4.o.below hb5);have Hb5:=SM (bt Hb4.o hb5);have q:=HRB5.o.k;clear hb5 HRB4 Hb4
   go_wp2
   refine bodyPost_ret (aD _ _ ⟨w.heap.size,0,none⟩ (.agg (tv ⟨#[]⟩ none 0 0 0 0 cM)) (.bool false) rfl rfl rfl (dS (HRB5.o.all ⟨#[]⟩ none 0 0 0 0 cM))) rfl ⟨rfl,aa Hb5.o (Nat.le_refl _) _ _⟩
  | some x =>
   obtain⟨r,ps,s⟩:=x;rw[hn4] at hno;obtain⟨⟨ad,c',rfl,hS,hadr⟩,hr4⟩ : (∃ ad c,e4 = .returned (.tuple #[.agg #[.string (aY r),.slice ad ps.length c],.bool true])∧aM w4 ad ps.length c (ps.map aY)∧∀ a,ad=some a→w3.heap.size≤a.block∧a.block < w4.heap.size)∧Rd w4 B lo hi s:=hno;have Had:=SM hadr;clear hadr;have hNB:=P2.made w4 95 (.string (aY r)) (.slice ad ps.length c');have hb5:=ba (.cells #[.string (aY r),.slice ad ps.length c'] 95) (Sy w4)
   have hs5:(w4.alloc (.cells #[.string (aY r),.slice ad ps.length c'] 95)).heap.size=w4.heap.size+1:=sm
   go_upto_region 8 with fail
   generalize w4.alloc (.cells #[.string (aY r),.slice ad ps.length c'] 95)=w5 at *;have HNB:=SM hNB;have HS:=SM (hS.below hb5);have HRB5:=SM (HRB4.o.below hb5);have Hr5:=SM (hr4.below hb5);have Hb5:=SM (bt Hb4.o hb5);have hNB1:hi≤w4.heap.size:=om;have hNB2:w.heap.size < w4.heap.size:=by have:=Hr5.o.b;omega
   clear hNB hS hr4 hb5 HRB4 Hb4;generalize w4.heap.size=NB at *
   go_wp2_with fail
   refine (dB B lo hi s 8 w5 Hr5.o om om).mono ?_;rintro _ w6 ⟨rfl,hr6,hk6⟩;have HNB6:=SM (HNB.o.same (hk6.block _ HNB.o.lt (by have:=Hr5.o.b;omega)))
   have HRB6:=SM (HRB5.o.same (hk6.block _ HRB5.o.lt om));have Hb6:=SM (Kbw.o _ _ Hb5.o hk6);have HK6:=SM hk6;have Hr6:=SM hr6;clear hk6 hr6
   go_wp2_with fail
   refine (dB B lo hi (aI 8 s) 8 w6 Hr6.o om om).mono ?_;rintro _ w7 ⟨rfl,hr7,hk7⟩;have HNB7:=SM (HNB6.o.same (hk7.block _ HNB6.o.lt (by have:=Hr6.o.b;omega)))
   have HRB7:=SM (HRB6.o.same (hk7.block _ HRB6.o.lt om));have Hb7:=SM (Kbw.o _ _ Hb6.o hk7);have Hr7:=SM hr7;have HK7:=SM (HK6.o.trans hk7 (fun i hi=>.inl hi));clear hk7 hr7 HNB6 HRB6 Hb6 Hr6 HK6
   go_wp2_with fail
   refine (Lx B lo hi (aI 8 (aI 8 s)) 16 w7 Hr7.o om).mono ?_;rintro _ w8 ⟨⟨ka,kc,rfl,hkb⟩,hr8,hk8⟩;have HNB8:=SM (HNB7.o.same (hk8.block _ HNB7.o.lt (by have:=Hr7.o.b;omega)))
   have HRB8:=SM (HRB7.o.same (hk8.block _ HRB7.o.lt om));have Hb8:=SM (Kbw.o _ _ Hb7.o hk8);have Hr8:=SM hr8;have HKB:=SM hkb;have HK8:=SM (HK7.o.trans hk8 (fun i hi=>.inl hi));clear hk8 hr8 HNB7 HRB7 Hb7 Hr7 hkb HK7
   go_wp2_with fail
   refine (vA B lo hi (aI 16 (aI 8 (aI 8 s))) w8 Hr8.o).mono ?_;rintro _ w9 ⟨rfl,rfl⟩;have hRf : ¬ (aI 16 (aI 8 (aI 8 s))=some []∧bS 8 s≤bS 8 (aI 8 s)∧bS 8 (aI 8 s)≤1099511627776)→R=none:=fun hc=>by
    rw[← HR.o];unfold io;rw[if_pos H1.o,hn4];simp only;rw[if_neg hc]
   have hRt:(aI 16 (aI 8 (aI 8 s))=some []∧bS 8 s≤bS 8 (aI 8 s)∧bS 8 (aI 8 s)≤1099511627776)→R=some (r,ps,bS 8 s,bS 8 (aI 8 s),SO (tO 16 (aI 8 (aI 8 s)))):=fun hc=>by
    rw[← HR.o];unfold io;rw[if_pos H1.o,hn4];simp only;rw[if_pos hc]
   have hTl:aI 16 (aI 8 (aI 8 s))=some []→(tO 16 (aI 8 (aI 8 s))).length=16:=fun hd=>by
    revert hd
    cases hq:aI 8 (aI 8 s) with
    | none=>intro h;cases h
    | some l =>
     intro hd;simp only[aI] at hd
     split at hd
     ·rename_i hle
      simp[tO,hle]
     ·cases hd
   have HRf:=SM hRf;have HRt:=SM hRt;have HTl:=SM hTl;clear hRf hRt hTl hn4;generalize tO 16 (aI 8 (aI 8 s))=kl at *;generalize aI 16 (aI 8 (aI 8 s))=s5 at *;have i1:=mY 8 s om;have i2:=mY 8 (aI 8 s) om;generalize bS 8 (aI 8 s)=en at *;generalize bS 8 s=st at *
   by_cases hd:s5=some []
   case neg =>
    have hRn:R=none:=HRf.o (fun h=>hd h.1);rw[show decide (s5=some [])=false from decide_eq_false hd]
    clear hd;subst hRn;have q:=HRB8.o.k
    go_wp2
    refine bodyPost_ret (aD _ _ ⟨w.heap.size,0,none⟩ (.agg (tv ⟨#[]⟩ none 0 0 0 0 cM)) (.bool false) rfl rfl rfl (dS (HRB8.o.all ⟨#[]⟩ none 0 0 0 0 cM))) rfl ⟨rfl,aa Hb8.o (Nat.le_refl _) _ _⟩
   rw[show decide (s5=some [])=true from decide_eq_true hd]
   by_cases hse:en < st
   ·have hRn:R=none:=HRf.o (fun h=>om);have d1:decide ((en:Int) < (st:Int))=true:=dt;clear hd;subst hRn;have q:=HRB8.o.k
    go_wp2
    refine bodyPost_ret (aD _ _ ⟨w.heap.size,0,none⟩ (.agg (tv ⟨#[]⟩ none 0 0 0 0 cM)) (.bool false) rfl rfl rfl (dS (HRB8.o.all ⟨#[]⟩ none 0 0 0 0 cM))) rfl ⟨rfl,aa Hb8.o (Nat.le_refl _) _ _⟩
   have d1:decide ((en:Int) < (st:Int))=false:=df
   by_cases hmx:1099511627776 < en
   ·have hRn:R=none:=HRf.o (fun h=>om);have d2:decide ((1099511627776:Int) < (en:Int))=true:=dt;clear hd;subst hRn;have q:=HRB8.o.k
    go_wp2
    refine bodyPost_ret (aD _ _ ⟨w.heap.size,0,none⟩ (.agg (tv ⟨#[]⟩ none 0 0 0 0 cM)) (.bool false) rfl rfl rfl (dS (HRB8.o.all ⟨#[]⟩ none 0 0 0 0 cM))) rfl ⟨rfl,aa Hb8.o (Nat.le_refl _) _ _⟩
   have d2:decide ((1099511627776:Int) < (en:Int))=false:=df;have hRn:=HRt.o ⟨hd,om,om⟩;have hkl:=HTl.o hd;subst hRn;rw[hkl] at HKB ⊢;have Hkl:=SM hkl;clear hd hkl;have c0:=HNB8.o.c0;have c1:=HNB8.o.c1;have w1:IntKind.i64.wrap (st:Int)=st:=wi;have w2:IntKind.i64.wrap (en:Int)=en:=wi
   go_upto_region 13 with fail
   obtain⟨g,o,rfl,hgr⟩:=HKB.o.2.2.2.2 om;rw[Ow kl Hkl.o] at hgr;have hT:=gS.made w8 (aY r) ad ps.length c' (st:Nat) (en:Nat) cM;have hb9:=ba (.cells (tv (aY r) ad ps.length c' (st:Nat) (en:Nat) cM) 97) (Sy w8);have hgr9:=(ak hb9 (ac hgr) o 16).trans hgr;have HT:=SM hT;have HRB9:=SM (HRB8.o.below hb9);have HS10:=SM ((HS.o.kb HK8.o (fun a ha e=>by have h1:=Had.o a ha;have h2:=Hr5.o.b;omega)).below (aa hb9 (Nat.le_refl w8.heap.size) 4 (fw B8 (SO kl))))
   have Hb9:=SM (bt Hb8.o hb9);have hTB:w.heap.size < w8.heap.size:=HRB8.o.lt;clear hT hb9 c0 c1 w1 w2;generalize w8.alloc (.cells (tv (aY r) ad ps.length c' (st:Nat) (en:Nat) cM) 97)=w9 at *;generalize w8.heap.size=TB at *;have hcp:=dP w9 3 TB 4 16 16 g o 16 kc 16 rfl (fw B8 (SO kl)) (aC HT.o.k 4 16 om) hgr9 (ep _ _ ff)
   go_upto_region 14 with fail
   have HT2:=SM (HT.o.key (SO kl));have HRB10:=SM (HRB9.o.apart TB 4 (fw B8 (SO kl)) om);have Hb10:=SM (aa Hb9.o (b:=TB) om 4 (fw B8 (SO kl)));clear HT HRB9 Hb9 hcp hgr9 hgr;generalize setAt w9 TB 4 (fw B8 (SO kl))=w10 at *;have q1:=HT2.o.r;have q2:=HRB10.o.k
   go_wp2
   refine bodyPost_ret (aD _ _ ⟨w.heap.size,0,none⟩ (.agg (tv (aY r) ad ps.length c' (st:Nat) (en:Nat) (SO kl))) (.bool true) rfl rfl rfl (dS (HRB10.o.all _ _ _ _ _ _ _))) rfl ⟨?_,aa Hb10.o (Nat.le_refl _) _ _⟩;exact⟨ad,c',rfl,HS10.o.kb (X:=fun b=>b=w.heap.size) ((Kb.refl (fun b=>b=w.heap.size) w10).at1 _ _ _ rfl) (fun a ha e=>by have h1:=Had.o a ha;have h2:=Hr5.o.b;omega),fun a ha=>by have h1:=Had.o a ha;have h2:=Hr5.o.b;omega⟩
 ·have hRn:R=none:=by rw[← HR.o];unfold io;rw[if_neg h1]
  have hne:((bS 1 (some l):Nat):Int)≠1:=om;subst hRn;have q:=HRB3.o.k;generalize bS 1 (some l)=x at *;have d1:(((x:Nat):Int) != 1)=true:=bne_iff_ne.2 hne;clear h1 hne
  go_wp2
  refine bodyPost_ret (aD _ _ ⟨w.heap.size,0,none⟩ (.agg (tv ⟨#[]⟩ none 0 0 0 0 cM)) (.bool false) rfl rfl rfl (dS (HRB3.o.all ⟨#[]⟩ none 0 0 0 0 cM))) rfl ⟨rfl,aa Hb3.o (Nat.le_refl _) _ _⟩
end
section
abbrev t6:=List UInt8 × List (List UInt8) × Nat × Nat × RW
def nJ(key:RW)(l:List UInt8):Except Nat t6 :=
 match kO key 2 l with
 | none=>.error 2
 | some b=>match io b with
  | none=>.error 1
  | some t=>.ok t
def Fh(o:Except Nat t6)(base:Nat)(e:Ending)(w':World):Prop :=
 match o with
 | .error c=>e = .returned (.tuple #[.agg (tv ⟨#[]⟩ none 0 0 0 0 cM),.int .i64 c])
 | .ok (r,ps,st,en,k)=>∃ ad c,e = .returned (.tuple #[.agg (tv (aY r) ad ps.length c (st:Nat) (en:Nat) k),.int .i64 0])∧aM w' ad ps.length c (ps.map aY)∧∀ a,ad=some a→base≤a.block
theorem EC(key:RW)(ad:Option Addr)(n c:Nat)(l:List UInt8)(w:World)(hg:GK w)(h:Bs w ad n c l)(hm:n≤1000000):
  Calls prog 89 #[.agg (fw B8 key),.slice ad n c] w fun e w'=>Fh (nJ key l) w.heap.size e w'∧Below w.heap.size w w':=by
 have H:=SM h;have HG:=SM hg;clear h hg;obtain⟨R,hR⟩:=eY (nJ key l);rw[hR];have HR:=SM hR;clear hR
 go_in
 go_wp2_with fail
 have hRB:=gS.made (w.alloc (.cells (fw B8 key) 22)) ⟨#[]⟩ none 0 0 0 0 cM;rw[show (w.alloc (.cells (fw B8 key) 22)).heap.size=w.heap.size+1 by simp] at hRB
 have hb0:=ba (.cells (tv ⟨#[]⟩ none 0 0 0 0 cM) 97) (ba (.cells (fw B8 key) 22) (Sy w));have hs0:((w.alloc (.cells (fw B8 key) 22)).alloc (.cells (tv ⟨#[]⟩ none 0 0 0 0 cM) 97)).heap.size=w.heap.size+2:=sm;generalize (w.alloc (.cells (fw B8 key) 22)).alloc (.cells (tv ⟨#[]⟩ none 0 0 0 0 cM) 97)=w1 at *;refine (tI key 2 2 rfl ad n c l w1 (HG.o.below HG.o.1 hb0) (H.o.below hb0) hm).mono ?_;rintro e w2 ⟨hso,hb2⟩
 have HRB:=SM (hRB.below hb2);have Hb:=SM (bt hb0 hb2);have hs2:=hb2.size;clear hRB hb0 hb2;cases ho:kO key 2 l with
 | none =>
  rw[ho] at hso;have he:e = .returned (.tuple #[.slice none 0 0,.bool false]):=hso;subst he;have hRn:R = .error 2:=by rw[← HR.o];unfold nJ;rw[ho]
  subst hRn;clear hso ho;have q:=HRB.o.k
  go_wp2
  refine bodyPost_ret (aD _ _ ⟨w.heap.size+1,0,none⟩ (.agg (tv ⟨#[]⟩ none 0 0 0 0 cM)) (.int .i64 2) rfl rfl rfl (dS (HRB.o.all ⟨#[]⟩ none 0 0 0 0 cM))) rfl ⟨rfl,aa Hb.o om _ _⟩
 | some b =>
  rw[ho] at hso;have hob:b.length≤1000000:=by
   have:=H.o.1;unfold kO at ho
   split at ho
   ·cases ho
   ·split at ho
    ·simp only[Option.some.injEq] at ho;rw[← ho,dx,List.length_drop,List.length_take];omega
    ·cases ho
  obtain⟨g,rfl,hg,hB⟩ : ∃ g,e = .returned (.tuple #[.slice (some ⟨g,0,none⟩) b.length b.length,.bool true])∧w1.heap.size≤g∧Bs w2 (some ⟨g,0,none⟩) b.length b.length b:=hso;have HB:=SM hB;have Ho:=SM ho;have Hob:=SM hob;clear hB ho hob;obtain⟨m,hm2⟩:=eY b.length;rw[hm2] at HB Hob;rw[hm2];clear hm2
  go_wp2_with fail
  refine (Ar ⟨g,0,none⟩ m m b w2 HB.o Hob.o).mono ?_;rintro e3 w3 ⟨hpo,hb3⟩;have HRB3:=SM (HRB.o.below hb3);have Hb3:=SM (bt Hb.o hb3);have hs3:=hb3.size;clear hb3 HRB HB;cases hp:io b with
  | none =>
   rw[hp] at hpo;have he:e3 = .returned (.tuple #[.agg (tv ⟨#[]⟩ none 0 0 0 0 cM),.bool false]):=hpo;subst he;have hRn:R = .error 1:=by rw[← HR.o];unfold nJ;rw[Ho.o];simp only;rw[hp]
   subst hRn;clear hpo hp;have hb4:=ba (.cells (tv ⟨#[]⟩ none 0 0 0 0 cM) 97) (Sy w3);have HRB4:=SM (HRB3.o.below hb4);have Hb4:=SM (bt Hb3.o hb4);have q:=HRB4.o.k;clear HRB3 Hb3 hb4
   go_wp2
   refine bodyPost_ret (aD _ _ ⟨w.heap.size+1,0,none⟩ (.agg (tv ⟨#[]⟩ none 0 0 0 0 cM)) (.int .i64 1) rfl rfl rfl (dS (HRB4.o.all ⟨#[]⟩ none 0 0 0 0 cM))) rfl ⟨rfl,aa Hb4.o om _ _⟩
  | some t =>
   obtain⟨r,ps,st,en,k⟩:=t;rw[hp] at hpo;obtain⟨ad2,c2,rfl,hS,hadr⟩ : ∃ ad c,e3 = .returned (.tuple #[.agg (tv (aY r) ad ps.length c (st:Nat) (en:Nat) k),.bool true])∧aM w3 ad ps.length c (ps.map aY)∧∀ a,ad=some a→w2.heap.size≤a.block:=hpo;have hRn:R = .ok (r,ps,st,en,k):=by rw[← HR.o];unfold nJ;rw[Ho.o];simp only;rw[hp]
   subst hRn;clear hp;have hb4:=ba (.cells (tv (aY r) ad2 ps.length c2 (st:Nat) (en:Nat) k) 97) (Sy w3);have hT:=gS.made w3 (aY r) ad2 ps.length c2 (st:Nat) (en:Nat) k;have HT:=SM hT;have HRB4:=SM (HRB3.o.below hb4);have Hb4:=SM (bt Hb3.o hb4);have HS:=SM (hS.below hb4);have Had:=SM hadr;have q:=HRB4.o.k;have q2:=HT.o.r;clear HRB3 Hb3 hb4 hT hS hadr
   go_wp2
   refine bodyPost_ret (aD _ _ ⟨w.heap.size+1,0,none⟩ (.agg (tv (aY r) ad2 ps.length c2 (st:Nat) (en:Nat) k)) (.int .i64 0) rfl rfl rfl (dS (HRB4.o.all _ _ _ _ _ _ _))) rfl ⟨?_,aa Hb4.o om _ _⟩;exact⟨ad2,c2,rfl,HS.o.kb (X:=fun b=>b=w.heap.size+1) ((Kb.refl (fun b=>b=w.heap.size+1) _).at1 _ _ _ rfl) (fun a ha e=>by have:=Had.o a ha;omega),fun a ha=>by have:=Had.o a ha;omega⟩
end
section
theorem qy:(prog.info? 99).map (·.size)=some 5:=kr
theorem JZ:prog.underlying 99=some (.struct (prog.fieldsOf 99)):=kr
theorem MS:(prog.info? 99).bind (·.zero)=some (.agg #[.string ⟨#[]⟩,.slice none 0 0,.int .i64 0,.int .u32 0,.int .u32 0]):=kr
def AR(v:Value):Sem Value:=Instr.loadAt 99 v
def uy(v x:Value):Sem Unit:=Instr.storeAt 99 v x
def ua:Sem Value:=Instr.alloc 99 true (.tuple #[])
@[go_sem ↓] theorem ON(v:Value):Instr.loadAt 99 v=AR v:=rfl
@[go_sem ↓] theorem NH(v x:Value):Instr.storeAt 99 v x=uy v x:=rfl
@[go_sem ↓] theorem PH:Instr.alloc 99 true (.tuple #[])=ua:=rfl
def St(r:ByteArray)(ad:Option Addr)(n c:Nat)(t m q:Int):Array Value:=#[.string r,.slice ad n c,.int .i64 t,.int .u32 m,.int .u32 q]
section
variable (w:World) (b o:Nat) (r:ByteArray) (ad:Option Addr) (n c:Nat) (t m q:Int)
@[go_sem ↓] theorem Nn(h:(readAt w b o 5).isSome=true):(AR (.pointer (some ⟨b,o,none⟩))).run prog w = .ok (.agg ((readAt w b o 5).getD #[])) w:=by
 obtain⟨cs,hc⟩:=Option.isSome_iff_exists.1 h;unfold AR;rw[aJ w b o 5 99 _ cs hc JZ rfl qy,hc];rfl
@[go_sem ↓] theorem LY(h:canAt w b o 5=true):(uy (.pointer (some ⟨b,o,none⟩)) (.agg #[.string r,.slice ad n c,.int .i64 t,.int .u32 m,.int .u32 q])).run prog w = .ok () (setAt w b o (St r ad n c t m q)) :=
 aH w b o 5 99 (St r ad n c t m q) h rfl qy (by simp[St,Value.oneCell'])
@[go_sem ↓] theorem JL(h:canAt w b o 5=true):(uy (.pointer (some ⟨b,o,none⟩)) (.agg (St r ad n c t m q))).run prog w = .ok () (setAt w b o (St r ad n c t m q)) :=
 aH w b o 5 99 (St r ad n c t m q) h rfl qy (by simp[St,Value.oneCell'])
@[go_sem] theorem LC:ua.run prog w = .ok (.pointer (some ⟨w.heap.size,0,none⟩)) (w.alloc (.cells (St ⟨#[]⟩ none 0 0 0 0 0) 99)):=by
 obtain⟨i,hi,hz⟩:=Option.bind_eq_some_iff.1 MS;unfold ua;simp[Instr.alloc,zeroValue,typeInfo,hi,hz,newVar,newRow,Value.cells,St]
end
structure gy (w:World) (b:Nat) (r:ByteArray) (ad:Option Addr) (n c:Nat) (t m q:Int):Prop where
 r:readAt w b 0 5=some (St r ad n c t m q)
 k:canAt w b 0 5=true
section
variable {w w':World} {b:Nat} {r r':ByteArray} {ad ad':Option Addr} {n c n' c':Nat} {t m q t' m' q':Int}
@[simp,go_sem] theorem Qc:(St r ad n c t m q).size=5:=by simp[St]
theorem gy.lt(h:gy w b r ad n c t m q):b < w.heap.size:=ac h.r
theorem gy.same(h:gy w b r ad n c t m q)(hb:w'.heap[b]? = w.heap[b]?):gy w' b r ad n c t m q:=⟨by rw[← h.r];simp[readAt,hb],by rw[← h.k];simp[canAt,hb]⟩
theorem gy.below(h:gy w b r ad n c t m q)(hb:Below w.heap.size w w'):gy w' b r ad n c t m q:=h.same (hb.block b h.lt)
theorem gy.drew(h:gy w b r ad n c t m q):gy w.drew b r ad n c t m q:=h.same rfl
theorem gy.all(h:gy w b r ad n c t m q)(r':ByteArray)(ad':Option Addr)(n' c':Nat)(t' m' q':Int):gy (setAt w b 0 (St r' ad' n' c' t' m' q')) b r' ad' n' c' t' m' q' :=
 ⟨by rw[am _ _ _ _ _ sm (by simpa using h.k)],by rw[ap _ _ _ _ _ _ _ (by simpa using h.k)];exact h.k⟩
theorem gy.apart(h:gy w b r ad n c t m q)(b' o:Nat)(cs:Array Value)(hb:b'≠b):gy (setAt w b' o cs) b r ad n c t m q:=h.same (aw w b' o cs b (Ne.symm hb))
theorem gy.other(h:gy w b r ad n c t m q)(p:Addr)(v:Value)(hp:p.block≠b):gy (w.setCell p v) b r ad n c t m q:=h.same (Below.heap_setCell _ _ _ _ (fun e=>hp e.symm))
theorem gy.made(w:World)(r:ByteArray)(ad:Option Addr)(n c:Nat)(t m q:Int):gy (w.alloc (.cells (St r ad n c t m q) 99)) w.heap.size r ad n c t m q :=
 ⟨by rw[aj _ _ _ _ _ _ _ rfl sm];simp[St],by rw[aq _ _ _ _ _ _ rfl sm]⟩
theorem dR(h:gy w b r ad n c t m q):(loadVar 99 ⟨b,0,none⟩).run prog w = .ok (.agg (St r ad n c t m q)) w:=az w b 0 5 99 _ _ h.r JZ rfl qy
end
structure Bk (w:World) (b:Nat) (cs:Array Value):Prop where
 r:readAt w b 0 cs.size=some cs
 k:canAt w b 0 cs.size=true
section
variable {w w':World} {b:Nat} {cs:Array Value}
theorem Bk.lt(h:Bk w b cs):b < w.heap.size:=ac h.r
theorem Bk.same(h:Bk w b cs)(hb:w'.heap[b]? = w.heap[b]?):Bk w' b cs:=⟨by rw[← h.r];simp[readAt,hb],by rw[← h.k];simp[canAt,hb]⟩
theorem Bk.below(h:Bk w b cs)(hb:Below w.heap.size w w'):Bk w' b cs:=h.same (hb.block b h.lt)
theorem Bk.drew(h:Bk w b cs):Bk w.drew b cs:=h.same rfl
theorem Bk.free(h:Bk w b cs)(i:Nat):w.frozen? ⟨b,i,none⟩=false:=by have:=bq h.k i;rwa [Nat.zero_add] at this
theorem Bk.cell(h:Bk w b cs)(i:Nat)(v:Value)(hv:cs[i]? = some v):w.cell? ⟨b,i,none⟩=some v:=by have:=ab h.r i v hv;rwa [Nat.zero_add] at this
theorem Bk.other(h:Bk w b cs)(p:Addr)(v:Value)(hp:p.block≠b):Bk (w.setCell p v) b cs:=h.same (Below.heap_setCell _ _ _ _ (fun e=>hp e.symm))
theorem Dy(cs:Array Value)(i:Nat)(v:Value)(h:i < cs.size):bK cs i #[v]=cs.setIfInBounds i v:=by
 apply Array.ext_getElem?
 intro j;rw[bU _ _ _ sO,Array.getElem?_setIfInBounds];simp only[List.size_toArray,List.length_cons,List.length_nil]
 by_cases e:i=j
 ·subst e;rw[if_pos om];simp[h]
 ·rw[if_neg om,if_neg e]
theorem Bk.set(h:Bk w b cs)(i:Nat)(hi:i < cs.size)(v:Value):Bk (w.setCell ⟨b,i,none⟩ v) b (cs.setIfInBounds i v):=by
 have hk:=aC h.k i 1 om;rw[aK hk];refine⟨?_,by rw[ap _ _ _ _ _ _ _ hk];simpa using h.k⟩
 rw[Array.size_setIfInBounds,ae w b 0 cs.size _ h.r h.k i _ om sO,Nat.sub_zero,Dy _ _ _ hi]
theorem Bk.all(h:Bk w b cs)(ds:Array Value)(hs:ds.size=cs.size):Bk (setAt w b 0 ds) b ds:=by
 have hk:canAt w b 0 ds.size=true:=by rw[hs];exact h.k
 exact⟨am _ _ _ _ _ rfl hk,by rw[ap _ _ _ _ _ _ _ hk];exact hk⟩
theorem Bk.made(w:World)(t:TypeId)(cs:Array Value):Bk (w.alloc (.cells cs t)) w.heap.size cs :=
 ⟨by rw[aj _ _ _ _ _ _ _ rfl sm];simp,by rw[aq _ _ _ _ _ _ rfl sm]⟩
end
def ij(l:List UInt8):Option (List UInt8 × List (List UInt8) × Nat × Nat × Nat) :=
 if bS 1 (some l)=2 then
  match fh (aI 1 (some l)) with
  | none=>none
  | some (r,ps,s)=>if aI 4 (aI 4 (aI 8 s))=some []∧bS 8 s≤1099511627776∧bS 4 (aI 8 s)≤999999 then some (r,ps,bS 8 s,bS 4 (aI 8 s),bS 4 (aI 4 (aI 8 s))) else none
 else none
def Qj(o:Option (List UInt8 × List (List UInt8) × Nat × Nat × Nat))(base:Nat)(e:Ending)(w':World):Prop :=
 match o with
 | none=>e = .returned (.tuple #[.agg (St ⟨#[]⟩ none 0 0 0 0 0),.bool false])
 | some (r,ps,t,m,q)=>∃ ad c,e = .returned (.tuple #[.agg (St (aY r) ad ps.length c (t:Nat) (m:Nat) (q:Nat)),.bool true])∧aM w' ad ps.length c (ps.map aY)∧∀ a,ad=some a→base≤a.block
theorem qI(s:RS):bS 4 s < 4294967296:=by
 unfold bS;cases s with
 | none=>simp
 | some l =>
  simp only
  split
  ·have h1:=nb_lt (l.take 4);have h2:(256:Nat) ^ (l.take 4).length≤256 ^ 4:=Nat.pow_le_pow_right om (by rw[List.length_take];omega)
   have h3:(256:Nat) ^ 4=4294967296:=dc;omega
  ·omega
theorem tE(w:World):Calls prog 144 #[] w fun e w'=>e = .returned (.agg #[.int .i64 8,.int .i64 4,.int .i64 4])∧Below w.heap.size w w':=by
 go_in
 go_wp2_with fail
 exact bodyPost_ret (v:=.agg #[.int .i64 8,.int .i64 4,.int .i64 4]) (by simp[results,Tryz.f144,go_sem]) rfl ⟨rfl,ba _ (Below.refl _ _)⟩
theorem yr(a:Addr)(n c:Nat)(l:List UInt8)(w:World)(h:Bs w (some a) n c l)(hn:n≤1000000):
  Calls prog 131 #[.slice (some a) n c] w fun e w'=>Qj (ij l) w.heap.size e w'∧Below w.heap.size w w':=by
 have H:=SM h;clear h;obtain⟨R,hR⟩:=eY (ij l);rw[hR];have HR:=SM hR;clear hR
 go_in
 go_wp2_with fail
 have hRB:=gy.made w ⟨#[]⟩ none 0 0 0 0 0;have hb0:=ba (.cells (St ⟨#[]⟩ none 0 0 0 0 0) 99) (Sy w);have hs0:(w.alloc (.cells (St ⟨#[]⟩ none 0 0 0 0 0) 99)).heap.size=w.heap.size+1:=sm;generalize w.alloc (.cells (St ⟨#[]⟩ none 0 0 0 0 0) 99)=w1 at *;refine (DI a n c l w1 (H.o.below hb0) hn).mono ?_;rintro _ w2 ⟨⟨B,rfl,hr⟩,hb2⟩;generalize hlo:w1.heap.size=lo at *;generalize hhi:w2.heap.size=hi at *
 have hi2:hi≤w2.heap.size:=om;have HRB:=SM (hRB.below (by rw[hlo];exact hb2))
 have Hb:=SM (bt hb0 (by rw[hlo];exact hb2))
 have Hr:=SM hr;have hwlo:w.heap.size < lo:=om;have hBlo:lo≤B:=hr.b.1;clear hRB hb0 hr hb2 hs0 hlo hhi
 go_wp2_with fail
 refine (dB B lo hi (some l) 1 w2 Hr.o om om).mono ?_;rintro _ w3 ⟨rfl,hr3,hk3⟩;have kbw:∀ (A u:World),Below w.heap.size w A→Kb (fun b=>b=B) A u→Below w.heap.size w u:=fun A u hA hk=>hA.trans (hk.below (fun b hb=>by subst hb;omega) hA.size)
 have HRB3:=SM (HRB.o.same (hk3.block _ HRB.o.lt om));have Hb3:=SM (kbw _ _ Hb.o hk3);have Hr3:=SM hr3;have Kbw:=SM kbw;have hs3:=hk3.size;clear kbw hr3 hk3 HRB Hb Hr
 by_cases h1:bS 1 (some l)=2
 ·rw[h1];have H1:=SM h1;clear h1
  go_wp2_with fail
  refine (sK B lo hi (aI 1 (some l)) w3 Hr3.o).mono ?_;intro e4 w4 hx;obtain⟨hno,hk4⟩:=hx;have HRB4:=SM (HRB3.o.same (hk4.block _ HRB3.o.lt om));have Hb4:=SM (Kbw.o _ _ Hb3.o hk4);have hs4:=hk4.size;clear hk4 HRB3 Hb3 Hr3;cases hn4:fh (aI 1 (some l)) with
  | none =>
   rw[hn4] at hno;have he:e4 = .returned (.tuple #[.agg #[.string ⟨#[]⟩,.slice none 0 0],.bool false]):=hno;subst he;have hRn:R=none:=by rw[← HR.o];unfold ij;rw[if_pos H1.o,hn4]
   subst hRn;clear hno hn4;have hb5:=ba (.cells #[.string ⟨#[]⟩,.slice none 0 0] 95) (Sy w4);have HRB5:=SM (HRB4.o.below hb5);have Hb5:=SM (bt Hb4.o hb5);have q:=HRB5.o.k;clear hb5 HRB4 Hb4
   go_wp2
   refine bodyPost_ret (aD _ _ ⟨w.heap.size,0,none⟩ (.agg (St ⟨#[]⟩ none 0 0 0 0 0)) (.bool false) rfl rfl rfl (dR (HRB5.o.all ⟨#[]⟩ none 0 0 0 0 0))) rfl ⟨rfl,aa Hb5.o (Nat.le_refl _) _ _⟩
  | some x =>
   obtain⟨r,ps,s⟩:=x;rw[hn4] at hno;obtain⟨⟨ad,c',rfl,hS,hadr⟩,hr4⟩ : (∃ ad c,e4 = .returned (.tuple #[.agg #[.string (aY r),.slice ad ps.length c],.bool true])∧aM w4 ad ps.length c (ps.map aY)∧∀ a,ad=some a→w3.heap.size≤a.block∧a.block < w4.heap.size)∧Rd w4 B lo hi s:=hno;have Had:=SM hadr;clear hadr;have hNB:=P2.made w4 95 (.string (aY r)) (.slice ad ps.length c');have hb5:=ba (.cells #[.string (aY r),.slice ad ps.length c'] 95) (Sy w4)
   have hs5:(w4.alloc (.cells #[.string (aY r),.slice ad ps.length c'] 95)).heap.size=w4.heap.size+1:=sm
   go_upto_region 8 with fail
   have HNB5:=SM (hNB.below (ba (.cells #[.int .u64 0,.int .u64 0,.int .u64 0] 245) (Below.refl _ _)));have hF:=Bk.made (w4.alloc (.cells #[.string (aY r),.slice ad ps.length c'] 95)) 245 #[.int .u64 0,.int .u64 0,.int .u64 0];rw[hs5] at hF;have hb6:=ba (.cells #[.int .u64 0,.int .u64 0,.int .u64 0] 245) hb5;generalize (w4.alloc (.cells #[.string (aY r),.slice ad ps.length c'] 95)).alloc (.cells #[.int .u64 0,.int .u64 0,.int .u64 0] 245)=w5 at *
   have HF5:=SM hF;have HS5:=SM (hS.below hb6);have HRB5:=SM (HRB4.o.below hb6);have Hr5:=SM (hr4.below hb6);have Hb5:=SM (bt Hb4.o hb6);have hNB1:hi≤w4.heap.size:=om;have hNB2:w.heap.size < w4.heap.size:=by have:=Hr5.o.b;omega
   clear hNB hF hS hr4 hb5 hb6 HRB4 Hb4 hs5;generalize hFe:w4.heap.size+1=FB at *;have hadr:=Had.o;generalize w4.heap.size=NB at *;have hFB:NB < FB:=om;have hSF:∀ a,ad=some a→a.block≠FB:=fun a ha=>by have:=hadr a ha;omega
   have HSF:=SM hSF;clear hFe hadr hSF
   go_wp2_with fail
   refine (tE w5).mono ?_;rintro _ w6 ⟨rfl,hb6⟩;have HNB6:=SM (HNB5.o.below hb6);have HF6:=SM (HF5.o.below hb6);have HS6:=SM (HS5.o.below hb6);have HRB6:=SM (HRB5.o.below hb6);have Hr6:=SM (Hr5.o.below hb6);have Hb6:=SM (bt Hb5.o hb6);clear hb6 HNB5 HF5 HS5 HRB5 Hr5 Hb5
   go_wp2_with fail
   have x0:∀ w,(Instr.index 246 (.agg #[.int .i64 8,.int .i64 4,.int .i64 4]) (.int .i64 0)).run prog w = .ok (.int .i64 8) w:=fun _=>kr;have x1:∀ w,(Instr.index 246 (.agg #[.int .i64 8,.int .i64 4,.int .i64 4]) (.int .i64 1)).run prog w = .ok (.int .i64 4) w:=fun _=>kr;have x2:∀ w,(Instr.index 246 (.agg #[.int .i64 8,.int .i64 4,.int .i64 4]) (.int .i64 2)).run prog w = .ok (.int .i64 4) w:=fun _=>kr
   refine wp_loop_rounds 4 ?_;rw[rounds_succ]
   go_wp2_with fail
   refine (dB B lo hi s 8 w6 Hr6.o om om).mono ?_;rintro _ w7 ⟨rfl,hr,hk⟩;have HNB7:=SM (HNB6.o.same (hk.block _ HNB6.o.lt (by have:=Hr6.o.b;omega)))
   have HF7:=SM (HF6.o.same (hk.block _ HF6.o.lt (by have:=Hr6.o.b;omega)))
   have HRB7:=SM (HRB6.o.same (hk.block _ HRB6.o.lt om));have Hb7:=SM (Kbw.o _ _ Hb6.o hk);have Hr7:=SM hr;have HS7:=SM (HS6.o.kb hk (fun a ha e=>by have h1:=Had.o a ha;have h2:=Hr6.o.b;omega))
   have f:=HF7.o.free 0;have c:=HF7.o.cell 0 _ rfl;have HF8:=SM (HF7.o.set 0 sm (.int .u64 (bS 8 s:Nat)));have HNB8:=SM (HNB7.o.other ⟨FB,0,none⟩ (.int .u64 (bS 8 s:Nat)) (by show FB≠NB;omega))
   have HRB8:=SM (HRB7.o.other ⟨FB,0,none⟩ (.int .u64 (bS 8 s:Nat)) (by show FB≠_;omega))
   have Hb8:=SM (Hb7.o.setCell (p:=⟨FB,0,none⟩) (by show _≤FB;omega) (.int .u64 (bS 8 s:Nat)))
   have Hr8:=SM (Hr7.o.kb (Kb.mod (X:=fun b=>b=FB) (A:=w7) ⟨FB,0,none⟩ (.int .u64 (bS 8 s:Nat)) rfl) (fun b hb=>.inr om));have HS8:=SM (HS7.o.kb (Kb.mod (X:=fun b=>b=FB) (A:=w7) ⟨FB,0,none⟩ (.int .u64 (bS 8 s:Nat)) rfl) (fun a ha e=>HSF.o a ha e));clear hr hk HNB6 HF6 HRB6 Hb6 Hr6 HS6 HNB7 HF7 HRB7 Hb7 Hr7 HS7
   go_wp2_with fail
   clear f c;generalize w7.setCell ⟨FB,0,none⟩ (.int .u64 (bS 8 s:Nat))=w8 at *;rw[rounds_succ]
   go_wp2_with fail
   refine (dB B lo hi (aI 8 s) 4 w8 Hr8.o om om).mono ?_;rintro _ w9 ⟨rfl,hr,hk⟩;have HNB9:=SM (HNB8.o.same (hk.block _ HNB8.o.lt (by have:=Hr8.o.b;omega)))
   have HF9:=SM (HF8.o.same (hk.block _ HF8.o.lt (by have:=Hr8.o.b;omega)))
   have HRB9:=SM (HRB8.o.same (hk.block _ HRB8.o.lt om));have Hb9:=SM (Kbw.o _ _ Hb8.o hk);have Hr9:=SM hr;have HS9:=SM (HS8.o.kb hk (fun a ha e=>by have h1:=Had.o a ha;have h2:=Hr8.o.b;omega))
   have f:=HF9.o.free 1;have c:=HF9.o.cell 1 _ rfl;have HF10:=SM (HF9.o.set 1 sm (.int .u64 (bS 4 (aI 8 s):Nat)));have HNB10:=SM (HNB9.o.other ⟨FB,1,none⟩ (.int .u64 (bS 4 (aI 8 s):Nat)) (by show FB≠NB;omega))
   have HRB10:=SM (HRB9.o.other ⟨FB,1,none⟩ (.int .u64 (bS 4 (aI 8 s):Nat)) (by show FB≠_;omega))
   have Hb10:=SM (Hb9.o.setCell (p:=⟨FB,1,none⟩) (by show _≤FB;omega) (.int .u64 (bS 4 (aI 8 s):Nat)))
   have Hr10:=SM (Hr9.o.kb (Kb.mod (X:=fun b=>b=FB) (A:=w9) ⟨FB,1,none⟩ (.int .u64 (bS 4 (aI 8 s):Nat)) rfl) (fun b hb=>.inr om));have HS10:=SM (HS9.o.kb (Kb.mod (X:=fun b=>b=FB) (A:=w9) ⟨FB,1,none⟩ (.int .u64 (bS 4 (aI 8 s):Nat)) rfl) (fun a ha e=>HSF.o a ha e));clear hr hk HNB8 HF8 HRB8 Hb8 Hr8 HS8 HNB9 HF9 HRB9 Hb9 Hr9 HS9
   go_wp2_with fail
   clear f c;generalize w9.setCell ⟨FB,1,none⟩ (.int .u64 (bS 4 (aI 8 s):Nat))=w10 at *;rw[rounds_succ]
   go_wp2_with fail
   refine (dB B lo hi (aI 4 (aI 8 s)) 4 w10 Hr10.o om om).mono ?_;rintro _ w11 ⟨rfl,hr,hk⟩;have HNB11:=SM (HNB10.o.same (hk.block _ HNB10.o.lt (by have:=Hr10.o.b;omega)))
   have HF11:=SM (HF10.o.same (hk.block _ HF10.o.lt (by have:=Hr10.o.b;omega)))
   have HRB11:=SM (HRB10.o.same (hk.block _ HRB10.o.lt om));have Hb11:=SM (Kbw.o _ _ Hb10.o hk);have Hr11:=SM hr;have HS11:=SM (HS10.o.kb hk (fun a ha e=>by have h1:=Had.o a ha;have h2:=Hr10.o.b;omega))
   have f:=HF11.o.free 2;have c:=HF11.o.cell 2 _ rfl;have HF12:=SM (HF11.o.set 2 sm (.int .u64 (bS 4 (aI 4 (aI 8 s)):Nat)));have HNB12:=SM (HNB11.o.other ⟨FB,2,none⟩ (.int .u64 (bS 4 (aI 4 (aI 8 s)):Nat)) (by show FB≠NB;omega))
   have HRB12:=SM (HRB11.o.other ⟨FB,2,none⟩ (.int .u64 (bS 4 (aI 4 (aI 8 s)):Nat)) (by show FB≠_;omega))
   have Hb12:=SM (Hb11.o.setCell (p:=⟨FB,2,none⟩) (by show _≤FB;omega) (.int .u64 (bS 4 (aI 4 (aI 8 s)):Nat)))
   have Hr12:=SM (Hr11.o.kb (Kb.mod (X:=fun b=>b=FB) (A:=w11) ⟨FB,2,none⟩ (.int .u64 (bS 4 (aI 4 (aI 8 s)):Nat)) rfl) (fun b hb=>.inr om));have HS12:=SM (HS11.o.kb (Kb.mod (X:=fun b=>b=FB) (A:=w11) ⟨FB,2,none⟩ (.int .u64 (bS 4 (aI 4 (aI 8 s)):Nat)) rfl) (fun a ha e=>HSF.o a ha e));clear hr hk HNB10 HF10 HRB10 Hb10 Hr10 HS10 HNB11 HF11 HRB11 Hb11 Hr11 HS11
   go_wp2_with fail
   clear f c;generalize w11.setCell ⟨FB,2,none⟩ (.int .u64 (bS 4 (aI 4 (aI 8 s)):Nat))=w12 at *;rw[rounds_succ]
   go_wp2_with fail
   refine (vA B lo hi (aI 4 (aI 4 (aI 8 s))) w12 Hr12.o).mono ?_;rintro _ w13 ⟨rfl,rfl⟩;have hRf : ¬ (aI 4 (aI 4 (aI 8 s))=some []∧bS 8 s≤1099511627776∧bS 4 (aI 8 s)≤999999)→R=none:=fun hc=>by
    rw[← HR.o];unfold ij;rw[if_pos H1.o,hn4];simp only;rw[if_neg hc]
   have hRt:(aI 4 (aI 4 (aI 8 s))=some []∧bS 8 s≤1099511627776∧bS 4 (aI 8 s)≤999999)→R=some (r,ps,bS 8 s,bS 4 (aI 8 s),bS 4 (aI 4 (aI 8 s))):=fun hc=>by
    rw[← HR.o];unfold ij;rw[if_pos H1.o,hn4];simp only;rw[if_pos hc]
   have HRf:=SM hRf;have HRt:=SM hRt;have q0:=HF12.o.cell 0 (.int .u64 (bS 8 s:Nat)) rfl;have q1:=HF12.o.cell 1 (.int .u64 (bS 4 (aI 8 s):Nat)) rfl;have q2:=HF12.o.cell 2 (.int .u64 (bS 4 (aI 4 (aI 8 s)):Nat)) rfl;clear hRf hRt hn4 HF12;have i1:=mY 8 s om;have i2:=qI (aI 8 s);have i3:=qI (aI 4 (aI 8 s));generalize aI 4 (aI 4 (aI 8 s))=s5 at *;generalize bS 4 (aI 4 (aI 8 s))=sq at *;generalize bS 4 (aI 8 s)=mi at *
   generalize bS 8 s=tm at *
   by_cases hd:s5=some []
   case neg =>
    have hRn:R=none:=HRf.o (fun h=>hd h.1);rw[show decide (s5=some [])=false from decide_eq_false hd]
    clear hd;subst hRn;have q:=HRB12.o.k
    go_wp2
    refine bodyPost_ret (aD _ _ ⟨w.heap.size,0,none⟩ (.agg (St ⟨#[]⟩ none 0 0 0 0 0)) (.bool false) rfl rfl rfl (dR (HRB12.o.all ⟨#[]⟩ none 0 0 0 0 0))) rfl ⟨rfl,aa Hb12.o (Nat.le_refl _) _ _⟩
   rw[show decide (s5=some [])=true from decide_eq_true hd]
   by_cases hse:1099511627776 < tm
   ·have hRn:R=none:=HRf.o (fun h=>om);have d1:decide ((1099511627776:Int) < (tm:Int))=true:=dt;clear hd;subst hRn;have q:=HRB12.o.k
    go_wp2
    refine bodyPost_ret (aD _ _ ⟨w.heap.size,0,none⟩ (.agg (St ⟨#[]⟩ none 0 0 0 0 0)) (.bool false) rfl rfl rfl (dR (HRB12.o.all ⟨#[]⟩ none 0 0 0 0 0))) rfl ⟨rfl,aa Hb12.o (Nat.le_refl _) _ _⟩
   have d1:decide ((1099511627776:Int) < (tm:Int))=false:=df
   by_cases hmx:999999 < mi
   ·have hRn:R=none:=HRf.o (fun h=>om);have d2:decide ((999999:Int) < (mi:Int))=true:=dt;clear hd;subst hRn;have q:=HRB12.o.k
    go_wp2
    refine bodyPost_ret (aD _ _ ⟨w.heap.size,0,none⟩ (.agg (St ⟨#[]⟩ none 0 0 0 0 0)) (.bool false) rfl rfl rfl (dR (HRB12.o.all ⟨#[]⟩ none 0 0 0 0 0))) rfl ⟨rfl,aa Hb12.o (Nat.le_refl _) _ _⟩
   have d2:decide ((999999:Int) < (mi:Int))=false:=df;have hRn:=HRt.o ⟨hd,om,om⟩;subst hRn;clear hd;have c0:=HNB12.o.c0;have c1:=HNB12.o.c1;have w1:IntKind.i64.wrap (tm:Int)=tm:=wi;have w2:IntKind.u32.wrap (mi:Int)=mi:=by rw[IntKind.wrap_u32];omega
   have w3:IntKind.u32.wrap (sq:Int)=sq:=by rw[IntKind.wrap_u32];omega
   have q:=HRB12.o.k
   go_wp2
   refine bodyPost_ret (aD _ _ ⟨w.heap.size,0,none⟩ (.agg (St (aY r) ad ps.length c' (tm:Nat) (mi:Nat) (sq:Nat))) (.bool true) rfl rfl rfl (dR (HRB12.o.all _ _ _ _ _ _ _))) rfl ⟨?_,aa Hb12.o (Nat.le_refl _) _ _⟩;exact⟨ad,c',rfl,HS12.o.kb (X:=fun b=>b=w.heap.size) ((Kb.refl (fun b=>b=w.heap.size) w12).at1 _ _ _ rfl) (fun a ha e=>by have h1:=Had.o a ha;have h2:=Hr12.o.b;omega),fun a ha=>by have h1:=Had.o a ha;have h2:=Hr12.o.b;omega⟩
 ·have hRn:R=none:=by rw[← HR.o];unfold ij;rw[if_neg h1]
  have hne:((bS 1 (some l):Nat):Int)≠2:=om;subst hRn;have q:=HRB3.o.k;generalize bS 1 (some l)=x at *;have d1:(((x:Nat):Int) != 2)=true:=bne_iff_ne.2 hne;clear h1 hne
  go_wp2
  refine bodyPost_ret (aD _ _ ⟨w.heap.size,0,none⟩ (.agg (St ⟨#[]⟩ none 0 0 0 0 0)) (.bool false) rfl rfl rfl (dR (HRB3.o.all ⟨#[]⟩ none 0 0 0 0 0))) rfl ⟨rfl,aa Hb3.o (Nat.le_refl _) _ _⟩
end
section
abbrev iq:=List UInt8 × List (List UInt8) × Nat × Nat × Nat
def mn(key:RW)(l:List UInt8):Except Nat iq :=
 match kO key 11 l with
 | none=>.error 2
 | some b=>match ij b with
  | none=>.error 1
  | some t=>.ok t
def E9(o:Except Nat iq)(base:Nat)(e:Ending)(w':World):Prop :=
 match o with
 | .error c=>e = .returned (.tuple #[.agg (St ⟨#[]⟩ none 0 0 0 0 0),.int .i64 c])
 | .ok (r,ps,st,en,k)=>∃ ad c,e = .returned (.tuple #[.agg (St (aY r) ad ps.length c (st:Nat) (en:Nat) (k:Nat)),.int .i64 0])∧aM w' ad ps.length c (ps.map aY)∧∀ a,ad=some a→base≤a.block
theorem Bm(key:RW)(ad:Option Addr)(n c:Nat)(l:List UInt8)(w:World)(hg:GK w)(h:Bs w ad n c l)(hm:n≤1000000):
  Calls prog 90 #[.agg (fw B8 key),.slice ad n c] w fun e w'=>E9 (mn key l) w.heap.size e w'∧Below w.heap.size w w':=by
 have H:=SM h;have HG:=SM hg;clear h hg;obtain⟨R,hR⟩:=eY (mn key l);rw[hR];have HR:=SM hR;clear hR
 go_in
 go_wp2_with fail
 have hRB:=gy.made (w.alloc (.cells (fw B8 key) 22)) ⟨#[]⟩ none 0 0 0 0 0;rw[show (w.alloc (.cells (fw B8 key) 22)).heap.size=w.heap.size+1 by simp] at hRB
 have hb0:=ba (.cells (St ⟨#[]⟩ none 0 0 0 0 0) 99) (ba (.cells (fw B8 key) 22) (Sy w));have hs0:((w.alloc (.cells (fw B8 key) 22)).alloc (.cells (St ⟨#[]⟩ none 0 0 0 0 0) 99)).heap.size=w.heap.size+2:=sm;generalize (w.alloc (.cells (fw B8 key) 22)).alloc (.cells (St ⟨#[]⟩ none 0 0 0 0 0) 99)=w1 at *;refine (tI key 11 11 rfl ad n c l w1 (HG.o.below HG.o.1 hb0) (H.o.below hb0) hm).mono ?_;rintro e w2 ⟨hso,hb2⟩
 have HRB:=SM (hRB.below hb2);have Hb:=SM (bt hb0 hb2);have hs2:=hb2.size;clear hRB hb0 hb2;cases ho:kO key 11 l with
 | none =>
  rw[ho] at hso;have he:e = .returned (.tuple #[.slice none 0 0,.bool false]):=hso;subst he;have hRn:R = .error 2:=by rw[← HR.o];unfold mn;rw[ho]
  subst hRn;clear hso ho;have q:=HRB.o.k
  go_wp2
  refine bodyPost_ret (aD _ _ ⟨w.heap.size+1,0,none⟩ (.agg (St ⟨#[]⟩ none 0 0 0 0 0)) (.int .i64 2) rfl rfl rfl (dR (HRB.o.all ⟨#[]⟩ none 0 0 0 0 0))) rfl ⟨rfl,aa Hb.o om _ _⟩
 | some b =>
  rw[ho] at hso;have hob:b.length≤1000000:=by
   have:=H.o.1;unfold kO at ho
   split at ho
   ·cases ho
   ·split at ho
    ·simp only[Option.some.injEq] at ho;rw[← ho,dx,List.length_drop,List.length_take];omega
    ·cases ho
  obtain⟨g,rfl,hg,hB⟩ : ∃ g,e = .returned (.tuple #[.slice (some ⟨g,0,none⟩) b.length b.length,.bool true])∧w1.heap.size≤g∧Bs w2 (some ⟨g,0,none⟩) b.length b.length b:=hso;have HB:=SM hB;have Ho:=SM ho;have Hob:=SM hob;clear hB ho hob;obtain⟨m,hm2⟩:=eY b.length;rw[hm2] at HB Hob;rw[hm2];clear hm2
  go_wp2_with fail
  refine (yr ⟨g,0,none⟩ m m b w2 HB.o Hob.o).mono ?_;rintro e3 w3 ⟨hpo,hb3⟩;have HRB3:=SM (HRB.o.below hb3);have Hb3:=SM (bt Hb.o hb3);have hs3:=hb3.size;clear hb3 HRB HB;cases hp:ij b with
  | none =>
   rw[hp] at hpo;have he:e3 = .returned (.tuple #[.agg (St ⟨#[]⟩ none 0 0 0 0 0),.bool false]):=hpo;subst he;have hRn:R = .error 1:=by rw[← HR.o];unfold mn;rw[Ho.o];simp only;rw[hp]
   subst hRn;clear hpo hp;have hb4:=ba (.cells (St ⟨#[]⟩ none 0 0 0 0 0) 99) (Sy w3);have HRB4:=SM (HRB3.o.below hb4);have Hb4:=SM (bt Hb3.o hb4);have q:=HRB4.o.k;clear HRB3 Hb3 hb4
   go_wp2
   refine bodyPost_ret (aD _ _ ⟨w.heap.size+1,0,none⟩ (.agg (St ⟨#[]⟩ none 0 0 0 0 0)) (.int .i64 1) rfl rfl rfl (dR (HRB4.o.all ⟨#[]⟩ none 0 0 0 0 0))) rfl ⟨rfl,aa Hb4.o om _ _⟩
  | some t =>
   obtain⟨r,ps,st,en,k⟩:=t;rw[hp] at hpo;obtain⟨ad2,c2,rfl,hS,hadr⟩ : ∃ ad c,e3 = .returned (.tuple #[.agg (St (aY r) ad ps.length c (st:Nat) (en:Nat) (k:Nat)),.bool true])∧aM w3 ad ps.length c (ps.map aY)∧∀ a,ad=some a→w2.heap.size≤a.block:=hpo;have hRn:R = .ok (r,ps,st,en,k):=by rw[← HR.o];unfold mn;rw[Ho.o];simp only;rw[hp]
   subst hRn;clear hp;have hb4:=ba (.cells (St (aY r) ad2 ps.length c2 (st:Nat) (en:Nat) (k:Nat)) 99) (Sy w3);have hT:=gy.made w3 (aY r) ad2 ps.length c2 (st:Nat) (en:Nat) (k:Nat);have HT:=SM hT;have HRB4:=SM (HRB3.o.below hb4);have Hb4:=SM (bt Hb3.o hb4);have HS:=SM (hS.below hb4);have Had:=SM hadr;have q:=HRB4.o.k;have q2:=HT.o.r;clear HRB3 Hb3 hb4 hT hS hadr
   go_wp2
   refine bodyPost_ret (aD _ _ ⟨w.heap.size+1,0,none⟩ (.agg (St (aY r) ad2 ps.length c2 (st:Nat) (en:Nat) (k:Nat))) (.int .i64 0) rfl rfl rfl (dR (HRB4.o.all _ _ _ _ _ _ _))) rfl ⟨?_,aa Hb4.o om _ _⟩;exact⟨ad2,c2,rfl,HS.o.kb (X:=fun b=>b=w.heap.size+1) ((Kb.refl (fun b=>b=w.heap.size+1) _).at1 _ _ _ rfl) (fun a ha e=>by have:=Had.o a ha;omega),fun a ha=>by have:=Had.o a ha;omega⟩
end
end Go.Proofs.YtlcfaaodmickbaaGreatDoor
