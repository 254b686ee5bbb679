/- The part of the proof that is of the law TopQuarantine alone. No conditions. -/
import Derived.Stop.Joined
import Derived.Test.YtlcfaaodmickbaaGreatDoorPc24
set_option linter.unusedSimpArgs false
set_option linter.unusedVariables false
set_option maxRecDepth 100000
set_option maxHeartbeats 8000000
namespace Go.Proofs.YtlcfaaodmickbaaGreatDoor
open Go.RowKit Go.Proofs.Tryz
section
structure WI (n k:Nat) (v:VM):Prop where
 cr:Cr (n / 2) k tZ v.D
 ag:∀ c,v.c=some c→v.D.down=false→c.M.broken=false→Ag (n / 2) v.now v.D c∧tp c≤k
theorem WI.more{n k k':Nat}{v:VM}(h:WI n k v)(hk:k≤k'):WI n k' v:=⟨h.cr.more hk (fun _ h=>h),fun c h1 h2 h3=>⟨(h.ag c h1 h2 h3).1,Nat.le_trans (h.ag c h1 h2 h3).2 hk⟩⟩
theorem WI.look{n k:Nat}{v:VM}(h:WI n k v):WI n k (au v):=by
 unfold au
 split
 ·exact⟨h.cr,fun c hc=>by cases hc⟩
 ·exact h
theorem WI.with'{n k:Nat}{v:VM}{c:CM}{R:DM × CM × Int}(h:(Ag (n / 2) v.now R.1 R.2.1∧tp R.2.1≤k)∨((R.1.down=false→R.2.1.M.broken=true)∧Cr (n / 2) k tZ R.1)):WI n k { v with D:=R.1,c:=some R.2.1 }:=by
 rcases h with ⟨h1,h2⟩ | ⟨h1,h2⟩
 ·exact⟨h1.cr h2,fun c hc _ _=>by cases hc;exact⟨h1,h2⟩⟩
 ·exact⟨h2,fun c hc hd hb=>by cases hc;have:=h1 hd;rw[hb] at this;cases this⟩
theorem jU(D:DM)(k:Int)(cr:Bool)(cuts:List Int):(bP D k cr cuts).st=D.st∧(bP D k cr cuts).op=D.op∧(bP D k cr cuts).down=D.down:=by
 unfold bP;split <;> exact⟨rfl,rfl,rfl⟩
theorem Ag.same{half:Nat}{now:Int}{D D':DM}{c:CM}(h:Ag half now D c)(h1:D'.st=D.st)(h2:D'.op=D.op)(h3:D'.down=D.down):Ag half now D' c :=
 ⟨by rw[h3];exact h.d,by rw[h2];exact h.o,h.b,h.h,by rw[h1];exact h.e⟩
theorem WI.plan{n k:Nat}{v:VM}(h:WI n k v)(s:Int)(cr:Bool)(cuts:List Int):WI n k { v with D:=bP v.D s cr cuts }:=by
 obtain⟨h1,h2,h3⟩:=jU v.D s cr cuts;exact⟨h.cr.same h1 h2,fun c hc hd hb=>⟨((h.ag c hc (by rw[← h3];exact hd) hb).1).same h1 h2 h3,(h.ag c hc (by rw[← h3];exact hd) hb).2⟩⟩
theorem gO{n m:Nat}{v:VM}(hV:VI n m v)(N:Int):v.now≤(dp v N).now:=by
 have:=hV.now
 show v.now≤(if bW - v.now < N then bW else if 0 < N then v.now+N else v.now)
 split
 ·exact this.2
 ·split <;> omega
theorem WI.boot{n k m:Nat}{v:VM}(h:WI n k v)(hV:VI n m v)(hk:k+1 < 256):WI n (k+1) (bG n v).1:=by
 have hc:Cr (n / 2) k tZ (bT v.D):=h.cr.same rfl rfl;unfold bG openC
 rcases jS (bT v.D) n k tZ rfl hV.D.len hk hc with ⟨M,es,h1,h2⟩ | ⟨c,h1,h2,h3,h4⟩
 ·rw[h1];have ha:Ag (n / 2) v.now (openD (bT v.D) n).1 { M:=M,ix:=aO (gR es) v.now,til:=v.now+v.skew }:=⟨h2.d,h2.o,h2.b,h2.h,es,h2.g,h2.c,(drop_drop _ _).symm⟩;exact⟨ha.cr h2.t,fun c hc _ _=>by cases hc;exact⟨ha,h2.t⟩⟩
 ·rw[h1];exact⟨h4,fun c hc=>by cases hc⟩
theorem dL(D:DM)(c:CM)(now:Int)(h:c.M.broken=true):compactC D c now=(D,c,11):=by
 unfold compactC;have e:rewriteL D c.M (cy c.ix now)=(D,c.M,11):=by unfold rewriteL;rw[if_pos h]
 rw[e,if_neg (show ¬ ((D,c.M,(11:Int)):DM × LM × Int).2.2=0 from by show ¬ (11:Int)=0;decide)]
theorem WI.compact{n k m:Nat}{v:VM}(h:WI n k v)(hV:VI n m v)(hk:k+1 < 256):WI n (k+1) (aW v).1:=by
 unfold aW;cases hc:(au v).c with
 | none=>exact (h.look).more (Nat.le_succ _)
 | some c =>
  obtain⟨h1,h2,_⟩:=gF hc;refine WI.look ?_
  by_cases hb:c.M.broken=true
  ·rw[dL v.D c v.now hb];exact⟨h.cr.more (Nat.le_succ _) (fun _ h=>h),fun c' hc' _ hb'=>by cases hc';rw[hb] at hb';cases hb'⟩
  ·have hb':c.M.broken=false:=by simpa using hb
   obtain⟨ha,ht⟩:=h.ag c h1 h2 hb';refine WI.with' (c:=c) ?_
   rcases ey ha (hV.c c h1) (k:=k+1) om hk with ⟨b1,b2,b3,b4,_⟩ | ⟨b1,b2,b3,b4,b5,b6,b7⟩
   ·exact .inl ⟨b3,om⟩
   ·exact .inr ⟨b4,b7.more (Nat.le_refl _) (fun _ _=>trivial)⟩
theorem gW(D:DM)(c:CM)(d:RP)(x:Nat)(now:Int)(h:c.M.broken=true):∃ a,insertC D c d x now=(D,c,a):=by
 unfold insertC
 by_cases h1:Ge c d now=true
 ·rw[if_pos h1];exact⟨_,rfl⟩
 ·rw[if_neg h1,if_pos (.inl h)];exact⟨_,rfl⟩
theorem WI.verify{n k m:Nat}{v:VM}(h:WI n k v)(hV:VI n m v)(hk:k+1 < 256)(l:List UInt8):WI n (k+1) (aU v l).1:=by
 have hl:WI n (k+1) (au v):=(h.look).more (Nat.le_succ _);unfold aU;cases hq:eC v.key l with
 | error c=>exact hl
 | ok r =>
  obtain⟨t,a⟩:=r;simp only
  split
  ·cases hc:(au v).c with
   | none=>exact hl
   | some c =>
    simp only
    split
    ·exact hl
    ·obtain⟨h1,h2,_⟩:=gF hc;refine WI.look ?_
     by_cases hb:c.M.broken=true
     ·obtain⟨z,hz⟩:=gW v.D c (iA a) (a.2.2.1+v.skew.toNat) v.now hb;rw[hz];exact⟨h.cr.more (Nat.le_succ _) (fun _ h=>h),fun c' hc' _ hb'=>by cases hc';rw[hb] at hb';cases hb'⟩
     ·have hb':c.M.broken=false:=by simpa using hb
      obtain⟨ha,ht⟩:=h.ag c h1 h2 hb';refine WI.with' (c:=c) ?_
      rcases kI ha (hV.c c h1) (k:=k+1) om hk (iA a) (a.2.2.1+v.skew.toNat) _ rfl with ⟨b1,b2,b3,_⟩ | ⟨b1,b2,b3,b4⟩
      ·exact .inl ⟨b2,om⟩
      ·exact .inr ⟨b3,b4⟩
  ·exact hl
theorem WI.step{n k m:Nat}{v:VM}(h:WI n k v)(hV:VI n m v)(hk:k+1 < 256)(o:R5):WI n (k+1) (aQ n v o).1:=by
 unfold aQ
 split
 ·have hl:=h.look;refine⟨?_,fun c hc hd hb=>?_⟩
  ·have:(dp v o.N).D=v.D:=oV v;rw[this];exact h.cr.more (Nat.le_succ _) (fun _ h=>h)
  ·have hc':(au v).c=some c:=hc;obtain⟨h1,h2,h3⟩:=gF hc';obtain⟨ha,ht⟩:=h.ag c h1 h2 hb;have e:(dp v o.N).D=v.D:=oV v;rw[e];exact⟨ha.later (gO hV o.N),om⟩
 split
 ·exact h.boot hV hk
 split
 ·exact h.verify hV hk o.data
 split
 ·exact h.compact hV hk
 split
 ·exact (h.plan _ _ _).more (Nat.le_succ _)
 split
 ·exact⟨(h.cr.crash o.cuts).more (Nat.le_succ _) (fun _ h=>h),fun c hc hd=>by cases hd⟩
 ·exact (h.plan _ _ _).more (Nat.le_succ _)
theorem WI.new(n:Nat)(hn:n≤4096)(h2:2≤n)(key:RW)(skew:Int):WI n 0 (bN key skew (dG (n:Int))) :=
 ⟨Cr.nil rfl trivial (iJ n hn h2 0),fun c hc=>by cases hc⟩
end
section
noncomputable def ce(n:Nat)(v:VM)(L:List R5):VM:=L.foldl (fun v o=>(aQ n v o).1) v
theorem dw(n:Nat)(v:VM)(L:List R5)(o:R5):ce n v (L ++ [o])=(aQ n (ce n v L) o).1:=by simp[ce]
theorem VI.after{n:Nat}{v:VM}(h:VI n 0 v)(hn:n≤100)(h2:2≤n)(L:List R5):VI n (120 * L.length) (ce n v L):=by
 induction L using di with
 | h0=>exact h
 | h1 l a ih=>rw[dw];exact (ih.step hn h2 a).more sO
theorem uU:(prog.info? 47).map (·.size)=some 2:=kr
theorem EF:prog.underlying 47=some (.struct (prog.fieldsOf 47)):=kr
theorem ve{w:World}{b:Nat}{x y:Value}(h:P2 w b x y):(loadVar 47 ⟨b,0,none⟩).run prog w = .ok (.agg #[x,y]) w:=az w b 0 2 47 _ _ h.r EF rfl uU
theorem vZ{n:Nat}{v:VM}{o:R5}(h:o.kind=1):(aQ n v o).1=dp v o.N:=by unfold aQ;rw[if_pos h]
theorem wh{n:Nat}{v:VM}{o:R5}(h:o.kind=2):(aQ n v o).1=(bG n v).1:=by unfold aQ;rw[if_neg om,if_pos h]
theorem wl{n:Nat}{v:VM}{o:R5}(h:o.kind=3):(aQ n v o).1=(aU v o.data).1:=by unfold aQ;rw[if_neg om,if_neg om,if_pos h]
theorem wq{n:Nat}{v:VM}{o:R5}(h:o.kind=4):(aQ n v o).1=(aW v).1:=by unfold aQ;rw[if_neg om,if_neg om,if_neg om,if_pos h]
theorem ws{n:Nat}{v:VM}{o:R5}(h:o.kind=5):(aQ n v o).1={ v with D:=bP v.D o.N false [] }:=by unfold aQ;rw[if_neg om,if_neg om,if_neg om,if_neg om,if_pos h]
theorem wt{n:Nat}{v:VM}{o:R5}(h:o.kind=6):(aQ n v o).1=if o.N=0 then { v with D:=de v.D o.cuts } else { v with D:=bP v.D o.N true o.cuts }:=by
 unfold aQ;rw[if_neg om,if_neg om,if_neg om,if_neg om,if_neg om];split <;> rfl
theorem ew{w:World}{b o:Nat}{v:Value}(h:w.cell? ⟨b,o,none⟩=some v):b < w.heap.size:=World.block_lt_of_cell? w _ h
theorem mv(w:World)(key:RW)(skew:Int)(n kn c:Nat)(ad:Option Addr)(L:List R3)(hA:Qi skew n L)(hL:L.length=kn)(hO:rC w (.slice ad kn c) L)(hg:GK w):
  Calls prog 10 #[.agg (bQ key skew n),.slice ad kn c] w fun e w'=>(∃ p V q base,e = .returned (.tuple #[.agg #[.pointer (some ⟨V,0,none⟩),.pointer (some ⟨p.B,0,none⟩)],.bool true])∧So w' base p V q n (ce n (bN key skew (dG n)) (L.map Prod.fst))∧w.heap.size < base∧base≤w'.heap.size)∧Below w.heap.size w w':=by
 have hM:=eV.made w key skew n;have hb1:=ba (.cells (bQ key skew n) 24) (Sy w);have hP:=P2.made (w.alloc (.cells (bQ key skew n) 24)) 47 (.pointer none) (.pointer none);rw[show (w.alloc (.cells (bQ key skew n) 24)).heap.size=w.heap.size+1 by simp] at hP
 have hb2:=ba (.cells #[.pointer none,.pointer none] 47) (Below.refl (w.alloc (.cells (bQ key skew n) 24)).heap.size (w.alloc (.cells (bQ key skew n) 24)));have hM2:=hM.below hb2;have hb12:=bt hb1 hb2;have hsz:((w.alloc (.cells (bQ key skew n) 24)).alloc (.cells #[.pointer none,.pointer none] 47)).heap.size=w.heap.size+2:=sm;have HO:=SM hO;have HL:=SM hL;have HA:=SM hA;have HG:=SM hg;obtain⟨R,hRe⟩:=eY (ce n (bN key skew (dG n)) (L.map Prod.fst))
 rw[hRe];have HRe:=SM hRe;have hs1:=hA.s.1;have hs2:=hA.s.2;have hn1:2≤n:=by have:=hA.n.1;omega
 have hn2:n≤30:=by have:=hA.n.2;omega
 have hkn:kn≤40:=by have:=hA.l;omega
 clear hO hL hg hRe hA hM hb1 hb2
 go_in
 go_upto_region 1 with fail
 generalize (w.alloc (.cells (bQ key skew n) 24)).alloc (.cells #[.pointer none,.pointer none] 47)=w1 at *;have c2:=hM2.f2
 go_wp2_with fail
 refine (qi w1 (n:Nat) om).mono ?_;rintro _ w4 ⟨⟨p,rfl,hD⟩,hb4⟩;rw[show ((n:Nat):Int).toNat=n by omega] at hD
 obtain⟨base,hbase⟩:=eY w1.heap.size;rw[hbase] at hD;have hM4:=hM2.below hb4;have hP4:=hP.below hb4;have hz4:base≤w4.heap.size:=by have:=hb4.size;omega
 have hbz:w.heap.size+2=base:=om;have Hb4:=SM (bt hb12 hb4);clear c2 hM2 hP hb12 hb4 hbase hsz;have c0:=hM4.f0;have c1:=hM4.f1
 go_wp2_with fail
 refine (ro w4 base n p key skew (dG n) hD ⟨hs1,hs2⟩ hz4).mono ?_;rintro _ w6 ⟨⟨V,rfl,hVl,hVA⟩,hb6⟩;have hV6:=SM (hVA ⟨0,0,0,0⟩);have Hb6:=SM (bt Hb4.o hb6);have hz6:base≤w6.heap.size:=by have:=hb6.size;omega
 have HP6:=SM (hP4.below hb6);clear hVA hb6 hD hM4 hP4 Hb4 c0 c1
 go_wp2_with fail
 have HV0:=SM (VI.new (n:=n) key skew hs1 hs2 om)
 go_loopw [8] (fun i wr=>∃ (k:Nat) (p':DP) (q':CP),k≤kn∧i = .int .i64 k∧p'.B=p.B∧So wr base p' V q' n (ce n (bN key skew (dG n)) ((L.map Prod.fst).take k))∧Below w.heap.size w wr∧base≤wr.heap.size∧P2 wr (w.heap.size+1) (.pointer none) (.pointer none)) (fun i _=>kn - (intOf i).toNat)
 case atStart=>exact⟨0,p,⟨0,0,0,0⟩,om,rfl,rfl,hV6.o,Hb6.o,hz6,HP6.o⟩
 case round =>
  clear hV6 Hb6 HP6 hz6;obtain⟨k,p',q',hk,rfl,hB,hV,hbr,hzr,hP⟩:=hrel
  by_cases hlt:k < kn
  ·have d1:decide ((k:Int) < (kn:Int))=true:=dt;have hOr:=HO.o.below hbr;obtain⟨b,oo,had,hrd⟩:=hOr.cell HL.o k hlt;have hmem:L[k]'(by rw[HL.o];exact hlt) ∈ L:=List.getElem_mem _
   have hOx:=hOr.o _ hmem;have hRx:=HA.o.o _ hmem;have hdl:=HA.o.d _ hmem;have htk:(L.map Prod.fst).take (k+1)=(L.map Prod.fst).take k ++ [(L[k]'(by rw[HL.o];exact hlt)).1]:=by
    rw[List.take_add_one,List.getElem?_eq_getElem (by rw[List.length_map,HL.o];exact hlt)]
    simp
   obtain⟨x,hx⟩:=eY (L[k]'(by rw[HL.o];exact hlt))
   have hOw:=HO.o.o x (hx ▸ List.getElem_mem _);have hbl:b < w.heap.size:=by
    obtain⟨b',oo',had',hrd0⟩:=HO.o.cell HL.o k hlt;rw[had] at had';simp only[Option.some.injEq,Addr.mk.injEq,and_true] at had';rw[had'.1];exact ac hrd0
   rw[hx] at hrd hOx hRx htk hdl;clear hmem hx hOr;obtain⟨o,dv,cv⟩:=x;obtain⟨⟨a1,k1,hdv,hBs⟩,hcu⟩:=hOx;simp only at hdv htk hRx hcu hBs hdl;subst hdv had;have o0:wr.cell? ⟨b,oo+k * 4,none⟩=some (.int .i64 o.kind):=ab hrd 0 _ rfl;have o1:wr.cell? ⟨b,oo+k * 4+1,none⟩=some (.int .i64 o.N):=ab hrd 1 _ rfl;have o2:wr.cell? ⟨b,oo+k * 4+2,none⟩=some (.slice a1 o.data.length k1):=ab hrd 2 _ rfl;have o3:wr.cell? ⟨b,oo+k * 4+3,none⟩=some cv:=ab hrd 3 _ rfl
   have k0:(0:Int)≤(k:Int):=om;have k3:(k:Int) < (kn:Int):=om;have wk:IntKind.i64.wrap ((k:Int)+1)=(k:Int)+1:=wi;obtain⟨v,hS⟩:=eY (ce n (bN key skew (dG n)) ((L.map Prod.fst).take k));have hS1:ce n (bN key skew (dG n)) ((L.map Prod.fst).take (k+1))=(aQ n v o).1:=by rw[htk,dw,hS]
   have hVI:VI n (120 * k) v:=by
    have:=HV0.o.after om hn1 ((L.map Prod.fst).take k);rw[hS] at this;exact this.more (by rw[List.length_take];omega)
   rw[hS] at hV;have hlo:∀ i,VX p' V q' v.c i→base≤i:=fun i hi=>hV.lo' hi;have hg:=HG.o.below HG.o.1 hbr;have hnx:∀ (v':VM) (w':World),(aQ n v o).1=v'→aF wr base p' V q' v.c n v' w'→∃ (k':Nat) (p'':DP) (q'':CP),k'≤kn∧Value.int .i64 ((k:Int)+1) = .int .i64 k'∧p''.B=p.B∧So w' base p'' V q'' n (ce n (bN key skew (dG n)) ((L.map Prod.fst).take k'))∧Below w.heap.size w w'∧base≤w'.heap.size∧P2 w' (w.heap.size+1) (.pointer none) (.pointer none):=by
    intro v' w' he hN;have hk:=hN.kb;obtain⟨p'',q'',g1,g2,_,_⟩:=hN;refine⟨k+1,p'',q'',om,by go_num,g1.trans hB,by rw[hS1,he];exact g2,hbr.trans (hk.below (fun i hi=>by have:=hlo i hi;omega) hbr.size),Nat.le_trans hzr hk.size,hP.same (hk.block _ hP.lt (fun hx=>by have:=hlo _ hx;omega))⟩
   have Hnx:=SM hnx;have HV:=SM hV;have HVI:=SM hVI;have HBs:=SM hBs;have Hcu:=SM hcu;have HG2:=SM hg;have hcl:o.cuts.length≤100000:=by have:=hRx.cl;omega
   have HOw:=SM hOw;have Hbr:=SM hbr;have HRx:=SM hRx.k;have Hlo:=SM hlo;clear hrd htk hS hS1 hVI hlo hnx hV hBs hcu hbr hg hP hRx hOw
   rcases HRx.o with ⟨hk1,_,_⟩ | ⟨hk1,_⟩ | ⟨hk1,_⟩ | ⟨hk1,_⟩ | ⟨hk1,_,h5⟩ | ⟨hk1,h5,h6⟩
   ·have hst:=vZ (n:=n) (v:=v) hk1;have Hst:=SM hst;rw[hk1] at o0;clear hst hk1
    go_wp2_with fail
    refine (kq wr base n (120 * k) V p' q' v o.N HV.o HVI.o).mono ?_;rintro _ w7 ⟨rfl,hN⟩;have hfin:=SM (Hnx.o _ _ Hst.o hN);clear hN o0 o1 o2 o3
    go_wp2
    go_roundw
    case rel=>exact hfin.o
    case measure=>simp[intOf];omega
   ·have hst:=wh (n:=n) (v:=v) hk1;have Hst:=SM hst;rw[hk1] at o0;clear hst hk1
    go_wp2_with fail
    refine (iV wr base n (120 * k) V p' q' v HV.o HVI.o om om hn1 hzr).mono ?_;rintro _ w7 ⟨⟨kk,rfl⟩,hN⟩;generalize fg (bG n v).2 kk=ev;have hfin:=SM (Hnx.o _ _ Hst.o hN);clear hN o0 o1 o2 o3
    go_wp2
    go_roundw
    case rel=>exact hfin.o
    case measure=>simp[intOf];omega
   ·have hst:=wl (n:=n) (v:=v) hk1;have Hst:=SM hst;rw[hk1] at o0;clear hst hk1
    go_wp2_with fail
    refine (ig wr base n (120 * k) V p' q' v a1 o.data.length k1 o.data HV.o HVI.o HG2.o HBs.o om om om om hzr).mono ?_;rintro _ w7 ⟨rfl,hN⟩;generalize (aU v o.data).2=ev;have hfin:=SM (Hnx.o _ _ Hst.o hN);clear hN o0 o1 o2 o3
    go_wp2
    go_roundw
    case rel=>exact hfin.o
    case measure=>simp[intOf];omega
   ·have hst:=wq (n:=n) (v:=v) hk1;have Hst:=SM hst;rw[hk1] at o0;clear hst hk1
    go_wp2_with fail
    refine (gk wr base n (120 * k) V p' q' v HV.o HVI.o om om hzr).mono ?_;rintro _ w7 ⟨⟨kk,rfl⟩,hN⟩;generalize fg (aW v).2 kk=ev;have hfin:=SM (Hnx.o _ _ Hst.o hN);clear hN o0 o1 o2 o3
    go_wp2
    go_roundw
    case rel=>exact hfin.o
    case measure=>simp[intOf];omega
   ·have hst:=ws (n:=n) (v:=v) hk1;have Hst:=SM hst;rw[hk1] at o0;clear hst hk1
    go_wp2_with fail
    have hcall:=mC wr o.N (120 * k) [] HV.o.D HVI.o.D om om;rw[hB] at hcall;refine (hcall).mono ?_;rintro _ w7 ⟨rfl,hN⟩;have hN:=bm.ver HV.o hN;clear hcall;have hfin:=SM (Hnx.o _ _ Hst.o hN);clear hN o0 o1 o2 o3
    go_wp2
    go_roundw
    case rel=>exact hfin.o
    case measure=>simp[intOf];omega
   ·have hst:=wt (n:=n) (v:=v) hk1;rw[hk1] at o0;clear hk1
    by_cases h0:o.N=0
    ·have d0:(o.N == 0)=true:=by rw[h0];rfl
     rw[if_pos h0] at hst;have Hst:=SM hst;have H0:=SM h0;clear hst h0
     go_wp2_with fail
     have hcall:=fx wr cv o.cuts (120 * k) HV.o.D HVI.o.D om om hzr Hcu.o;rw[hB] at hcall;refine hcall.mono ?_;rintro _ w7 ⟨rfl,hN⟩;have hN:=bm.ver HV.o hN;obtain⟨p7,q7,g1,g2,g3,g4⟩:=hN;have o1':w7.cell? ⟨b,oo+k * 4+1,none⟩=some (.int .i64 o.N):=by rw[← o1];simp[World.cell?,g3.block b (ew o1) (fun hx=>by have:=Hlo.o _ hx;omega)]
     have o3':w7.cell? ⟨b,oo+k * 4+3,none⟩=some cv:=by rw[← o3];simp[World.cell?,g3.block b (ew o3) (fun hx=>by have:=Hlo.o _ hx;omega)]
     have hb7:Below w.heap.size w w7:=Hbr.o.trans (g3.below (fun i hi=>by have:=Hlo.o _ hi;omega) Hbr.o.size)
     have hT:∀ v2 u,aF w7 base p7 V q7 v.c n v2 u→aF wr base p' V q' v.c n v2 u:=fun v2 u hh=>aF.trans g1 g3 g4 hh;have HT:=SM hT;have H7:=SM g2;have hz7:base≤w7.heap.size:=Nat.le_trans hzr g3.size;have hB7:p7.B=p.B:=g1.trans hB;clear hcall g1 g2 g3 g4 hT o1 o3 o0 o2
     go_wp2_with fail
     have hdb:=(Sy w7).drew;refine yW (tk 0 11 (.run 11 .done)) (fun u=>u.cell? ⟨b,oo+k * 4+1,none⟩=some (.int .i64 o.N)∧u.cell? ⟨b,oo+k * 4+3,none⟩=some cv) ⟨o1',o3'⟩ ?_;have h8:=H7.o.below hdb;have hcu8:=HOw.o.c.below (bt hb7 hdb);have hz8:base≤w7.drew.heap.size:=hz7;have HT8:Hd (∀ v2 u,aF w7.drew base p7 V q7 v.c n v2 u→aF wr base p' V q' v.c n v2 u):=SM (fun v2 u hh=>HT.o _ _ (hh.pre hdb));have o18:w7.drew.cell? ⟨b,oo+k * 4+1,none⟩=some (.int .i64 o.N):=o1'
     have o38:w7.drew.cell? ⟨b,oo+k * 4+3,none⟩=some cv:=o3';clear hdb H7 HT o1' o3' hb7 hz7;generalize w7.drew=w8 at *
     repeat((first|refine yO ?_|refine yM ?_|refine yF rfl rfl (fun w' hC'=>by obtain⟨oa,ob⟩:=hC';go_simp;first|done|exact rfl) ?_);walk_nrm)
     refine yR ?_;have hcall:=dY w8 o.N cv o.cuts (120 * k) h8.D (HVI.o.D.crash o.cuts) om om hz8 hcl hcu8;rw[hB7] at hcall;refine hcall.mono ?_;rintro _ w9 ⟨rfl,hN⟩;have hpl:bP (de v.D o.cuts) o.N true o.cuts=de v.D o.cuts:=by unfold bP;rw[if_pos (by have:=H0.o;omega)]
     rw[show ({ v with D:=de v.D o.cuts } : VM).D=de v.D o.cuts from rfl,hpl] at hN
     have hk9:=hN;have hN:=bm.ver h8 hN;have hkb:=hN.kb;have o19:w9.cell? ⟨b,oo+k * 4+1,none⟩=some (.int .i64 o.N):=by rw[← o18];simp[World.cell?,hkb.block b (ew o18) (fun hx=>by have:=h8.lo' hx;omega)]
     have o39:w9.cell? ⟨b,oo+k * 4+3,none⟩=some cv:=by rw[← o38];simp[World.cell?,hkb.block b (ew o38) (fun hx=>by have:=h8.lo' hx;omega)]
     refine kS ⟨o19,o39⟩ ?_;walk_nrm
     repeat(refine yA ?_;walk_nrm)
     refine al ?_;have hfin:=SM (Hnx.o _ _ Hst.o (HT8.o _ _ hN));clear hN hk9 hkb o19 o39 o18 o38 hcall h8 hcu8 HT8 hpl
     go_wp2
     go_roundw
     case rel=>exact hfin.o
     case measure=>simp[intOf];omega
    ·have d0:(o.N == 0)=false:=by simpa using h0
     rw[if_neg h0] at hst;have Hst:=SM hst;clear hst h0
     go_wp2_with fail
     have hdb:=(Sy wr).drew;refine yW (tk 0 11 (.run 11 .done)) (fun u=>u.cell? ⟨b,oo+k * 4+1,none⟩=some (.int .i64 o.N)∧u.cell? ⟨b,oo+k * 4+3,none⟩=some cv) ⟨o1,o3⟩ ?_;have h8:=HV.o.below hdb;have hcu8:=Hcu.o.below hdb;have hz8:base≤wr.drew.heap.size:=hzr;have HT8:Hd (∀ v2 u,aF wr.drew base p' V q' v.c n v2 u→aF wr base p' V q' v.c n v2 u):=SM (fun v2 u hh=>hh.pre hdb);have o18:wr.drew.cell? ⟨b,oo+k * 4+1,none⟩=some (.int .i64 o.N):=o1
     have o38:wr.drew.cell? ⟨b,oo+k * 4+3,none⟩=some cv:=o3;clear hdb o0 o1 o2 o3;generalize wr.drew=w8 at *
     repeat((first|refine yO ?_|refine yM ?_|refine yF rfl rfl (fun w' hC'=>by obtain⟨oa,ob⟩:=hC';go_simp;first|done|exact rfl) ?_);walk_nrm)
     refine yR ?_;have hcall:=dY w8 o.N cv o.cuts (120 * k) h8.D HVI.o.D om om hz8 hcl hcu8;rw[hB] at hcall;refine hcall.mono ?_;rintro _ w9 ⟨rfl,hN⟩;have hN:=bm.ver h8 hN;have hkb:=hN.kb;have o19:w9.cell? ⟨b,oo+k * 4+1,none⟩=some (.int .i64 o.N):=by rw[← o18];simp[World.cell?,hkb.block b (ew o18) (fun hx=>by have:=h8.lo' hx;omega)]
     have o39:w9.cell? ⟨b,oo+k * 4+3,none⟩=some cv:=by rw[← o38];simp[World.cell?,hkb.block b (ew o38) (fun hx=>by have:=h8.lo' hx;omega)]
     refine kS ⟨o19,o39⟩ ?_;walk_nrm
     repeat(refine yA ?_;walk_nrm)
     refine al ?_;have hfin:=SM (Hnx.o _ _ Hst.o (HT8.o _ _ hN));clear hN hkb o19 o39 o18 o38 hcall h8 hcu8 HT8
     go_wp2
     go_roundw
     case rel=>exact hfin.o
     case measure=>simp[intOf];omega
  ·obtain rfl:k=kn:=om;have htk:(L.map Prod.fst).take k=L.map Prod.fst:=List.take_of_length_le (by rw[List.length_map,HL.o];exact Nat.le_refl _)
   rw[htk,HRe.o] at hV;have hk4:=hP;have hb4:Below w.heap.size w ((wr.setCell ⟨w.heap.size+1,0,none⟩ (.pointer (some ⟨V,0,none⟩))).setCell ⟨w.heap.size+1,1,none⟩ (.pointer (some ⟨p.B,0,none⟩))):=(hbr.setCell (p:=⟨w.heap.size+1,0,none⟩) (by show _≤w.heap.size+1;omega) _).setCell (p:=⟨w.heap.size+1,1,none⟩) (by show _≤w.heap.size+1;omega) _
   have hV4:So ((wr.setCell ⟨w.heap.size+1,0,none⟩ (.pointer (some ⟨V,0,none⟩))).setCell ⟨w.heap.size+1,1,none⟩ (.pointer (some ⟨p.B,0,none⟩))) base p' V q' n R:=by
    have hkk:Kb (fun i=>i=w.heap.size+1) wr ((wr.setCell ⟨w.heap.size+1,0,none⟩ (.pointer (some ⟨V,0,none⟩))).setCell ⟨w.heap.size+1,1,none⟩ (.pointer (some ⟨p.B,0,none⟩))):=(dE _ _ _ _).trans (dE _ _ _ _) (fun i hi=>.inl hi);exact hV.kb hkk (fun i hi e=>by have:=hV.lo' hi;omega)
   have hz4':base≤((wr.setCell ⟨w.heap.size+1,0,none⟩ (.pointer (some ⟨V,0,none⟩))).setCell ⟨w.heap.size+1,1,none⟩ (.pointer (some ⟨p.B,0,none⟩))).heap.size:=by simp;exact hzr
   have f0:=hP.free 0;have f1:=hP.free 1;have q0:=hP.c0;have q1:=hP.c1;have hP4:=hP.set (.pointer (some ⟨V,0,none⟩)) (.pointer (some ⟨p.B,0,none⟩));have HP4:=SM hP4;have HV4:=SM hV4;have Hb4:=SM hb4;have Hz4:=SM hz4';clear hP hV hbr hb4 hV4 hz4' hP4 htk hk4
   go_wp2
   refine bodyPost_ret (aD _ _ ⟨w.heap.size+1,0,none⟩ (.agg #[.pointer (some ⟨V,0,none⟩),.pointer (some ⟨p.B,0,none⟩)]) (.bool true) rfl rfl rfl (ve HP4.o)) rfl ⟨⟨p',V,q',base,by rw[hB],HV4.o,om,Hz4.o⟩,Hb4.o⟩
end
section
theorem wZ(c:Int):Na c≠7:=by unfold Na;split <;> omega
theorem xP(D:DM)(c:CM)(d:RP)(x:Nat):(putC D c d x).2.2≠7:=by
 unfold putC
 split
 ·show (10:Int)≠7;omega
 ·exact wZ _
theorem vb(D:DM)(c:CM)(d:RP)(x:Nat)(now:Int):(insertC D c d x now).2.2≠7:=by
 unfold insertC
 split
 ·show (8:Int)≠7;omega
 ·split
  ·show (9:Int)≠7;omega
  ·split
   ·exact xP _ _ _ _
   ·split
    ·split
     ·exact xP _ _ _ _
     ·show (9:Int)≠7;omega
    ·exact wZ _
theorem WI.after{n:Nat}{v:VM}(h:WI n 0 v)(hV:VI n 0 v)(hn:n≤100)(h2:2≤n)(L:List R5):L.length < 255→WI n L.length (ce n v L):=by
 induction L using di with
 | h0=>intro _;exact h
 | h1 l a ih =>
  intro hl;simp only[List.length_append,List.length_cons,List.length_nil] at hl ⊢;rw[dw];exact (ih om).step (hV.after hn h2 l) om a
theorem Bw{n k m:Nat}{v:VM}(h:WI n k v)(hV:VI n m v)(hk:k+1 < 256)(h0:(bG n v).2=0):∃ c,(bG n v).1.c=some c∧(bG n v).1.D.down=false∧c.til=v.now+v.skew:=by
 have hc:Cr (n / 2) k tZ (bT v.D):=h.cr.same rfl rfl;unfold bG openC at h0 ⊢
 rcases jS (bT v.D) n k tZ rfl hV.D.len hk hc with ⟨M,es,h1,h2⟩ | ⟨c,h1,h2,h3,h4⟩
 ·rw[h1];exact⟨_,rfl,h2.d,rfl⟩
 ·rw[h1] at h0;simp only at h0;exact absurd h0 (mZ h1)
theorem yD(n:Nat)(v:VM):(bG n v).1.key=v.key∧(bG n v).1.skew=v.skew∧(bG n v).1.now=v.now:=by
 unfold bG;split <;> exact⟨rfl,rfl,rfl⟩
theorem Ep(n:Nat)(v:VM)(o:R5):(aQ n v o).1.skew=v.skew:=by
 unfold aQ
 split
 ·exact dz v
 ·split
  ·unfold bG;split <;> rfl
  ·split
   ·unfold aU
    split
    ·exact dz v
    ·split
     ·split
      ·exact dz v
      ·split
       ·exact dz v
       ·rw[dz]
     ·exact dz v
   ·split
    ·unfold aW
     split
     ·exact dz v
     ·rw[dz]
    ·split
     ·rfl
     ·split <;> rfl
theorem uB(n:Nat)(v:VM)(L:List R5):(ce n v L).key=v.key∧(ce n v L).skew=v.skew:=by
 induction L using di with
 | h0=>exact⟨rfl,rfl⟩
 | h1 l a ih=>rw[dw,x8,Ep];exact ih
theorem tP(v:VM)(W:Nat)(hd:v.D.down=false)(hn:v.now+W≤1099511627776):dp v (W:Int)={ v with now:=v.now+(W:Int) }:=by
 unfold dp;rw[fI v hd];have hc:bW=1099511627776:=rfl;rw[if_neg (by rw[hc];omega)]
 by_cases h:0 < W
 ·rw[if_pos om]
 ·obtain rfl:W=0:=om;rw[if_neg om];obtain⟨a,b,c,d,e⟩:=v;simp
theorem At{v:VM}{c:CM}{l:List UInt8}{t:t6}{a:iq}(hq:eC v.key l = .ok (t,a))(hc:iz v.now v.skew t a=0)(h1:v.c=some c)(hd:v.D.down=false):(aU v l).2=7↔v.now≤c.til:=by
 have hl:=fI v hd;unfold aU;rw[hq];simp only;rw[if_pos hc,hl,h1];simp only
 by_cases h:v.now≤c.til
 ·rw[if_pos h];exact⟨fun _=>h,fun _=>rfl⟩
 ·rw[if_neg h];exact⟨fun h7=>absurd h7 (vb _ _ _ _ _),fun h7=>absurd h7 h⟩
theorem zL{v:VM}{c:CM}(hc:v.c=some c)(hd:v.D.down=false)(ht:c.til=v.now+v.skew)(hkey:v.key=gE)(hs:1≤v.skew∧v.skew≤1073741824)(hnow:0≤v.now∧v.now≤1073741824)(W:Nat)(hw:W≤255)(q:Nat)(hq:q < 4294967296)(N:Nat)(hN:(N:Int)=v.now+(W:Int)):
  decide ((aU (dp v (W:Int)) (pn N N N q)).2=7)=decide ((N:Int)≤v.now+v.skew):=by
 rw[tP v W hd om];have hqo:=sU N N N q (Nat.le_refl _) om om hq;have hck:=oH (v.now+(W:Int)) v.skew N N N q hs.1 hs.2 om om hN om;have h:=At (v:={ v with now:=v.now+(W:Int) }) (c:=c) (l:=pn N N N q) (by rw[← hkey] at hqo;exact hqo) hck hc hd
 have e:({ v with now:=v.now+(W:Int) } : VM).now=N:=hN.symm
 rw[e,ht] at h
 by_cases h7:(N:Int)≤v.now+v.skew
 ·rw[decide_eq_true h7];exact decide_eq_true (h.2 h7)
 ·rw[decide_eq_false h7];exact decide_eq_false (fun x=>h7 (h.1 x))
end
section
structure Ms (w u:World) (K:Nat→Prop) (base:Nat) (p:DP) (V:Nat) (q:CP) (n:Nat) (v:VM) (B mb:Nat):Prop where
 pb:p.B=B
 va:So u base p V q n v
 X:∀ i,K i→i < u.heap.size∧¬ VX p V q v.c i
 km:K mb
 m:P2 u mb (.pointer (some ⟨V,0,none⟩)) (.pointer (some ⟨B,0,none⟩))
 b:Below w.heap.size w u
 lo:w.heap.size < base
 z:base≤u.heap.size
section
variable {w u u':World} {K K':Nat→Prop} {base n V B mb:Nat} {p:DP} {q:CP} {v v':VM}
theorem Ms.below(h:Ms w u K base p V q n v B mb)(hb:Below u.heap.size u u'):Ms w u' K base p V q n v B mb :=
 ⟨h.pb,h.va.below hb,fun i hi=>⟨Nat.lt_of_lt_of_le (h.X i hi).1 hb.size,(h.X i hi).2⟩,h.km,h.m.below hb,bt h.b hb,h.lo,Nat.le_trans h.z hb.size⟩
theorem Ms.next(h:Ms w u K base p V q n v B mb)(hN:aF u base p V q v.c n v' u'):∃ p' q',Ms w u' K base p' V q' n v' B mb∧∀ i,K i→u'.heap[i]? = u.heap[i]?:=by
 obtain⟨p',q',h1,h2,h3,h4⟩:=hN;have hs:∀ i,K i→u'.heap[i]? = u.heap[i]?:=fun i hi=>h3.block i (h.X i hi).1 (h.X i hi).2;refine⟨p',q',⟨h1.trans h.pb,h2,fun i hi=>⟨Nat.lt_of_lt_of_le (h.X i hi).1 h3.size,fun hx=>?_⟩,h.km,h.m.same (hs mb h.km),h.b.trans (h3.below (fun i hi=>by have:=h.va.lo' hi;have:=h.lo;omega) h.b.size),h.lo,Nat.le_trans h.z h3.size⟩,hs⟩
 rcases h4 i hx with hh | hh
 ·exact (h.X i hi).2 hh
 ·have:=(h.X i hi).1;omega
theorem Ms.wide(h:Ms w u K base p V q n v B mb)(hK:∀ i,K' i→K i∨(i < u.heap.size∧¬ VX p V q v.c i))(hm:K' mb):Ms w u K' base p V q n v B mb :=
 ⟨h.pb,h.va,fun i hi=>by
  rcases hK i hi with hh | hh
  ·exact h.X i hh
  ·exact hh,hm,h.m,h.b,h.lo,h.z⟩
theorem Ms.made(h:So u base p V q n v)(hb:Below w.heap.size w u)(hlo:w.heap.size < base)(hz:base≤u.heap.size)(hm:P2 u' u.heap.size (.pointer (some ⟨V,0,none⟩)) (.pointer (some ⟨p.B,0,none⟩)))(hb2:Below u.heap.size u u'):Ms w u' (fun i=>i=u.heap.size) base p V q n v p.B u.heap.size :=
 ⟨rfl,h.below hb2,fun i hi=>⟨by rw[hi];exact hm.lt,fun hx=>by have:=h.lt hx;omega⟩,rfl,hm,bt hb hb2,hlo,Nat.le_trans hz hb2.size⟩
end
end
section
open Go.RowKit Go.ChangeMaps
@[go_sem ↓ high] theorem Il(w:World)(x y:RW):(Op.equalIn 10000 22 (.agg (fw B8 x)) (.agg (fw B8 y))).run prog w = .ok (x == y) w:=by
 rw[← nZ,← nZ];cases hq:prog.info? 5 with
 | none=>have:=cQ;simp[hq] at this
 | some i =>
  rw[run_equalIn_array w 9999 (av x) (av y) underlying22 hq,gu w 9998 x y _ sm,ld]
@[go_sem] theorem F2:prog.eqGuardType prog.depth 22=false:=kr
theorem Id(w:World)(s e t q:Int):(Instr.build 62 #[(2,.int .i64 s),(3,.int .i64 e),(4,.int .i64 t),(5,.int .u32 q)]).run prog w = .ok (.agg (SP s e t q)) w:=kr
@[go_sem ↓] theorem JC(w:World)(s e t q:Int):(uk #[(2,.int .i64 s),(3,.int .i64 e),(4,.int .i64 t),(5,.int .u32 q)]).run prog w = .ok (.agg (SP s e t q)) w:=Id w s e t q
def A5(v x:Value):Sem Unit:=Instr.storeAt 62 v x
def uc:Sem Value:=Instr.alloc 62 true (.tuple #[])
@[go_sem ↓] theorem NJ(v x:Value):Instr.storeAt 62 v x=A5 v x:=rfl
@[go_sem ↓] theorem PJ:Instr.alloc 62 true (.tuple #[])=uc:=rfl
theorem MU:(prog.info? 62).bind (·.zero)=some (.agg (SP 0 0 0 0)):=kr
@[go_sem ↓] theorem L0(w:World)(b o:Nat)(s e t q:Int)(h:canAt w b o 8=true):(A5 (.pointer (some ⟨b,o,none⟩)) (.agg (SP s e t q))).run prog w = .ok () (setAt w b o (SP s e t q)) :=
 aH w b o 8 62 _ h rfl Cz (by simp[SP,Value.oneCell'])
@[go_sem] theorem LE(w:World):uc.run prog w = .ok (.pointer (some ⟨w.heap.size,0,none⟩)) (w.alloc (.cells (SP 0 0 0 0) 62)):=by
 obtain⟨i,hi,hz⟩:=Option.bind_eq_some_iff.1 MU;unfold uc;simp[Instr.alloc,zeroValue,typeInfo,hi,hz,newVar,newRow,Value.cells]
theorem DC(w:World)(key:RW)(skew n:Int)(ad:Option Addr)(kn c:Nat)(L:List R3)(a2 a3:Int)(hL:L.length=kn)(hO:rC w (.slice ad kn c) L)(hkn:kn≤9223372036854775807)(h2:0≤a2∧a2≤255)(h3:0≤a3∧a3≤4294967295)(hg:GK w):
  Calls prog 6 #[.agg (bQ key skew n),.slice ad kn c,.int .u8 a2,.int .u32 a3] w fun e w'=>e = .returned (.bool true)∧Below w.heap.size w w':=by
 obtain⟨W,rfl⟩ : ∃ m:Nat,a2=(m:Int):=⟨a2.toNat,om⟩;obtain⟨q,rfl⟩ : ∃ m:Nat,a3=(m:Int):=⟨a3.toNat,om⟩;have hM:=eV.made w key skew n;have hb1:=ba (.cells (bQ key skew n) 24) (Sy w);have HO:=SM (hO.below hb1);have HL:=SM hL;have HG:=SM (hg.below hg.1 hb1);have HW:=SM h2;have HQ:=SM h3;clear hO hL hg h2 h3
 go_in
 go_upto_region 1 with fail
 generalize w.alloc (.cells (bQ key skew n) 24)=w0 at *;have hdb:=(Sy w0).drew;have HM:=SM (hM.below hdb);have HB:=SM (bt hb1 hdb);replace HO:=SM (HO.o.below hdb);replace HG:=SM (HG.o.below HG.o.1 hdb);clear hM hb1 hdb;refine yW (.run 0 (tk 1 4 (.run 5 (tk 6 10 (.run 16 (tk 17 2 .done)))))) (fun u=>eV u w.heap.size key skew n) HM.o ?_;generalize w0.drew=w1 at *;refine yR ?_;refine (eT w1 HG.o).mono ?_
 rintro _ w2 ⟨rfl,hb⟩;replace HM:=SM (HM.o.below hb);replace HO:=SM (HO.o.below hb);replace HG:=SM (HG.o.below HG.o.1 hb);replace HB:=SM (bt HB.o hb);clear hb;refine kS HM.o ?_;walk_nrm
 repeat((first|refine yO ?_|refine yM ?_|refine yF rfl rfl (fun w' hC'=>by have q0:=hC'.r;have q1:=hC'.f1;have q2:=hC'.f0;go_simp;first|done|exact rfl) ?_);walk_nrm)
 refine yR ?_;refine (jZ w2 key skew n ad kn c L HL.o HO.o hkn).mono ?_;rintro _ w3 ⟨⟨bb,rfl,hbb⟩,hb⟩;replace HM:=SM (HM.o.below hb);replace HO:=SM (HO.o.below hb);replace HG:=SM (HG.o.below HG.o.1 hb);replace HB:=SM (bt HB.o hb);clear hb;refine kS HM.o ?_;walk_nrm;have hbad:∀ (u:World),Below w3.heap.size w3 u→Calls prog 7 #[] u fun e w'=>e = .returned (.bool true)∧Below w.heap.size w w':=fun u hu=>(eT u (HG.o.below HG.o.1 hu)).mono (fun e w' ⟨h1,h2⟩=>⟨h1,bt (bt HB.o hu) h2⟩)
 have Hbad:=SM hbad;clear hbad;cases bb with
 | false =>
  clear hbb
  repeat((first|refine yO ?_|refine yM ?_|refine yF rfl rfl (fun w' hC'=>by have q0:=hC'.r;have q1:=hC'.f1;have q2:=hC'.f0;go_simp;first|done|exact rfl) ?_);walk_nrm)
  refine Lw rfl rfl HM.o ?_
  walk_nrm
  repeat((first|refine yO ?_|refine yM ?_|refine yF rfl rfl (fun w' hC'=>by have q0:=hC'.r;have q1:=hC'.f1;have q2:=hC'.f0;go_simp;first|done|exact rfl) ?_);walk_nrm)
  refine al ?_
  go_wp2_with fail
  refine (Hbad.o w3 (Below.refl _ _)).mono ?_;rintro _ w4 ⟨rfl,hb⟩
  go_wp2
  go_ret
  exact⟨rfl,hb⟩
 | true =>
  have HA:=SM (hbb rfl);clear hbb
  by_cases hs:skew≤100
  ·have d1:decide (100 < skew)=false:=df
   repeat((first|refine yO ?_|refine yM ?_|refine yF rfl rfl (fun w' hC'=>by have q0:=hC'.r;have q1:=hC'.f1;have q2:=hC'.f0;go_simp;first|done|exact rfl) ?_);walk_nrm)
   refine yR ?_;refine (qO w3).mono ?_;rintro _ w4 ⟨rfl,hb⟩;have Hb4:=SM hb;replace HM:=SM (HM.o.below hb);replace HO:=SM (HO.o.below hb);replace HG:=SM (HG.o.below HG.o.1 hb);replace HB:=SM (bt HB.o hb);clear hb;refine kS HM.o ?_;walk_nrm
   by_cases hk:key=gE
   ·have d2:(key == gE)=true:=by simpa using hk
    have Hk:=SM hk;clear hk
    repeat((first|refine yO ?_|refine yM ?_|refine yF rfl rfl (fun w' hC'=>by have q0:=hC'.r;have q1:=hC'.f1;have q2:=hC'.f0;go_simp;first|done|exact rfl) ?_);walk_nrm)
    refine al ?_;obtain⟨n,rfl⟩ : ∃ m:Nat,n=(m:Int):=⟨n.toNat,by have:=HA.o.n;omega⟩
    have hn2:2≤n:=by have:=HA.o.n;omega
    have hn30:n≤30:=by have:=HA.o.n;omega
    have hk40:kn≤40:=by have:=HA.o.l;have:=HL.o;omega
    have q1:=HM.o.r;clear Hbad Hb4 d1 d2
    go_wp2_with fail
    refine (mv w4 key skew n kn c ad L HA.o HL.o HO.o HG.o).mono ?_;rintro _ w5 ⟨⟨p,V,qq,base,rfl,hV,hlo,hz⟩,hb⟩;clear q1
    go_upto_region 4 with fail
    have hVI:VI n (120 * (L.map Prod.fst).length) (ce n (bN key skew (dG n)) (L.map Prod.fst)):=(VI.new (n:=n) key skew HA.o.s.1 HA.o.s.2 om).after om hn2 _;have hWI:WI n (L.map Prod.fst).length (ce n (bN key skew (dG n)) (L.map Prod.fst)):=(WI.new n om hn2 key skew).after (VI.new (n:=n) key skew HA.o.s.1 HA.o.s.2 om) om hn2 _ (by rw[List.length_map,HL.o];omega)
    obtain⟨e1,e2⟩:=uB n (bN key skew (dG n)) (L.map Prod.fst);generalize ce n (bN key skew (dG n)) (L.map Prod.fst)=v at *;rw[List.length_map,HL.o] at hVI hWI;have e1:v.key=key:=e1;have e2:v.skew=skew:=e2;have hP:=P2.made w5 47 (.pointer (some ⟨V,0,none⟩)) (.pointer (some ⟨p.B,0,none⟩));have hb6:=ba (.cells #[.pointer (some ⟨V,0,none⟩),.pointer (some ⟨p.B,0,none⟩)] 47) (Sy w5);have hS:=Ms.made (w:=w4) hV hb hlo hz hP hb6
    generalize w5.alloc (.cells #[.pointer (some ⟨V,0,none⟩),.pointer (some ⟨p.B,0,none⟩)] 47)=w6 at *;clear hV hb hz hP hb6;generalize w5.heap.size=mb at *;have HS:=SM hS;have HV:=SM hVI;have HW2:=SM hWI;have He:=SM (And.intro e1 e2);have c0:=hS.m.c0;clear hS hVI hWI e1 e2
    go_wp2_with fail
    refine (iV w6 base n (120 * kn) V p qq v HS.o.va HV.o om om hn2 HS.o.z).mono ?_;rintro _ w7 ⟨⟨k,rfl⟩,hN⟩;obtain⟨p7,q7,hS7,_⟩:=HS.o.next hN;have c0':=hS7.m.c0;have HS7:=SM hS7;clear hN hS7 c0
    by_cases h0:(bG n v).2=0
    ·obtain⟨cm,g1,g2,g3⟩:=Bw HW2.o HV.o om h0;obtain⟨k1,k2,k3⟩:=yD n v;have hVI7:=HV.o.boot om hn2;rw[h0,dM];generalize (bG n v).1=v7 at *;have hlk:=fI v7 g2;have hnow:=hVI7.now;have hcm:bW=1099511627776:=rfl;rw[hcm] at hnow;have G1:=SM g1;have G2:=SM g2;have G3:Hd (cm.til=v7.now+v7.skew):=SM (by rw[k2,k3];exact g3)
     have He7:Hd (v7.key=gE∧v7.skew=skew):=SM ⟨by rw[k1,He.o.1,Hk.o],by rw[k2,He.o.2]⟩
     have HV7:=SM hVI7;have Hlk:=SM hlk;clear g1 g2 g3 k1 k2 k3 hVI7 hlk hcm h0 HW2 HV He Hk
     go_wp2_with fail
     refine (lV w7 base n V p7 q7 v7 HS7.o.va).mono ?_;rintro _ w8 ⟨rfl,hN⟩;rw[Hlk.o] at hN;obtain⟨p8,q8,hS8,_⟩:=HS7.o.next hN;have c8:=hS8.m.c0;have HS8:=SM hS8;clear hN hS8 c0' HS7
     by_cases hbig:1073741824 < v7.now
     ·have d1:decide (1073741824 < v7.now)=true:=decide_eq_true hbig;have hf:=bt HB.o HS8.o.b
      go_wp2
      go_ret
      exact⟨rfl,hf⟩
     ·have d1:decide (1073741824 < v7.now)=false:=decide_eq_false hbig
      go_wp2_with fail
      refine (lV w8 base n V p8 q8 v7 HS8.o.va).mono ?_;rintro _ w9 ⟨rfl,hN⟩;rw[Hlk.o] at hN;obtain⟨p9,q9,hS9,_⟩:=HS8.o.next hN;have c9:=hS9.m.c0;have HS9:=SM hS9;clear hN hS9 c8 HS8;have wW:IntKind.i64.wrap (W:Int)=(W:Int):=by rw[IntKind.wrap_i64];have:=HW.o;omega
      go_wp2_with fail
      refine (kq w9 base n _ V p9 q9 v7 (W:Int) HS9.o.va HV7.o).mono ?_;rintro _ w10 ⟨rfl,hN⟩;obtain⟨p10,q10,hS10,_⟩:=HS9.o.next hN;have htk:=tP v7 W G2.o (by have:=HW.o;omega)
      have hnn:(dp v7 (W:Int)).now=v7.now+(W:Int):=by rw[htk]
      have hVt:=HV7.o.tick (W:Int);have hv2:(dp v7 (W:Int)).c=v7.c∧(dp v7 (W:Int)).key=v7.key:=by rw[htk];exact⟨rfl,rfl⟩
      obtain⟨N,hN0⟩ : ∃ N:Nat,(N:Int)=v7.now+(W:Int):=⟨(v7.now+(W:Int)).toNat,om⟩;have hq:=zL G1.o G2.o G3.o He7.o.1 (by rw[He7.o.2];exact HA.o.s) ⟨hnow.1,om⟩ W (by have:=HW.o;omega) q (by have:=HQ.o;omega) N hN0
      rw[hnn,← hN0];have hN40:N≤1099511627776:=by have:=HW.o;omega
      have Hqu:=SM hq;have HS10:=SM hS10;have HVt:=SM hVt;have HN0:=SM hN0;clear hN htk hnn hv2 hq hS10 hVt hN0 c9 HS9 G1 G2 G3 Hlk HV7 wW d1;generalize dp v7 (W:Int)=vt at *;have c10:=HS10.o.m.c0;have hb11:=ba (.cells (SP N N N q) 62) (Sy w10);have hK:=oz.made w10 N N N q;have hse:=eK w10 (SP 0 0 0 0) 62 w10.heap.size (SP N N N q) rfl rfl;have hcan:canAt (w10.alloc (.cells (SP 0 0 0 0) 62)) w10.heap.size 0 8=true:=aq _ _ _ _ _ _ rfl (by simp[SP])
      go_upto_region 11 with fail
      have hb12:=(bt hb11 (Below.refl _ _).drew);have hK2:=hK.below (Below.refl _ _).drew;have hS12:=HS10.o.below hb12;have hS13:Ms w4 (w10.alloc (.cells (SP N N N q) 62)).drew (fun i=>i=mb∨i=w10.heap.size) base p10 V q10 n vt p.B mb:=hS12.wide (fun i hi=>hi.imp id (fun e=>⟨by rw[e];exact hK2.lt,fun hx=>by have:=HS10.o.va.lt hx;omega⟩)) (.inl rfl)
      refine yW (tk 0 3 (.run 3 (.run 4 (.take 5 .done)))) (fun u=>P2 u mb (.pointer (some ⟨V,0,none⟩)) (.pointer (some ⟨p.B,0,none⟩))∧oz u w10.heap.size N N N q) ⟨hS12.m,hK2⟩ ?_;generalize (w10.alloc (.cells (SP N N N q) 62)).drew=w12 at *;have HS13:=SM hS13;have HK2:=SM hK2;clear hse hcan hb11 hb12 hK hS12 hS13 hK2 HS10 c10;generalize w10.heap.size=kb at *
      repeat((first|refine yO ?_|refine yM ?_|refine yF rfl rfl (fun w' hC'=>by obtain⟨hM',hK'⟩:=hC';have c0:=hM'.c0;have qk:=hK'.r;go_simp;first|done|exact rfl) ?_);walk_nrm)
      refine yR ?_;refine (th N N N q w12 hN40 hN40 hN40 (by have:=HQ.o;omega)).mono ?_
      rintro _ w13 ⟨⟨rv,rfl,ho⟩,hb13⟩;obtain⟨ra,rc,rfl,hbs⟩:=ho.bs;have hS14:=HS13.o.below hb13;have hK3:=HK2.o.below hb13;refine⟨_,rfl,fun u=>P2 u mb (.pointer (some ⟨V,0,none⟩)) (.pointer (some ⟨p.B,0,none⟩))∧oz u kb N N N q,fun _ h=>h,⟨hS14.m,hK3⟩,?_⟩;walk_nrm;clear HS13 HK2 hb13 ho
      repeat(refine yA ?_;walk_nrm)
      refine yR ?_;have hle:=DS N N N q;obtain⟨rq,hrq⟩:=eY (pn N N N q);have hqu:=Hqu.o;rw[hrq] at hqu hle hbs ⊢;clear hrq Hqu;refine (ig w13 base n _ V p10 q10 vt ra rq.length rc rq hS14.va HVt.o (HG.o.below HG.o.1 hS14.b) hbs om om om om hS14.z).mono ?_;rintro _ w14 ⟨rfl,hN⟩;obtain⟨p14,q14,hS15,hs15⟩:=hS14.next hN;have hK4:=hK3.same (hs15 kb (.inr rfl));refine⟨_,rfl,fun u=>P2 u mb (.pointer (some ⟨V,0,none⟩)) (.pointer (some ⟨p.B,0,none⟩))∧oz u kb N N N q,fun _ h=>h,⟨hS15.m,hK4⟩,?_⟩;walk_nrm
      repeat(refine yA ?_;walk_nrm)
      refine al ?_;have hf:=SM (bt HB.o hS15.b);have hM15:=HM.o.below hS15.b;have m1:=hM15.f1;obtain⟨cd,hcd⟩:=eY ((aU vt rq).2);rw[hcd] at hqu ⊢;rw[He7.o.2] at hqu;have hN0:=HN0.o;have hsk:=HA.o.s;have hWl:=HW.o;generalize v7.now=F at *;have w1:IntKind.i64.wrap (F+skew)=F+skew:=wi;have w2':IntKind.i64.wrap (W:Int)=(W:Int):=wi;have w3':IntKind.i64.wrap (F+(W:Int))=F+(W:Int):=wi;have d5:((N:Int) == F+(W:Int))=true:=by simpa using hN0
      clear hN hS14 hS15 hs15 hK3 hK4 hbs hle hcd HVt hM15 hN0 hsk hWl hnow hN40 hbig;cases h7:decide ((N:Int)≤F+skew) with
      | false =>
       rw[h7] at hqu;have d6:(cd == 7)=false:=by have:=of_decide_eq_false hqu;simpa using this
       clear hqu
       go_wp2
       go_ret
       exact⟨rfl,hf.o⟩
      | true =>
       rw[h7] at hqu;have d6:(cd == 7)=true:=by have:=of_decide_eq_true hqu;simpa using this
       clear hqu
       go_wp2
       go_ret
       exact⟨rfl,hf.o⟩
    ·obtain⟨T,U,he⟩:=cG (k:=k) h0;rw[he];have hf:=bt HB.o HS7.o.b
     go_wp2
     go_ret
     exact⟨rfl,hf⟩
   ·have d2:(key == gE)=false:=by simpa using hk
    clear hk
    repeat((first|refine yO ?_|refine yM ?_|refine yF rfl rfl (fun w' hC'=>by have q0:=hC'.r;have q1:=hC'.f1;have q2:=hC'.f0;go_simp;first|done|exact rfl) ?_);walk_nrm)
    refine al ?_
    go_wp2_with fail
    refine (Hbad.o w4 Hb4.o).mono ?_;rintro _ w5 ⟨rfl,hb⟩
    go_wp2
    go_ret
    exact⟨rfl,hb⟩
  ·have d1:decide (100 < skew)=true:=dt
   repeat((first|refine yO ?_|refine yM ?_|refine yF rfl rfl (fun w' hC'=>by have q0:=hC'.r;have q1:=hC'.f1;have q2:=hC'.f0;go_simp;first|done|exact rfl) ?_);walk_nrm)
   refine Lw rfl rfl HM.o ?_
   walk_nrm
   repeat((first|refine yO ?_|refine yM ?_|refine yF rfl rfl (fun w' hC'=>by have q0:=hC'.r;have q1:=hC'.f1;have q2:=hC'.f0;go_simp;first|done|exact rfl) ?_);walk_nrm)
   refine al ?_
   go_wp2_with fail
   refine (Hbad.o w3 (Below.refl _ _)).mono ?_;rintro _ w4 ⟨rfl,hb⟩
   go_wp2
   go_ret
   exact⟨rfl,hb⟩
end
end Go.Proofs.YtlcfaaodmickbaaGreatDoor
