/- The part of the proof that is of the law TopTorn alone. No conditions. -/
import Derived.Stop.Joined
import Derived.Test.YtlcfaaodmickbaaGreatDoorPc24
set_option linter.unusedSimpArgs false
set_option linter.unusedVariables false
set_option maxRecDepth 100000
set_option maxHeartbeats 8000000
namespace Go.Proofs.YtlcfaaodmickbaaGreatDoor
open Go.RowKit Go.Proofs.Tryz
section
structure WI (n k:Nat) (v:VM):Prop where
 cr:Cr (n / 2) k tZ v.D
 ag:∀ c,v.c=some c→v.D.down=false→c.M.broken=false→Ag (n / 2) v.now v.D c∧tp c≤k
theorem WI.more{n k k':Nat}{v:VM}(h:WI n k v)(hk:k≤k'):WI n k' v:=⟨h.cr.more hk (fun _ h=>h),fun c h1 h2 h3=>⟨(h.ag c h1 h2 h3).1,Nat.le_trans (h.ag c h1 h2 h3).2 hk⟩⟩
theorem WI.look{n k:Nat}{v:VM}(h:WI n k v):WI n k (au v):=by
 unfold au
 split
 ·exact⟨h.cr,fun c hc=>by cases hc⟩
 ·exact h
theorem WI.with'{n k:Nat}{v:VM}{c:CM}{R:DM × CM × Int}(h:(Ag (n / 2) v.now R.1 R.2.1∧tp R.2.1≤k)∨((R.1.down=false→R.2.1.M.broken=true)∧Cr (n / 2) k tZ R.1)):WI n k { v with D:=R.1,c:=some R.2.1 }:=by
 rcases h with ⟨h1,h2⟩ | ⟨h1,h2⟩
 ·exact⟨h1.cr h2,fun c hc _ _=>by cases hc;exact⟨h1,h2⟩⟩
 ·exact⟨h2,fun c hc hd hb=>by cases hc;have:=h1 hd;rw[hb] at this;cases this⟩
theorem jU(D:DM)(k:Int)(cr:Bool)(cuts:List Int):(bP D k cr cuts).st=D.st∧(bP D k cr cuts).op=D.op∧(bP D k cr cuts).down=D.down:=by
 unfold bP;split <;> exact⟨rfl,rfl,rfl⟩
theorem Ag.same{half:Nat}{now:Int}{D D':DM}{c:CM}(h:Ag half now D c)(h1:D'.st=D.st)(h2:D'.op=D.op)(h3:D'.down=D.down):Ag half now D' c :=
 ⟨by rw[h3];exact h.d,by rw[h2];exact h.o,h.b,h.h,by rw[h1];exact h.e⟩
theorem WI.plan{n k:Nat}{v:VM}(h:WI n k v)(s:Int)(cr:Bool)(cuts:List Int):WI n k { v with D:=bP v.D s cr cuts }:=by
 obtain⟨h1,h2,h3⟩:=jU v.D s cr cuts;exact⟨h.cr.same h1 h2,fun c hc hd hb=>⟨((h.ag c hc (by rw[← h3];exact hd) hb).1).same h1 h2 h3,(h.ag c hc (by rw[← h3];exact hd) hb).2⟩⟩
theorem gO{n m:Nat}{v:VM}(hV:VI n m v)(N:Int):v.now≤(dp v N).now:=by
 have:=hV.now
 show v.now≤(if bW - v.now < N then bW else if 0 < N then v.now+N else v.now)
 split
 ·exact this.2
 ·split <;> omega
theorem WI.boot{n k m:Nat}{v:VM}(h:WI n k v)(hV:VI n m v)(hk:k+1 < 256):WI n (k+1) (bG n v).1:=by
 have hc:Cr (n / 2) k tZ (bT v.D):=h.cr.same rfl rfl;unfold bG openC
 rcases jS (bT v.D) n k tZ rfl hV.D.len hk hc with ⟨M,es,h1,h2⟩ | ⟨c,h1,h2,h3,h4⟩
 ·rw[h1];have ha:Ag (n / 2) v.now (openD (bT v.D) n).1 { M:=M,ix:=aO (gR es) v.now,til:=v.now+v.skew }:=⟨h2.d,h2.o,h2.b,h2.h,es,h2.g,h2.c,(drop_drop _ _).symm⟩;exact⟨ha.cr h2.t,fun c hc _ _=>by cases hc;exact⟨ha,h2.t⟩⟩
 ·rw[h1];exact⟨h4,fun c hc=>by cases hc⟩
theorem dL(D:DM)(c:CM)(now:Int)(h:c.M.broken=true):compactC D c now=(D,c,11):=by
 unfold compactC;have e:rewriteL D c.M (cy c.ix now)=(D,c.M,11):=by unfold rewriteL;rw[if_pos h]
 rw[e,if_neg (show ¬ ((D,c.M,(11:Int)):DM × LM × Int).2.2=0 from by show ¬ (11:Int)=0;decide)]
theorem WI.compact{n k m:Nat}{v:VM}(h:WI n k v)(hV:VI n m v)(hk:k+1 < 256):WI n (k+1) (aW v).1:=by
 unfold aW;cases hc:(au v).c with
 | none=>exact (h.look).more (Nat.le_succ _)
 | some c =>
  obtain⟨h1,h2,_⟩:=gF hc;refine WI.look ?_
  by_cases hb:c.M.broken=true
  ·rw[dL v.D c v.now hb];exact⟨h.cr.more (Nat.le_succ _) (fun _ h=>h),fun c' hc' _ hb'=>by cases hc';rw[hb] at hb';cases hb'⟩
  ·have hb':c.M.broken=false:=by simpa using hb
   obtain⟨ha,ht⟩:=h.ag c h1 h2 hb';refine WI.with' (c:=c) ?_
   rcases ey ha (hV.c c h1) (k:=k+1) om hk with ⟨b1,b2,b3,b4,_⟩ | ⟨b1,b2,b3,b4,b5,b6,b7⟩
   ·exact .inl ⟨b3,om⟩
   ·exact .inr ⟨b4,b7.more (Nat.le_refl _) (fun _ _=>trivial)⟩
theorem gW(D:DM)(c:CM)(d:RP)(x:Nat)(now:Int)(h:c.M.broken=true):∃ a,insertC D c d x now=(D,c,a):=by
 unfold insertC
 by_cases h1:Ge c d now=true
 ·rw[if_pos h1];exact⟨_,rfl⟩
 ·rw[if_neg h1,if_pos (.inl h)];exact⟨_,rfl⟩
theorem WI.verify{n k m:Nat}{v:VM}(h:WI n k v)(hV:VI n m v)(hk:k+1 < 256)(l:List UInt8):WI n (k+1) (aU v l).1:=by
 have hl:WI n (k+1) (au v):=(h.look).more (Nat.le_succ _);unfold aU;cases hq:eC v.key l with
 | error c=>exact hl
 | ok r =>
  obtain⟨t,a⟩:=r;simp only
  split
  ·cases hc:(au v).c with
   | none=>exact hl
   | some c =>
    simp only
    split
    ·exact hl
    ·obtain⟨h1,h2,_⟩:=gF hc;refine WI.look ?_
     by_cases hb:c.M.broken=true
     ·obtain⟨z,hz⟩:=gW v.D c (iA a) (a.2.2.1+v.skew.toNat) v.now hb;rw[hz];exact⟨h.cr.more (Nat.le_succ _) (fun _ h=>h),fun c' hc' _ hb'=>by cases hc';rw[hb] at hb';cases hb'⟩
     ·have hb':c.M.broken=false:=by simpa using hb
      obtain⟨ha,ht⟩:=h.ag c h1 h2 hb';refine WI.with' (c:=c) ?_
      rcases kI ha (hV.c c h1) (k:=k+1) om hk (iA a) (a.2.2.1+v.skew.toNat) _ rfl with ⟨b1,b2,b3,_⟩ | ⟨b1,b2,b3,b4⟩
      ·exact .inl ⟨b2,om⟩
      ·exact .inr ⟨b3,b4⟩
  ·exact hl
theorem WI.step{n k m:Nat}{v:VM}(h:WI n k v)(hV:VI n m v)(hk:k+1 < 256)(o:R5):WI n (k+1) (aQ n v o).1:=by
 unfold aQ
 split
 ·have hl:=h.look;refine⟨?_,fun c hc hd hb=>?_⟩
  ·have:(dp v o.N).D=v.D:=oV v;rw[this];exact h.cr.more (Nat.le_succ _) (fun _ h=>h)
  ·have hc':(au v).c=some c:=hc;obtain⟨h1,h2,h3⟩:=gF hc';obtain⟨ha,ht⟩:=h.ag c h1 h2 hb;have e:(dp v o.N).D=v.D:=oV v;rw[e];exact⟨ha.later (gO hV o.N),om⟩
 split
 ·exact h.boot hV hk
 split
 ·exact h.verify hV hk o.data
 split
 ·exact h.compact hV hk
 split
 ·exact (h.plan _ _ _).more (Nat.le_succ _)
 split
 ·exact⟨(h.cr.crash o.cuts).more (Nat.le_succ _) (fun _ h=>h),fun c hc hd=>by cases hd⟩
 ·exact (h.plan _ _ _).more (Nat.le_succ _)
theorem WI.new(n:Nat)(hn:n≤4096)(h2:2≤n)(key:RW)(skew:Int):WI n 0 (bN key skew (dG (n:Int))) :=
 ⟨Cr.nil rfl trivial (iJ n hn h2 0),fun c hc=>by cases hc⟩
theorem CR{v:VM}(h:v.c=none):(au v).c=none:=by
 unfold au;split
 ·rfl
 ·exact h
theorem sD{v:VM}(h:(au v).c=none):dD v=[]:=by unfold dD;rw[h]
theorem jN(v:VM):dD (au v)=dD v:=by unfold dD;rw[fH,fY]
theorem Aq{n k m:Nat}{v:VM}(h:WI n k v)(hV:VI n m v)(hn:n≤100)(hk:k+2 < 256)(s:Int)(cuts:List Int)(v1:VM)(hv1:(aW { v with D:=bP v.D s true cuts }).1=v1):
  (((au v).c=none∨(au v1).c≠none)→dD v1=dD v) ∧
  ((bG n v1).2≠0→(au (bG n v1).1).c=none) ∧
  ((au v).c≠none→(au v1).c=none→(bG n v1).2=0→dD (bG n v1).1=dD v):=by
 have hboot:(bG n v1).2≠0→(au (bG n v1).1).c=none:=by
  unfold bG;cases (openC (bT v1.D) n v1.skew v1.now).2 with
  | error c=>intro _;exact CR rfl
  | ok c=>intro hh;exact absurd rfl hh
 refine⟨?_,hboot,?_⟩
 all_goals
  obtain⟨p1,p2,p3⟩:=jU v.D s true cuts;have hlk:(au { v with D:=bP v.D s true cuts }).c=(au v).c:=by
   unfold au;simp only[p3];split <;> rfl
 ·intro hor;subst hv1;cases hc:(au v).c with
  | none =>
   rw[sD hc];unfold aW;rw[hlk,hc];simp only;rw[jN,sD (by rw[hlk,hc])]
  | some c =>
   rw[hc] at hor;have hor:(au (aW { v with D:=bP v.D s true cuts }).1).c≠none:=by
    rcases hor with h | h
    ·cases h
    ·exact h
   rw[sC hc];obtain⟨h1,h2,_⟩:=gF hc;have e:(aW { v with D:=bP v.D s true cuts }).1=au { v with D:=(compactC (bP v.D s true cuts) c v.now).1,c:=some (compactC (bP v.D s true cuts) c v.now).2.1 }:=by
    unfold aW;rw[hlk,hc]
   rw[e] at hor ⊢;rw[fH] at hor;rw[jN];have hlive:∀ c',(au { v with D:=(compactC (bP v.D s true cuts) c v.now).1,c:=some (compactC (bP v.D s true cuts) c v.now).2.1 }).c=some c'→c'=(compactC (bP v.D s true cuts) c v.now).2.1:=fun c' hc'=>by
    have:=(gF hc').1;cases this;rfl
   obtain⟨c',hc'⟩:=Option.ne_none_iff_exists'.1 hor;rw[sC hc',hlive c' hc']
   by_cases hb:c.M.broken=true
   ·rw[dL _ c v.now hb]
   ·have hb':c.M.broken=false:=by simpa using hb
    obtain⟨ha,ht⟩:=h.ag c h1 h2 hb'
    rcases ey (ha.same p1 p2 p3) (hV.c c h1) (k:=k+1) om om with ⟨b1,b2,b3,b4,b5,_⟩ | ⟨b1,b2,b3,b4,b5,b6,b7⟩
    ·rw[b5];exact lN (drop_drop _ _)
    ·rw[b5]
 ·intro hne hnone hgood;obtain⟨c,hc⟩:=Option.ne_none_iff_exists'.1 hne;rw[sC hc];obtain⟨h1,h2,_⟩:=gF hc;have e:v1=au { v with D:=(compactC (bP v.D s true cuts) c v.now).1,c:=some (compactC (bP v.D s true cuts) c v.now).2.1 }:=by
   rw[← hv1];unfold aW;rw[hlk,hc]
  have hnow:v1.now=v.now:=by rw[e,fY]
  have hD:v1.D=(compactC (bP v.D s true cuts) c v.now).1:=by rw[e,oV]
  have hdn:(compactC (bP v.D s true cuts) c v.now).1.down=true:=by
   rw[e,fH] at hnone;unfold au at hnone
   split at hnone
   ·assumption
   ·cases hnone
  have hb':c.M.broken=false:=by
   cases hb:c.M.broken with
   | false=>rfl
   | true=>rw[dL _ c v.now hb,p3,h2] at hdn;cases hdn
  obtain⟨ha,ht⟩:=h.ag c h1 h2 hb'
  rcases ey (ha.same p1 p2 p3) (hV.c c h1) (k:=k+1) om om with ⟨b1,b2,b3,b4,b5,_⟩ | ⟨b1,b2,b3,b4,b5,b6,b7⟩
  ·rw[b3.d] at hdn;cases hdn
  ·have hlen:(bT v1.D).st.length=n:=by
    have hV2:VI n m { v with D:=bP v.D s true cuts }:=⟨hV.D.plan _ _ _,hV.now,hV.skew,hV.c⟩
    have:=((hV2.compact hn).D).len;rw[hv1] at this;exact this
   rw[← hD] at b7;unfold bG openC at hgood ⊢
   rcases jS (bT v1.D) n (k+1) _ rfl hlen om (b7.same rfl rfl) with ⟨M,es,g1,g2⟩ | ⟨c,g1,g2,g3,g4⟩
   ·rw[g1];have hk':(au { v1 with D:=(openD (bT v1.D) n).1,c:=some { M:=M,ix:=aO (gR es) v1.now,til:=v1.now+v1.skew } }).c=some { M:=M,ix:=aO (gR es) v1.now,til:=v1.now+v1.skew }:=by
     unfold au;rw[if_neg (by show ¬ (openD (bT v1.D) n).1.down=true;rw[g2.d];decide)]
    rw[sC hk']
    show cy (aO (gR es) v1.now) v1.now=_
    rw[hnow]
    rcases g2.p with ⟨p,G,es',q1,q2⟩ | ⟨⟨p,G,es',q1,q2⟩,_⟩
    ·cases q1;exact lN (by rw[drop_drop];exact q2)
    ·cases q1
   ·rw[g1] at hgood;simp only at hgood;exact absurd hgood (mZ g1)
end
section
noncomputable def ce(n:Nat)(v:VM)(L:List R5):VM:=L.foldl (fun v o=>(aQ n v o).1) v
theorem dw(n:Nat)(v:VM)(L:List R5)(o:R5):ce n v (L ++ [o])=(aQ n (ce n v L) o).1:=by simp[ce]
theorem VI.after{n:Nat}{v:VM}(h:VI n 0 v)(hn:n≤100)(h2:2≤n)(L:List R5):VI n (120 * L.length) (ce n v L):=by
 induction L using di with
 | h0=>exact h
 | h1 l a ih=>rw[dw];exact (ih.step hn h2 a).more sO
theorem uU:(prog.info? 47).map (·.size)=some 2:=kr
theorem EF:prog.underlying 47=some (.struct (prog.fieldsOf 47)):=kr
theorem ve{w:World}{b:Nat}{x y:Value}(h:P2 w b x y):(loadVar 47 ⟨b,0,none⟩).run prog w = .ok (.agg #[x,y]) w:=az w b 0 2 47 _ _ h.r EF rfl uU
theorem vZ{n:Nat}{v:VM}{o:R5}(h:o.kind=1):(aQ n v o).1=dp v o.N:=by unfold aQ;rw[if_pos h]
theorem wh{n:Nat}{v:VM}{o:R5}(h:o.kind=2):(aQ n v o).1=(bG n v).1:=by unfold aQ;rw[if_neg om,if_pos h]
theorem wl{n:Nat}{v:VM}{o:R5}(h:o.kind=3):(aQ n v o).1=(aU v o.data).1:=by unfold aQ;rw[if_neg om,if_neg om,if_pos h]
theorem wq{n:Nat}{v:VM}{o:R5}(h:o.kind=4):(aQ n v o).1=(aW v).1:=by unfold aQ;rw[if_neg om,if_neg om,if_neg om,if_pos h]
theorem ws{n:Nat}{v:VM}{o:R5}(h:o.kind=5):(aQ n v o).1={ v with D:=bP v.D o.N false [] }:=by unfold aQ;rw[if_neg om,if_neg om,if_neg om,if_neg om,if_pos h]
theorem wt{n:Nat}{v:VM}{o:R5}(h:o.kind=6):(aQ n v o).1=if o.N=0 then { v with D:=de v.D o.cuts } else { v with D:=bP v.D o.N true o.cuts }:=by
 unfold aQ;rw[if_neg om,if_neg om,if_neg om,if_neg om,if_neg om];split <;> rfl
theorem ew{w:World}{b o:Nat}{v:Value}(h:w.cell? ⟨b,o,none⟩=some v):b < w.heap.size:=World.block_lt_of_cell? w _ h
theorem mv(w:World)(key:RW)(skew:Int)(n kn c:Nat)(ad:Option Addr)(L:List R3)(hA:Qi skew n L)(hL:L.length=kn)(hO:rC w (.slice ad kn c) L)(hg:GK w):
  Calls prog 10 #[.agg (bQ key skew n),.slice ad kn c] w fun e w'=>(∃ p V q base,e = .returned (.tuple #[.agg #[.pointer (some ⟨V,0,none⟩),.pointer (some ⟨p.B,0,none⟩)],.bool true])∧So w' base p V q n (ce n (bN key skew (dG n)) (L.map Prod.fst))∧w.heap.size < base∧base≤w'.heap.size)∧Below w.heap.size w w':=by
 have hM:=eV.made w key skew n;have hb1:=ba (.cells (bQ key skew n) 24) (Sy w);have hP:=P2.made (w.alloc (.cells (bQ key skew n) 24)) 47 (.pointer none) (.pointer none);rw[show (w.alloc (.cells (bQ key skew n) 24)).heap.size=w.heap.size+1 by simp] at hP
 have hb2:=ba (.cells #[.pointer none,.pointer none] 47) (Below.refl (w.alloc (.cells (bQ key skew n) 24)).heap.size (w.alloc (.cells (bQ key skew n) 24)));have hM2:=hM.below hb2;have hb12:=bt hb1 hb2;have hsz:((w.alloc (.cells (bQ key skew n) 24)).alloc (.cells #[.pointer none,.pointer none] 47)).heap.size=w.heap.size+2:=sm;have HO:=SM hO;have HL:=SM hL;have HA:=SM hA;have HG:=SM hg;obtain⟨R,hRe⟩:=eY (ce n (bN key skew (dG n)) (L.map Prod.fst))
 rw[hRe];have HRe:=SM hRe;have hs1:=hA.s.1;have hs2:=hA.s.2;have hn1:2≤n:=by have:=hA.n.1;omega
 have hn2:n≤30:=by have:=hA.n.2;omega
 have hkn:kn≤40:=by have:=hA.l;omega
 clear hO hL hg hRe hA hM hb1 hb2
 go_in
 go_upto_region 1 with fail
 generalize (w.alloc (.cells (bQ key skew n) 24)).alloc (.cells #[.pointer none,.pointer none] 47)=w1 at *;have c2:=hM2.f2
 go_wp2_with fail
 refine (qi w1 (n:Nat) om).mono ?_;rintro _ w4 ⟨⟨p,rfl,hD⟩,hb4⟩;rw[show ((n:Nat):Int).toNat=n by omega] at hD
 obtain⟨base,hbase⟩:=eY w1.heap.size;rw[hbase] at hD;have hM4:=hM2.below hb4;have hP4:=hP.below hb4;have hz4:base≤w4.heap.size:=by have:=hb4.size;omega
 have hbz:w.heap.size+2=base:=om;have Hb4:=SM (bt hb12 hb4);clear c2 hM2 hP hb12 hb4 hbase hsz;have c0:=hM4.f0;have c1:=hM4.f1
 go_wp2_with fail
 refine (ro w4 base n p key skew (dG n) hD ⟨hs1,hs2⟩ hz4).mono ?_;rintro _ w6 ⟨⟨V,rfl,hVl,hVA⟩,hb6⟩;have hV6:=SM (hVA ⟨0,0,0,0⟩);have Hb6:=SM (bt Hb4.o hb6);have hz6:base≤w6.heap.size:=by have:=hb6.size;omega
 have HP6:=SM (hP4.below hb6);clear hVA hb6 hD hM4 hP4 Hb4 c0 c1
 go_wp2_with fail
 have HV0:=SM (VI.new (n:=n) key skew hs1 hs2 om)
 go_loopw [8] (fun i wr=>∃ (k:Nat) (p':DP) (q':CP),k≤kn∧i = .int .i64 k∧p'.B=p.B∧So wr base p' V q' n (ce n (bN key skew (dG n)) ((L.map Prod.fst).take k))∧Below w.heap.size w wr∧base≤wr.heap.size∧P2 wr (w.heap.size+1) (.pointer none) (.pointer none)) (fun i _=>kn - (intOf i).toNat)
 case atStart=>exact⟨0,p,⟨0,0,0,0⟩,om,rfl,rfl,hV6.o,Hb6.o,hz6,HP6.o⟩
 case round =>
  clear hV6 Hb6 HP6 hz6;obtain⟨k,p',q',hk,rfl,hB,hV,hbr,hzr,hP⟩:=hrel
  by_cases hlt:k < kn
  ·have d1:decide ((k:Int) < (kn:Int))=true:=dt;have hOr:=HO.o.below hbr;obtain⟨b,oo,had,hrd⟩:=hOr.cell HL.o k hlt;have hmem:L[k]'(by rw[HL.o];exact hlt) ∈ L:=List.getElem_mem _
   have hOx:=hOr.o _ hmem;have hRx:=HA.o.o _ hmem;have hdl:=HA.o.d _ hmem;have htk:(L.map Prod.fst).take (k+1)=(L.map Prod.fst).take k ++ [(L[k]'(by rw[HL.o];exact hlt)).1]:=by
    rw[List.take_add_one,List.getElem?_eq_getElem (by rw[List.length_map,HL.o];exact hlt)]
    simp
   obtain⟨x,hx⟩:=eY (L[k]'(by rw[HL.o];exact hlt))
   have hOw:=HO.o.o x (hx ▸ List.getElem_mem _);have hbl:b < w.heap.size:=by
    obtain⟨b',oo',had',hrd0⟩:=HO.o.cell HL.o k hlt;rw[had] at had';simp only[Option.some.injEq,Addr.mk.injEq,and_true] at had';rw[had'.1];exact ac hrd0
   rw[hx] at hrd hOx hRx htk hdl;clear hmem hx hOr;obtain⟨o,dv,cv⟩:=x;obtain⟨⟨a1,k1,hdv,hBs⟩,hcu⟩:=hOx;simp only at hdv htk hRx hcu hBs hdl;subst hdv had;have o0:wr.cell? ⟨b,oo+k * 4,none⟩=some (.int .i64 o.kind):=ab hrd 0 _ rfl;have o1:wr.cell? ⟨b,oo+k * 4+1,none⟩=some (.int .i64 o.N):=ab hrd 1 _ rfl;have o2:wr.cell? ⟨b,oo+k * 4+2,none⟩=some (.slice a1 o.data.length k1):=ab hrd 2 _ rfl;have o3:wr.cell? ⟨b,oo+k * 4+3,none⟩=some cv:=ab hrd 3 _ rfl
   have k0:(0:Int)≤(k:Int):=om;have k3:(k:Int) < (kn:Int):=om;have wk:IntKind.i64.wrap ((k:Int)+1)=(k:Int)+1:=wi;obtain⟨v,hS⟩:=eY (ce n (bN key skew (dG n)) ((L.map Prod.fst).take k));have hS1:ce n (bN key skew (dG n)) ((L.map Prod.fst).take (k+1))=(aQ n v o).1:=by rw[htk,dw,hS]
   have hVI:VI n (120 * k) v:=by
    have:=HV0.o.after om hn1 ((L.map Prod.fst).take k);rw[hS] at this;exact this.more (by rw[List.length_take];omega)
   rw[hS] at hV;have hlo:∀ i,VX p' V q' v.c i→base≤i:=fun i hi=>hV.lo' hi;have hg:=HG.o.below HG.o.1 hbr;have hnx:∀ (v':VM) (w':World),(aQ n v o).1=v'→aF wr base p' V q' v.c n v' w'→∃ (k':Nat) (p'':DP) (q'':CP),k'≤kn∧Value.int .i64 ((k:Int)+1) = .int .i64 k'∧p''.B=p.B∧So w' base p'' V q'' n (ce n (bN key skew (dG n)) ((L.map Prod.fst).take k'))∧Below w.heap.size w w'∧base≤w'.heap.size∧P2 w' (w.heap.size+1) (.pointer none) (.pointer none):=by
    intro v' w' he hN;have hk:=hN.kb;obtain⟨p'',q'',g1,g2,_,_⟩:=hN;refine⟨k+1,p'',q'',om,by go_num,g1.trans hB,by rw[hS1,he];exact g2,hbr.trans (hk.below (fun i hi=>by have:=hlo i hi;omega) hbr.size),Nat.le_trans hzr hk.size,hP.same (hk.block _ hP.lt (fun hx=>by have:=hlo _ hx;omega))⟩
   have Hnx:=SM hnx;have HV:=SM hV;have HVI:=SM hVI;have HBs:=SM hBs;have Hcu:=SM hcu;have HG2:=SM hg;have hcl:o.cuts.length≤100000:=by have:=hRx.cl;omega
   have HOw:=SM hOw;have Hbr:=SM hbr;have HRx:=SM hRx.k;have Hlo:=SM hlo;clear hrd htk hS hS1 hVI hlo hnx hV hBs hcu hbr hg hP hRx hOw
   rcases HRx.o with ⟨hk1,_,_⟩ | ⟨hk1,_⟩ | ⟨hk1,_⟩ | ⟨hk1,_⟩ | ⟨hk1,_,h5⟩ | ⟨hk1,h5,h6⟩
   ·have hst:=vZ (n:=n) (v:=v) hk1;have Hst:=SM hst;rw[hk1] at o0;clear hst hk1
    go_wp2_with fail
    refine (kq wr base n (120 * k) V p' q' v o.N HV.o HVI.o).mono ?_;rintro _ w7 ⟨rfl,hN⟩;have hfin:=SM (Hnx.o _ _ Hst.o hN);clear hN o0 o1 o2 o3
    go_wp2
    go_roundw
    case rel=>exact hfin.o
    case measure=>simp[intOf];omega
   ·have hst:=wh (n:=n) (v:=v) hk1;have Hst:=SM hst;rw[hk1] at o0;clear hst hk1
    go_wp2_with fail
    refine (iV wr base n (120 * k) V p' q' v HV.o HVI.o om om hn1 hzr).mono ?_;rintro _ w7 ⟨⟨kk,rfl⟩,hN⟩;generalize fg (bG n v).2 kk=ev;have hfin:=SM (Hnx.o _ _ Hst.o hN);clear hN o0 o1 o2 o3
    go_wp2
    go_roundw
    case rel=>exact hfin.o
    case measure=>simp[intOf];omega
   ·have hst:=wl (n:=n) (v:=v) hk1;have Hst:=SM hst;rw[hk1] at o0;clear hst hk1
    go_wp2_with fail
    refine (ig wr base n (120 * k) V p' q' v a1 o.data.length k1 o.data HV.o HVI.o HG2.o HBs.o om om om om hzr).mono ?_;rintro _ w7 ⟨rfl,hN⟩;generalize (aU v o.data).2=ev;have hfin:=SM (Hnx.o _ _ Hst.o hN);clear hN o0 o1 o2 o3
    go_wp2
    go_roundw
    case rel=>exact hfin.o
    case measure=>simp[intOf];omega
   ·have hst:=wq (n:=n) (v:=v) hk1;have Hst:=SM hst;rw[hk1] at o0;clear hst hk1
    go_wp2_with fail
    refine (gk wr base n (120 * k) V p' q' v HV.o HVI.o om om hzr).mono ?_;rintro _ w7 ⟨⟨kk,rfl⟩,hN⟩;generalize fg (aW v).2 kk=ev;have hfin:=SM (Hnx.o _ _ Hst.o hN);clear hN o0 o1 o2 o3
    go_wp2
    go_roundw
    case rel=>exact hfin.o
    case measure=>simp[intOf];omega
   ·have hst:=ws (n:=n) (v:=v) hk1;have Hst:=SM hst;rw[hk1] at o0;clear hst hk1
    go_wp2_with fail
    have hcall:=mC wr o.N (120 * k) [] HV.o.D HVI.o.D om om;rw[hB] at hcall;refine (hcall).mono ?_;rintro _ w7 ⟨rfl,hN⟩;have hN:=bm.ver HV.o hN;clear hcall;have hfin:=SM (Hnx.o _ _ Hst.o hN);clear hN o0 o1 o2 o3
    go_wp2
    go_roundw
    case rel=>exact hfin.o
    case measure=>simp[intOf];omega
   ·have hst:=wt (n:=n) (v:=v) hk1;rw[hk1] at o0;clear hk1
    by_cases h0:o.N=0
    ·have d0:(o.N == 0)=true:=by rw[h0];rfl
     rw[if_pos h0] at hst;have Hst:=SM hst;have H0:=SM h0;clear hst h0
     go_wp2_with fail
     have hcall:=fx wr cv o.cuts (120 * k) HV.o.D HVI.o.D om om hzr Hcu.o;rw[hB] at hcall;refine hcall.mono ?_;rintro _ w7 ⟨rfl,hN⟩;have hN:=bm.ver HV.o hN;obtain⟨p7,q7,g1,g2,g3,g4⟩:=hN;have o1':w7.cell? ⟨b,oo+k * 4+1,none⟩=some (.int .i64 o.N):=by rw[← o1];simp[World.cell?,g3.block b (ew o1) (fun hx=>by have:=Hlo.o _ hx;omega)]
     have o3':w7.cell? ⟨b,oo+k * 4+3,none⟩=some cv:=by rw[← o3];simp[World.cell?,g3.block b (ew o3) (fun hx=>by have:=Hlo.o _ hx;omega)]
     have hb7:Below w.heap.size w w7:=Hbr.o.trans (g3.below (fun i hi=>by have:=Hlo.o _ hi;omega) Hbr.o.size)
     have hT:∀ v2 u,aF w7 base p7 V q7 v.c n v2 u→aF wr base p' V q' v.c n v2 u:=fun v2 u hh=>aF.trans g1 g3 g4 hh;have HT:=SM hT;have H7:=SM g2;have hz7:base≤w7.heap.size:=Nat.le_trans hzr g3.size;have hB7:p7.B=p.B:=g1.trans hB;clear hcall g1 g2 g3 g4 hT o1 o3 o0 o2
     go_wp2_with fail
     have hdb:=(Sy w7).drew;refine yW (tk 0 11 (.run 11 .done)) (fun u=>u.cell? ⟨b,oo+k * 4+1,none⟩=some (.int .i64 o.N)∧u.cell? ⟨b,oo+k * 4+3,none⟩=some cv) ⟨o1',o3'⟩ ?_;have h8:=H7.o.below hdb;have hcu8:=HOw.o.c.below (bt hb7 hdb);have hz8:base≤w7.drew.heap.size:=hz7;have HT8:Hd (∀ v2 u,aF w7.drew base p7 V q7 v.c n v2 u→aF wr base p' V q' v.c n v2 u):=SM (fun v2 u hh=>HT.o _ _ (hh.pre hdb));have o18:w7.drew.cell? ⟨b,oo+k * 4+1,none⟩=some (.int .i64 o.N):=o1'
     have o38:w7.drew.cell? ⟨b,oo+k * 4+3,none⟩=some cv:=o3';clear hdb H7 HT o1' o3' hb7 hz7;generalize w7.drew=w8 at *
     repeat((first|refine yO ?_|refine yM ?_|refine yF rfl rfl (fun w' hC'=>by obtain⟨oa,ob⟩:=hC';go_simp;first|done|exact rfl) ?_);walk_nrm)
     refine yR ?_;have hcall:=dY w8 o.N cv o.cuts (120 * k) h8.D (HVI.o.D.crash o.cuts) om om hz8 hcl hcu8;rw[hB7] at hcall;refine hcall.mono ?_;rintro _ w9 ⟨rfl,hN⟩;have hpl:bP (de v.D o.cuts) o.N true o.cuts=de v.D o.cuts:=by unfold bP;rw[if_pos (by have:=H0.o;omega)]
     rw[show ({ v with D:=de v.D o.cuts } : VM).D=de v.D o.cuts from rfl,hpl] at hN
     have hk9:=hN;have hN:=bm.ver h8 hN;have hkb:=hN.kb;have o19:w9.cell? ⟨b,oo+k * 4+1,none⟩=some (.int .i64 o.N):=by rw[← o18];simp[World.cell?,hkb.block b (ew o18) (fun hx=>by have:=h8.lo' hx;omega)]
     have o39:w9.cell? ⟨b,oo+k * 4+3,none⟩=some cv:=by rw[← o38];simp[World.cell?,hkb.block b (ew o38) (fun hx=>by have:=h8.lo' hx;omega)]
     refine kS ⟨o19,o39⟩ ?_;walk_nrm
     repeat(refine yA ?_;walk_nrm)
     refine al ?_;have hfin:=SM (Hnx.o _ _ Hst.o (HT8.o _ _ hN));clear hN hk9 hkb o19 o39 o18 o38 hcall h8 hcu8 HT8 hpl
     go_wp2
     go_roundw
     case rel=>exact hfin.o
     case measure=>simp[intOf];omega
    ·have d0:(o.N == 0)=false:=by simpa using h0
     rw[if_neg h0] at hst;have Hst:=SM hst;clear hst h0
     go_wp2_with fail
     have hdb:=(Sy wr).drew;refine yW (tk 0 11 (.run 11 .done)) (fun u=>u.cell? ⟨b,oo+k * 4+1,none⟩=some (.int .i64 o.N)∧u.cell? ⟨b,oo+k * 4+3,none⟩=some cv) ⟨o1,o3⟩ ?_;have h8:=HV.o.below hdb;have hcu8:=Hcu.o.below hdb;have hz8:base≤wr.drew.heap.size:=hzr;have HT8:Hd (∀ v2 u,aF wr.drew base p' V q' v.c n v2 u→aF wr base p' V q' v.c n v2 u):=SM (fun v2 u hh=>hh.pre hdb);have o18:wr.drew.cell? ⟨b,oo+k * 4+1,none⟩=some (.int .i64 o.N):=o1
     have o38:wr.drew.cell? ⟨b,oo+k * 4+3,none⟩=some cv:=o3;clear hdb o0 o1 o2 o3;generalize wr.drew=w8 at *
     repeat((first|refine yO ?_|refine yM ?_|refine yF rfl rfl (fun w' hC'=>by obtain⟨oa,ob⟩:=hC';go_simp;first|done|exact rfl) ?_);walk_nrm)
     refine yR ?_;have hcall:=dY w8 o.N cv o.cuts (120 * k) h8.D HVI.o.D om om hz8 hcl hcu8;rw[hB] at hcall;refine hcall.mono ?_;rintro _ w9 ⟨rfl,hN⟩;have hN:=bm.ver h8 hN;have hkb:=hN.kb;have o19:w9.cell? ⟨b,oo+k * 4+1,none⟩=some (.int .i64 o.N):=by rw[← o18];simp[World.cell?,hkb.block b (ew o18) (fun hx=>by have:=h8.lo' hx;omega)]
     have o39:w9.cell? ⟨b,oo+k * 4+3,none⟩=some cv:=by rw[← o38];simp[World.cell?,hkb.block b (ew o38) (fun hx=>by have:=h8.lo' hx;omega)]
     refine kS ⟨o19,o39⟩ ?_;walk_nrm
     repeat(refine yA ?_;walk_nrm)
     refine al ?_;have hfin:=SM (Hnx.o _ _ Hst.o (HT8.o _ _ hN));clear hN hkb o19 o39 o18 o38 hcall h8 hcu8 HT8
     go_wp2
     go_roundw
     case rel=>exact hfin.o
     case measure=>simp[intOf];omega
  ·obtain rfl:k=kn:=om;have htk:(L.map Prod.fst).take k=L.map Prod.fst:=List.take_of_length_le (by rw[List.length_map,HL.o];exact Nat.le_refl _)
   rw[htk,HRe.o] at hV;have hk4:=hP;have hb4:Below w.heap.size w ((wr.setCell ⟨w.heap.size+1,0,none⟩ (.pointer (some ⟨V,0,none⟩))).setCell ⟨w.heap.size+1,1,none⟩ (.pointer (some ⟨p.B,0,none⟩))):=(hbr.setCell (p:=⟨w.heap.size+1,0,none⟩) (by show _≤w.heap.size+1;omega) _).setCell (p:=⟨w.heap.size+1,1,none⟩) (by show _≤w.heap.size+1;omega) _
   have hV4:So ((wr.setCell ⟨w.heap.size+1,0,none⟩ (.pointer (some ⟨V,0,none⟩))).setCell ⟨w.heap.size+1,1,none⟩ (.pointer (some ⟨p.B,0,none⟩))) base p' V q' n R:=by
    have hkk:Kb (fun i=>i=w.heap.size+1) wr ((wr.setCell ⟨w.heap.size+1,0,none⟩ (.pointer (some ⟨V,0,none⟩))).setCell ⟨w.heap.size+1,1,none⟩ (.pointer (some ⟨p.B,0,none⟩))):=(dE _ _ _ _).trans (dE _ _ _ _) (fun i hi=>.inl hi);exact hV.kb hkk (fun i hi e=>by have:=hV.lo' hi;omega)
   have hz4':base≤((wr.setCell ⟨w.heap.size+1,0,none⟩ (.pointer (some ⟨V,0,none⟩))).setCell ⟨w.heap.size+1,1,none⟩ (.pointer (some ⟨p.B,0,none⟩))).heap.size:=by simp;exact hzr
   have f0:=hP.free 0;have f1:=hP.free 1;have q0:=hP.c0;have q1:=hP.c1;have hP4:=hP.set (.pointer (some ⟨V,0,none⟩)) (.pointer (some ⟨p.B,0,none⟩));have HP4:=SM hP4;have HV4:=SM hV4;have Hb4:=SM hb4;have Hz4:=SM hz4';clear hP hV hbr hb4 hV4 hz4' hP4 htk hk4
   go_wp2
   refine bodyPost_ret (aD _ _ ⟨w.heap.size+1,0,none⟩ (.agg #[.pointer (some ⟨V,0,none⟩),.pointer (some ⟨p.B,0,none⟩)]) (.bool true) rfl rfl rfl (ve HP4.o)) rfl ⟨⟨p',V,q',base,by rw[hB],HV4.o,om,Hz4.o⟩,Hb4.o⟩
end
section
theorem WI.after{n:Nat}{v:VM}(h:WI n 0 v)(hV:VI n 0 v)(hn:n≤100)(h2:2≤n)(L:List R5):L.length < 255→WI n L.length (ce n v L):=by
 induction L using di with
 | h0=>intro _;exact h
 | h1 l a ih =>
  intro hl;simp only[List.length_append,List.length_cons,List.length_nil] at hl ⊢;rw[dw];exact (ih om).step (hV.after hn h2 l) om a
end
section
structure Ms (w u:World) (K:Nat→Prop) (base:Nat) (p:DP) (V:Nat) (q:CP) (n:Nat) (v:VM) (B mb:Nat):Prop where
 pb:p.B=B
 va:So u base p V q n v
 X:∀ i,K i→i < u.heap.size∧¬ VX p V q v.c i
 km:K mb
 m:P2 u mb (.pointer (some ⟨V,0,none⟩)) (.pointer (some ⟨B,0,none⟩))
 b:Below w.heap.size w u
 lo:w.heap.size < base
 z:base≤u.heap.size
section
variable {w u u':World} {K K':Nat→Prop} {base n V B mb:Nat} {p:DP} {q:CP} {v v':VM}
theorem Ms.below(h:Ms w u K base p V q n v B mb)(hb:Below u.heap.size u u'):Ms w u' K base p V q n v B mb :=
 ⟨h.pb,h.va.below hb,fun i hi=>⟨Nat.lt_of_lt_of_le (h.X i hi).1 hb.size,(h.X i hi).2⟩,h.km,h.m.below hb,bt h.b hb,h.lo,Nat.le_trans h.z hb.size⟩
theorem Ms.next(h:Ms w u K base p V q n v B mb)(hN:aF u base p V q v.c n v' u'):∃ p' q',Ms w u' K base p' V q' n v' B mb∧∀ i,K i→u'.heap[i]? = u.heap[i]?:=by
 obtain⟨p',q',h1,h2,h3,h4⟩:=hN;have hs:∀ i,K i→u'.heap[i]? = u.heap[i]?:=fun i hi=>h3.block i (h.X i hi).1 (h.X i hi).2;refine⟨p',q',⟨h1.trans h.pb,h2,fun i hi=>⟨Nat.lt_of_lt_of_le (h.X i hi).1 h3.size,fun hx=>?_⟩,h.km,h.m.same (hs mb h.km),h.b.trans (h3.below (fun i hi=>by have:=h.va.lo' hi;have:=h.lo;omega) h.b.size),h.lo,Nat.le_trans h.z h3.size⟩,hs⟩
 rcases h4 i hx with hh | hh
 ·exact (h.X i hi).2 hh
 ·have:=(h.X i hi).1;omega
theorem Ms.wide(h:Ms w u K base p V q n v B mb)(hK:∀ i,K' i→K i∨(i < u.heap.size∧¬ VX p V q v.c i))(hm:K' mb):Ms w u K' base p V q n v B mb :=
 ⟨h.pb,h.va,fun i hi=>by
  rcases hK i hi with hh | hh
  ·exact h.X i hh
  ·exact hh,hm,h.m,h.b,h.lo,h.z⟩
theorem Ms.made(h:So u base p V q n v)(hb:Below w.heap.size w u)(hlo:w.heap.size < base)(hz:base≤u.heap.size)(hm:P2 u' u.heap.size (.pointer (some ⟨V,0,none⟩)) (.pointer (some ⟨p.B,0,none⟩)))(hb2:Below u.heap.size u u'):Ms w u' (fun i=>i=u.heap.size) base p V q n v p.B u.heap.size :=
 ⟨rfl,h.below hb2,fun i hi=>⟨by rw[hi];exact hm.lt,fun hx=>by have:=h.lt hx;omega⟩,rfl,hm,bt hb hb2,hlo,Nat.le_trans hz hb2.size⟩
end
end
section
theorem Se.elem{α:Type}{w:World}{ad:Option Addr}{n c sz:Nat}{f:α→Array Value}{L:List α}(h:Se w (.slice ad n c) n sz (aZ f L))(hf:∀ x,(f x).size=sz)(hn:L.length=n)(k:Nat)(hk:k < n):
  ∃ b o,ad=some ⟨b,o,none⟩∧readAt w b (o+k * sz) sz=some (f (L[k]'(by rw[hn];exact hk))):=by
 obtain⟨ad',cap,hv,_,_,_,_,h6⟩:=h;simp only[Value.slice.injEq,true_and] at hv;obtain⟨rfl,rfl⟩:=hv;obtain⟨b,o,he,hr⟩:=h6 om;refine⟨b,o,he,?_⟩;have h3:k * sz+sz≤n * sz:=by rw[← Nat.succ_mul];exact Nat.mul_le_mul_right _ hk
 have h2:=aB hr (o+k * sz) sz om om;rw[h2,show o+k * sz - o=k * sz by omega]
 exact congrArg some (dC f sz hf L k om)
theorem Ci(w:World)(a1 a2:Option Addr)(n c1 c2:Nat)(l:List RQ)(h1:Se w (.slice a1 n c1) n 33 (aZ SK l))(h2:Se w (.slice a2 n c2) n 33 (aZ SK l))(hl:l.length=n):
  Calls prog 15 #[.slice a1 n c1,.slice a2 n c2] w fun e w'=>e = .returned (.bool true)∧Below w.heap.size w w':=by
 have H1:=SM h1;have H2:=SM h2;have Hl:=SM hl;have hn:n≤9223372036854775807:=by
  obtain⟨_,cap,_,g1,g2,_⟩:=h1;simp only[maxLen] at g2;omega
 clear h1 h2 hl
 go_in
 go_wp2
 go_loopw [5] (fun i wr=>∃ k:Nat,k≤n∧i = .int .i64 k∧Below w.heap.size w wr) (fun i _=>n - (intOf i).toNat)
 case atStart=>exact⟨0,om,rfl,Below.refl _ _⟩
 case round =>
  obtain⟨k,hk,rfl,hbr⟩:=hrel
  by_cases hlt:k < n
  ·have d0:decide ((k:Int) < (n:Int))=true:=dt;obtain⟨b1,o1,rfl,r1⟩:=(H1.o.below hbr).elem eL Hl.o k hlt;obtain⟨b2,o2,rfl,r2⟩:=(H2.o.below hbr).elem eL Hl.o k hlt;generalize l[k]'(by rw[Hl.o];exact hlt)=e at *
   obtain⟨d,x⟩:=e;have r1:readAt wr b1 (o1+k * 33) 33=some (ev d x):=r1;have r2:readAt wr b2 (o2+k * 33) 33=some (ev d x):=r2;have k0:(0:Int)≤(k:Int):=om;have k3:(k:Int) < (n:Int):=om;have wk:IntKind.i64.wrap ((k:Int)+1)=(k:Int)+1:=wi;have HBr:=SM hbr;clear hbr
   go_upto_region 6 with fail
   have hdb:=(Sy wr).drew;have r1':=r1;refine yW (tk 0 9 .done) (fun u=>readAt u b1 (o1+k * 33) 33=some (ev d x)∧readAt u b2 (o2+k * 33) 33=some (ev d x)) ⟨r1,r2⟩ ?_;replace HBr:=SM (bt HBr.o hdb);clear hdb r1 r2 r1';generalize wr.drew=w5 at *
   repeat((first|refine yO ?_|refine yM ?_|refine yF rfl rfl (fun w' hC'=>by obtain⟨c1,c2⟩:=hC';go_simp;first|done|exact rfl) ?_);walk_nrm)
   refine al ?_
   go_wp2
   go_roundw
   case rel=>exact⟨k+1,om,by go_num,HBr.o⟩
   case measure=>simp[intOf];omega
  ·obtain rfl:k=n:=om;have d0:decide ((k:Int) < (k:Int))=false:=sm
   go_wp2
   go_ret
   exact⟨rfl,hbr⟩
end
section
open Go.RowKit Go.ChangeMaps
theorem Bz(n:Nat)(v:VM):bG n (au v)=bG n v:=by
 unfold bG;rw[oV,fY,dz];cases (openC (bT v.D) n v.skew v.now).2 <;> simp only[dQ]
section
variable {w u u':World} {K:Nat→Prop} {base n V B mb:Nat} {p:DP} {q:CP} {v v':VM}
structure Lv (w u:World) (K:Nat→Prop) (base:Nat) (p:DP) (V:Nat) (q:CP) (n:Nat) (v:VM) (B mb b0:Nat) (la:Option Addr) (lc:Nat) (l:List RQ):Prop where
 s:Ms w u K base p V q n v B mb
 o:u.ownsRow b0 89 33 (.slice la l.length lc) l.length (aZ SK l)
 k:∀ g,(Value.slice la l.length lc).ownBlock=some g→K g
theorem Lv.next{b0 lc:Nat}{la:Option Addr}{l:List RQ}(h:Lv w u K base p V q n v B mb b0 la lc l)(hN:aF u base p V q v.c n v' u'):∃ p' q',Lv w u' K base p' V q' n v' B mb b0 la lc l:=by
 obtain⟨p',q',h1,h2⟩:=h.s.next hN;exact⟨p',q',h1,bu h.o (fun g hg _=>h2 g (h.k g hg)),h.k⟩
theorem Lv.below{b0 lc:Nat}{la:Option Addr}{l:List RQ}(h:Lv w u K base p V q n v B mb b0 la lc l)(hb:Below u.heap.size u u'):Lv w u' K base p V q n v B mb b0 la lc l :=
 ⟨h.s.below hb,ah h.o hb,h.k⟩
end
theorem Lv.made{w u w1 u':World}{K:Nat→Prop}{base n V B mb:Nat}{p:DP}{q:CP}{v v':VM}(h:Ms w u K base p V q n v B mb)(hN:aF u base p V q v.c n v' w1)(hb:Below w1.heap.size w1 u'){x:Value}{l:List RQ}(ho:u'.ownsRow w1.heap.size 89 33 x l.length (aZ SK l)):
  ∃ p' q' la lc K',x = .slice la l.length lc∧Lv w u' K' base p' V q' n v' B mb w1.heap.size la lc l:=by
 obtain⟨p',q',h1,h2⟩:=h.next hN;have h3:=h1.below hb;obtain⟨la,lc,rfl,_⟩:=aG ho;refine⟨p',q',la,lc,fun i=>i=mb∨(Value.slice la l.length lc).ownBlock=some i,rfl,h3.wide (fun i hi=>?_) (.inl rfl),ho,fun g hg=>.inr hg⟩
 rcases hi with rfl | hi
 ·exact .inl h1.km
 ·have:=ho.lt i hi;exact .inr ⟨this.2,fun hx=>by have:=h1.va.lt hx;omega⟩
theorem ED(w:World)(key:RW)(skew n:Int)(ad:Option Addr)(kn c:Nat)(L:List R3)(a2:Int)(ad3:Option Addr)(c3:Nat)(cs:List Int)(hL:L.length=kn)(hO:rC w (.slice ad kn c) L)(hkn:kn≤9223372036854775807)(h2:0≤a2∧a2≤255)(hC:Se w (.slice ad3 cs.length c3) cs.length 1 (cs.map (Value.int .i64)))(hg:GK w):
  Calls prog 5 #[.agg (bQ key skew n),.slice ad kn c,.int .u8 a2,.slice ad3 cs.length c3] w fun e w'=>e = .returned (.bool true)∧Below w.heap.size w w':=by
 obtain⟨W,rfl⟩ : ∃ m:Nat,a2=(m:Int):=⟨a2.toNat,om⟩;have hM:=eV.made w key skew n;have hb1:=ba (.cells (bQ key skew n) 24) (Sy w);have HO:=SM (hO.below hb1);have HL:=SM hL;have HG:=SM (hg.below hg.1 hb1);have HW:=SM h2;have HC:=SM (hC.below hb1);obtain⟨cn,hcn⟩:=eY cs.length;rw[hcn] at HC ⊢;have Hcn:=SM hcn;clear hO hL hg h2 hC hcn
 go_in
 go_upto_region 1 with fail
 generalize w.alloc (.cells (bQ key skew n) 24)=w1 at *;have HM:=SM hM;have HB:=SM hb1;clear hM hb1
 go_wp2_with fail
 refine (eT w1 HG.o).mono ?_;rintro _ w2 ⟨rfl,hb⟩;replace HM:=SM (HM.o.below hb);replace HO:=SM (HO.o.below hb);replace HC:=SM (HC.o.below hb);replace HG:=SM (HG.o.below HG.o.1 hb);replace HB:=SM (bt HB.o hb);clear hb;have q1:=HM.o.r
 go_wp2_with fail
 refine (jZ w2 key skew n ad kn c L HL.o HO.o hkn).mono ?_;rintro _ w3 ⟨⟨bb,rfl,hbb⟩,hb⟩;replace HM:=SM (HM.o.below hb);replace HO:=SM (HO.o.below hb);replace HC:=SM (HC.o.below hb);replace HG:=SM (HG.o.below HG.o.1 hb);replace HB:=SM (bt HB.o hb);clear hb q1;have hbad:=SM ((eT w3 HG.o).mono (fun e w' (h:e = .returned (.bool true)∧Below w3.heap.size w3 w')=>(⟨h.1,bt HB.o h.2⟩ : e = .returned (.bool true)∧Below w.heap.size w w')))
 cases bb with
 | false =>
  clear hbb
  go_wp2_with fail
  refine hbad.o.mono ?_;rintro _ w4 ⟨rfl,hb⟩
  go_wp2
  go_ret
  exact⟨rfl,hb⟩
 | true =>
  have HA:=SM (hbb rfl);clear hbb
  by_cases hc30:cn≤30
  ·have d1:decide ((30:Int) < (cn:Int))=false:=df;obtain⟨n,rfl⟩ : ∃ m:Nat,n=(m:Int):=⟨n.toNat,by have:=HA.o.n;omega⟩
   have hn2:2≤n:=by have:=HA.o.n;omega
   have hn30:n≤30:=by have:=HA.o.n;omega
   have hk40:kn≤40:=by have:=HA.o.l;have:=HL.o;omega
   have q1:=HM.o.r;clear hbad
   go_wp2_with fail
   refine (mv w3 key skew n kn c ad L HA.o HL.o HO.o HG.o).mono ?_;rintro _ w5 ⟨⟨p,V,qq,base,rfl,hV,hlo,hz⟩,hb⟩;clear q1 d1
   go_upto_region 4 with fail
   have hVI:VI n (120 * (L.map Prod.fst).length) (ce n (bN key skew (dG n)) (L.map Prod.fst)):=(VI.new (n:=n) key skew HA.o.s.1 HA.o.s.2 om).after om hn2 _;have hWI:WI n (L.map Prod.fst).length (ce n (bN key skew (dG n)) (L.map Prod.fst)):=(WI.new n om hn2 key skew).after (VI.new (n:=n) key skew HA.o.s.1 HA.o.s.2 om) om hn2 _ (by rw[List.length_map,HL.o];omega)
   generalize ce n (bN key skew (dG n)) (L.map Prod.fst)=v at *;rw[List.length_map,HL.o] at hVI hWI;have hP:=P2.made w5 47 (.pointer (some ⟨V,0,none⟩)) (.pointer (some ⟨p.B,0,none⟩));have hb6:=ba (.cells #[.pointer (some ⟨V,0,none⟩),.pointer (some ⟨p.B,0,none⟩)] 47) (Sy w5);have hS:=Ms.made (w:=w3) hV hb hlo hz hP hb6;generalize w5.alloc (.cells #[.pointer (some ⟨V,0,none⟩),.pointer (some ⟨p.B,0,none⟩)] 47)=w6 at *
   clear hV hb hz hP hb6;generalize w5.heap.size=mb at *;have c0:=hS.m.c0;have HS:=SM hS;have HV:=SM hVI;have HW2:=SM hWI;clear hS hVI hWI
   go_wp2_with fail
   refine (kY w6 base n (120 * kn) V p qq v HS.o.va HV.o).mono ?_;rintro _ w7 ⟨⟨x,wm,rfl,ho,hN,hb⟩,_⟩;obtain⟨p7,q7,la,lc,K7,rfl,hS7⟩:=Lv.made HS.o hN hb ho;have hWI1:=HW2.o.look;have hVI1:=HV.o.look;rw[← jN v] at hS7 ⊢;generalize hv1:au v=v1 at *;have hid1:au v1=v1:=by rw[← hv1,fH]
   have c7:=hS7.s.m.c0;have HS7:=SM hS7;have HV1:=SM hVI1;have HW1:=SM hWI1;have Hid1:=SM hid1;obtain⟨l,hl⟩:=eY (dD v1);rw[hl] at HS7 ⊢;have Hl:=SM hl;clear hN hb ho hS7 hWI1 hVI1 HV HW2 HS c0 hid1 hv1 hl
   go_wp2_with fail
   refine (eF w7 base n V p7 q7 v1 HS7.o.s.va).mono ?_;rintro _ w8 ⟨rfl,hN⟩;rw[Hid1.o] at hN ⊢;obtain⟨p8,q8,hS8⟩:=HS7.o.next hN;have c8:=hS8.s.m.c1;have c8':=hS8.s.m.c0;have HS8:=SM hS8;clear hN hS8 HS7 c7;obtain⟨bo,hbo⟩:=eY v1.c.isSome;rw[hbo];have Hbo:=SM hbo;clear hbo;have wW:IntKind.i64.wrap (W:Int)=(W:Int):=by rw[IntKind.wrap_i64];have:=HW.o;omega
   obtain⟨r,hr⟩ : ∃ r:Nat,W % 20=r:=⟨_,rfl⟩;have hr20:r < 20:=om;have wr1:(W:Int).tmod 20=(r:Int):=by rw[Int.tmod_eq_emod_of_nonneg om];omega
   have wr2:IntKind.i64.wrap (1+(r:Int))=1+(r:Int):=wi;clear hr
   go_wp2_with fail
   have hcall:=dY w8 (1+(r:Int)) (.slice ad3 cn c3) cs (120 * kn) HS8.o.s.va.D HV1.o.D om om HS8.o.s.z (by rw[Hcn.o];omega) (by rw[Hcn.o];exact HC.o.below HS8.o.s.b)
   rw[HS8.o.s.pb] at hcall;refine hcall.mono ?_;rintro _ w9 ⟨rfl,hN⟩;obtain⟨p9,q9,hS9⟩:=HS8.o.next (bm.ver HS8.o.s.va hN);have hV2:VI n (120 * kn) { v1 with D:=bP v1.D (1+(r:Int)) true cs }:=⟨HV1.o.D.plan _ _ _,HV1.o.now,HV1.o.skew,HV1.o.c⟩
   have htp:=Aq HW1.o HV1.o om om (1+(r:Int)) cs _ rfl;rw[Hid1.o] at htp;have hVc:=hV2.compact om;have c9:=hS9.s.m.c0;have HS9:=SM hS9;have HV2:=SM hV2;have Htp:=SM htp;have HVc:=SM hVc;clear hcall hN hS9 hV2 htp hVc HS8 c8 c8' wr1 wr2 wW HW1 HV1;generalize ({ v1 with D:=bP v1.D (1+(r:Int)) true cs } : VM)=v2 at *
   go_wp2_with fail
   refine (gk w9 base n (120 * kn) V p9 q9 v2 HS9.o.s.va HV2.o om om HS9.o.s.z).mono ?_;rintro _ w10 ⟨⟨k,rfl⟩,hN⟩;obtain⟨p10,q10,hS10⟩:=HS9.o.next hN;generalize fg (aW v2).2 k=ev at *;generalize (aW v2).1=v3 at *;have c10:=hS10.s.m.c0;have HS10:=SM hS10;clear hN hS10 HS9 c9 HV2;have hend:Hd (∀ (u:World) (p':DP) (q':CP) (m:Nat) (v':VM),Lv w3 u K7 base p' V q' n v' p.B mb wm.heap.size la lc l→VI n m v'→dD v'=l→Calls prog 11 #[.pointer (some ⟨V,0,none⟩)] u fun e u'=>∃ la2 lc2,e = .returned (.slice la2 l.length lc2)∧Calls prog 15 #[.slice la2 l.length lc2,.slice la l.length lc] u' fun e w'=>e = .returned (.bool true)∧Below w.heap.size w w'):=SM (fun u p' q' m v' hS hV hl=>by
    refine (kY u base n m V p' q' v' hS.s.va hV).mono ?_;rintro _ u' ⟨⟨x,wm2,rfl,ho,hN,hb⟩,_⟩;obtain⟨p2,q2,hS2⟩:=hS.next hN;have hS3:=hS2.below hb;rw[hl] at ho;obtain⟨la2,lc2,rfl,hr2⟩:=aG ho;obtain⟨la',lc',e1,hr1⟩:=aG hS3.o;cases e1;refine⟨la2,lc2,rfl,(Ci u' la2 la l.length lc2 lc l ⟨_,_,rfl,hr2⟩ ⟨_,_,rfl,hr1⟩ rfl).mono ?_⟩;rintro _ w' ⟨rfl,hb2⟩;exact⟨rfl,bt (bt HB.o hS3.s.b) hb2⟩)
   cases bo with
   | false =>
    have hn:v1.c=none:=by have:=Hbo.o;simpa using this
    have hL3:dD v3=l:=by rw[← Hl.o];exact Htp.o.1 (.inl hn)
    have hcall:=SM (hend.o w10 p10 q10 _ v3 HS10.o HVc.o hL3);clear hend hn hL3 Htp
    go_wp2_with fail
    refine hcall.o.mono ?_;rintro _ w11 ⟨la2,lc2,rfl,hsame⟩;have Hsame:=SM hsame;clear hsame hcall
    go_wp2_with fail
    refine Hsame.o.mono ?_;rintro _ w12 ⟨rfl,hb⟩
    go_wp2
    go_ret
    exact⟨rfl,hb⟩
   | true =>
    have hn:v1.c≠none:=by
     have:=Hbo.o;intro h0;rw[h0] at this;cases this
    have Hn:=SM hn;clear hn
    go_wp2_with fail
    refine (eF w10 base n V p10 q10 v3 HS10.o.s.va).mono ?_;rintro _ w11 ⟨rfl,hN⟩;obtain⟨p11,q11,hS11⟩:=HS10.o.next hN;have hV11:=HVc.o.look;have c11:=hS11.s.m.c0;have HS11:=SM hS11;have HV11:=SM hV11;obtain⟨b2,hb2⟩:=eY ((au v3).c.isSome);rw[hb2];have Hb2:=SM hb2;clear hN hS11 hV11 HS10 c10 hb2;cases b2 with
    | true =>
     have hL3:dD (au v3)=l:=by
      rw[jN,← Hl.o];refine Htp.o.1 (.inr (fun h0=>?_));have:=Hb2.o;rw[h0] at this;cases this
     have hcall:=SM (hend.o w11 p11 q11 _ (au v3) HS11.o HV11.o hL3);clear hend hL3 Htp
     go_wp2_with fail
     refine hcall.o.mono ?_;rintro _ w12 ⟨la2,lc2,rfl,hsame⟩;have Hsame:=SM hsame;clear hsame hcall
     go_wp2_with fail
     refine Hsame.o.mono ?_;rintro _ w13 ⟨rfl,hb⟩
     go_wp2
     go_ret
     exact⟨rfl,hb⟩
    | false =>
     have hnone:(au v3).c=none:=by have:=Hb2.o;simpa using this
     have Hnone:=SM hnone;clear hnone
     go_wp2_with fail
     have hcall:=iV w11 base n _ V p11 q11 (au v3) HS11.o.s.va HV11.o om om hn2 HS11.o.s.z;have hVb:=HV11.o.boot om hn2;rw[Bz] at hcall hVb;refine hcall.mono ?_;rintro _ w12 ⟨⟨k2,rfl⟩,hN⟩;obtain⟨p12,q12,hS12⟩:=HS11.o.next hN;have c12:=hS12.s.m.c0;have HS12:=SM hS12;have HVb:=SM hVb;clear hcall hN hS12 HS11 c11 hVb
     by_cases h0:(bG n v3).2=0
     ·have hL3:dD (bG n v3).1=l:=by rw[← Hl.o];exact Htp.o.2.2 Hn.o Hnone.o h0
      have hc:=SM (hend.o w12 p12 q12 _ _ HS12.o HVb.o hL3);rw[h0,dM];clear hend hL3 Htp h0
      go_wp2_with fail
      refine hc.o.mono ?_;rintro _ w13 ⟨la2,lc2,rfl,hsame⟩;have Hsame:=SM hsame;clear hsame hc
      go_wp2_with fail
      refine Hsame.o.mono ?_;rintro _ w14 ⟨rfl,hb⟩
      go_wp2
      go_ret
      exact⟨rfl,hb⟩
     ·obtain⟨T,U,he⟩:=cG (k:=k2) h0;rw[he];have hcb:=eF w12 base n V p12 q12 _ HS12.o.s.va;rw[Htp.o.2.1 h0] at hcb;have Hcb:=SM hcb;clear hcb hend Htp h0 he
      go_wp2_with fail
      refine Hcb.o.mono ?_;rintro _ w13 ⟨rfl,hN⟩;obtain⟨p13,q13,hS13⟩:=HS12.o.next hN;have hf:=SM (bt HB.o hS13.s.b);clear hN hS13
      go_wp2
      go_ret
      exact⟨rfl,hf.o⟩
  ·have d1:decide ((30:Int) < (cn:Int))=true:=dt
   go_wp2_with fail
   refine hbad.o.mono ?_;rintro _ w4 ⟨rfl,hb⟩
   go_wp2
   go_ret
   exact⟨rfl,hb⟩
end
end Go.Proofs.YtlcfaaodmickbaaGreatDoor
