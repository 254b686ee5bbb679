/- The part of the proof that is of the law TopCompact alone. No conditions. -/
import Derived.Stop.Joined
import Derived.Test.YtlcfaaodmickbaaGreatDoorPc24
set_option linter.unusedSimpArgs false
set_option linter.unusedVariables false
set_option maxRecDepth 100000
set_option maxHeartbeats 8000000
namespace Go.Proofs.YtlcfaaodmickbaaGreatDoor
open Go.RowKit Go.Proofs.Tryz
section
theorem xC{n:Nat}{a b:RP→Option Nat}{now:Int}(h:aO a now=aO b now)(d:RP)(x:Nat):sw n a d x now=sw n b d x now:=by
 unfold sw;rw[pW,pW,h,lN h]
theorem Gl{n:Nat}{a b:RP→Option Nat}{now:Int}(h:aO a now=aO b now)(d:RP)(x:Nat):CE n a d x now=CE n b d x now:=by
 unfold CE;rw[xC h,ql h,h]
theorem gO{n m:Nat}{v:VM}(hV:VI n m v)(N:Int):v.now≤(dp v N).now:=by
 have:=hV.now
 show v.now≤(if bW - v.now < N then bW else if 0 < N then v.now+N else v.now)
 split
 ·exact this.2
 ·split <;> omega
end
section
def ml(o:R5):Prop:=o.kind=1∨o.kind=2∨o.kind=3∨o.kind=4
structure Sm (n k:Nat) (v1 v2:VM):Prop where
 key:v1.key=v2.key
 skew:v1.skew=v2.skew
 now:v1.now=v2.now
 p1:v1.D.plan=[]
 p2:v2.D.plan=[]
 d1:v1.D.down=false
 d2:v2.D.down=false
 s:(v1.c=none∧v2.c=none∧Cr (n / 2) k un v1.D∧Cr (n / 2) k un v2.D) ∨
  ∃ a b,v1.c=some a∧v2.c=some b∧a.til=b.til∧Ag (n / 2) v1.now v1.D a∧Ag (n / 2) v1.now v2.D b∧aO a.ix v1.now=aO b.ix v1.now∧tp a≤k∧tp b≤k
theorem Sm.look1{n k:Nat}{v1 v2:VM}(h:Sm n k v1 v2):au v1=v1:=by unfold au;rw[if_neg (by rw[h.d1];decide)]
theorem Sm.look2{n k:Nat}{v1 v2:VM}(h:Sm n k v1 v2):au v2=v2:=by unfold au;rw[if_neg (by rw[h.d2];decide)]
theorem Sm.more{n k k':Nat}{v1 v2:VM}(h:Sm n k v1 v2)(hk:k≤k'):Sm n k' v1 v2:=by
 refine⟨h.key,h.skew,h.now,h.p1,h.p2,h.d1,h.d2,?_⟩
 rcases h.s with ⟨h1,h2,h3,h4⟩ | ⟨a,b,h1,h2,h3,h4,h5,h6,h7,h8⟩
 ·exact .inl ⟨h1,h2,h3.more hk (fun _ h=>h),h4.more hk (fun _ h=>h)⟩
 ·exact .inr ⟨a,b,h1,h2,h3,h4,h5,h6,om,om⟩
theorem Sm.live{n k:Nat}{v1 v2:VM}(h:Sm n k v1 v2):dD v1=dD v2:=by
 unfold dD;rw[h.look1,h.look2]
 rcases h.s with ⟨h1,h2,_⟩ | ⟨a,b,h1,h2,h3,h4,h5,h6,_⟩
 ·rw[h1,h2]
 ·rw[h1,h2];simp only;rw[← h.now];exact lN h6
theorem Sm.boot{n k m1 m2:Nat}{v1 v2:VM}(h:Sm n k v1 v2)(hV1:VI n m1 v1)(hV2:VI n m2 v2)(hk:k+1 < 256):(bG n v1).2=(bG n v2).2∧Sm n (k+1) (bG n v1).1 (bG n v2).1:=by
 have key:∀ (P1 P2:rt→Prop),Cr (n / 2) k P1 v1.D→Cr (n / 2) k P2 v2.D →
   (∀ M1 es1 M2 es2 D1 D2,R4 (n / 2) P1 k (bT v1.D) D1 M1 es1→R4 (n / 2) P2 k (bT v2.D) D2 M2 es2→aO (gR es1) v1.now=aO (gR es2) v1.now) →
   (bG n v1).2=(bG n v2).2∧Sm n (k+1) (bG n v1).1 (bG n v2).1:=by
  intro P1 P2 hC1 hC2 hes;obtain⟨M1,es1,a1,a2⟩:=m6 hV1.D.len hk h.p1 hC1 v1.skew v1.now;obtain⟨M2,es2,b1,b2⟩:=m6 hV2.D.len hk h.p2 hC2 v2.skew v2.now;have he:=hes _ _ _ _ _ _ a2 b2;have hb2:R4 (n / 2) P2 k (bT v2.D) (openC (bT v2.D) n v2.skew v2.now).1 M2 es2:=b2;unfold bG;rw[a1,b1];refine⟨rfl,h.key,h.skew,h.now,?_,?_,a2.d,b2.d,.inr ⟨_,_,rfl,rfl,?_,?_,?_,?_,a2.t,b2.t⟩⟩
  ·rw[a2.pl];exact h.p1
  ·rw[b2.pl];exact h.p2
  ·show v1.now+v1.skew=v2.now+v2.skew;rw[h.now,h.skew]
  ·exact⟨a2.d,a2.o,a2.b,a2.h,es1,a2.g,a2.c,(drop_drop _ _).symm⟩
  ·exact⟨b2.d,b2.o,b2.b,b2.h,es2,b2.g,b2.c,by show _=aO (aO (gR es2) v2.now) v1.now;rw[← h.now,drop_drop]⟩
  ·show aO (aO (gR es1) v1.now) v1.now=aO (aO (gR es2) v2.now) v1.now
   rw[← h.now,drop_drop,drop_drop];exact he
 rcases h.s with ⟨h1,h2,h3,h4⟩ | ⟨a,b,h1,h2,h3,h4,h5,h6,h7,h8⟩
 ·refine key _ _ h3 h4 (fun M1 es1 M2 es2 D1 D2 g1 g2=>?_);have e1:es1=[]:=by rcases g1.p with h | ⟨_,h⟩;(cases h);exact h
  have e2:es2=[]:=by rcases g2.p with h | ⟨_,h⟩;(cases h);exact h
  rw[e1,e2]
 ·obtain⟨ea,ga,_,ia⟩:=h4.e;obtain⟨eb,gb,_,ib⟩:=h5.e;refine key (fun q=>∃ p G es,q=some (p,G,es)∧aO (gR es) v1.now=aO a.ix v1.now) (fun q=>∃ p G es,q=some (p,G,es)∧aO (gR es) v1.now=aO b.ix v1.now)
   (Cr.nil h4.o ⟨_,_,_,rfl,ia⟩ (ga.more h7)) (Cr.nil h5.o ⟨_,_,_,rfl,ib⟩ (gb.more h8)) (fun M1 es1 M2 es2 D1 D2 g1 g2=>?_)
  have e1:aO (gR es1) v1.now=aO a.ix v1.now:=by
   rcases g1.p with ⟨p,G,es,q1,q2⟩ | ⟨⟨p,G,es,q1,_⟩,_⟩
   ·cases q1;exact q2
   ·cases q1
  have e2:aO (gR es2) v1.now=aO b.ix v1.now:=by
   rcases g2.p with ⟨p,G,es,q1,q2⟩ | ⟨⟨p,G,es,q1,_⟩,_⟩
   ·cases q1;exact q2
   ·cases q1
  rw[e1,e2,h6]
theorem Sm.symm{n k:Nat}{v1 v2:VM}(h:Sm n k v1 v2):Sm n k v2 v1:=by
 refine⟨h.key.symm,h.skew.symm,h.now.symm,h.p2,h.p1,h.d2,h.d1,?_⟩
 rcases h.s with ⟨h1,h2,h3,h4⟩ | ⟨a,b,h1,h2,h3,h4,h5,h6,h7,h8⟩
 ·exact .inl ⟨h2,h1,h4,h3⟩
 ·exact .inr ⟨b,a,h2,h1,h3.symm,by rw[← h.now];exact h5,by rw[← h.now];exact h4,by rw[← h.now];exact h6.symm,h8,h7⟩
theorem Sm.compactR{n k m2:Nat}{v1 v2:VM}(h:Sm n k v1 v2)(hV2:VI n m2 v2)(hk:k+1 < 256):Sm n (k+1) v1 (aW v2).1∧(v1.c=none→(aW v2).2=12)∧(v1.c≠none→(aW v2).2=0):=by
 unfold aW;rw[h.look2]
 rcases h.s with ⟨h1,h2,h3,h4⟩ | ⟨a,b,h1,h2,h3,h4,h5,h6,h7,h8⟩
 ·rw[h2];exact⟨h.more om,fun _=>rfl,fun hh=>absurd h1 hh⟩
 ·rw[h2];simp only;rw[h.now] at h5;obtain⟨b1,b2,b3,b4,b5,b6⟩:=yT h5 (hV2.c b h2) h8 hk h.p2;have hlk:au { v2 with D:=(compactC v2.D b v2.now).1,c:=some (compactC v2.D b v2.now).2.1 } = { v2 with D:=(compactC v2.D b v2.now).1,c:=some (compactC v2.D b v2.now).2.1 }:=by
   unfold au;rw[if_neg (by show ¬ (compactC v2.D b v2.now).1.down=true;rw[b3.d];decide)]
  rw[hlk];refine⟨⟨h.key,h.skew,h.now,h.p1,b2,h.d1,b3.d,.inr ⟨a,_,h1,rfl,by rw[b6];exact h3,h4,?_,?_,om,b4⟩⟩,fun hh=>(by rw[h1] at hh;cases hh),fun _=>b1⟩
  ·rw[h.now];exact b3
  ·rw[b5,h.now,drop_drop,← h.now];exact h6
theorem Sm.verify{n k m1 m2:Nat}{v1 v2:VM}(h:Sm n k v1 v2)(hV1:VI n m1 v1)(hV2:VI n m2 v2)(hk:k+1 < 256)(l:List UInt8):(aU v1 l).2=(aU v2 l).2∧Sm n (k+1) (aU v1 l).1 (aU v2 l).1:=by
 unfold aU;rw[h.look1,h.look2,h.key];have hm:=h.more (k':=k+1) om;cases eC v2.key l with
 | error c=>exact⟨rfl,hm⟩
 | ok r =>
  obtain⟨t,a⟩:=r;simp only;rw[h.now,h.skew]
  by_cases hc:iz v2.now v2.skew t a=0
  ·rw[if_pos hc,if_pos hc]
   rcases h.s with ⟨h1,h2,h3,h4⟩ | ⟨x,y,h1,h2,h3,h4,h5,h6,h7,h8⟩
   ·rw[h1,h2];exact⟨rfl,hm⟩
   ·rw[h1,h2];simp only;rw[h3]
    by_cases ht:v2.now≤y.til
    ·rw[if_pos ht,if_pos ht];exact⟨rfl,hm⟩
    ·rw[if_neg ht,if_neg ht];rw[h.now] at h4 h5 h6;obtain⟨a1,a2,a3,a4,a5,a6⟩:=mM h4 (hV1.c x h1) h7 hk h.p1 (iA a) (a.2.2.1+v2.skew.toNat);obtain⟨b1,b2,b3,b4,b5,b6⟩:=mM h5 (hV2.c y h2) h8 hk h.p2 (iA a) (a.2.2.1+v2.skew.toNat);generalize insertC v1.D x (iA a) (a.2.2.1+v2.skew.toNat) v2.now=R1 at *;generalize insertC v2.D y (iA a) (a.2.2.1+v2.skew.toNat) v2.now=R2 at *;rw[fI { key:=v2.key,skew:=v2.skew,now:=v2.now,D:=R1.1,c:=some R1.2.1 } a2.d,fI { key:=v2.key,skew:=v2.skew,now:=v2.now,D:=R2.1,c:=some R2.2.1 } b2.d]
     refine⟨?_,rfl,rfl,rfl,a1,b1,a2.d,b2.d,.inr ⟨_,_,rfl,rfl,?_,?_,?_,?_,a3,b3⟩⟩
     ·show R1.2.2=R2.2.2
      rw[a5,b5];exact xC h6 _ _
     ·rw[a4,b4];exact h3
     ·exact a2
     ·exact b2
     ·show aO R1.2.1.ix v2.now=aO R2.2.1.ix v2.now
      rw[a6,b6];exact Gl h6 _ _
  ·rw[if_neg hc,if_neg hc];exact⟨rfl,hm⟩
theorem Sm.tick{n k m1:Nat}{v1 v2:VM}(h:Sm n k v1 v2)(hV1:VI n m1 v1)(N:Int):Sm n k (dp v1 N) (dp v2 N):=by
 have hn:(dp v1 N).now=(dp v2 N).now:=by unfold dp;simp only;rw[h.now]
 have hle:=gO hV1 N;have e1:dp v1 N={ v1 with now:=(dp v1 N).now }:=by
  unfold dp;rw[h.look1]
 have e2:dp v2 N={ v2 with now:=(dp v1 N).now }:=by
  rw[hn];unfold dp;rw[h.look2]
 generalize (dp v1 N).now=t at *;rw[e1,e2];refine⟨h.key,h.skew,rfl,h.p1,h.p2,h.d1,h.d2,?_⟩
 rcases h.s with ⟨h1,h2,h3,h4⟩ | ⟨a,b,h1,h2,h3,h4,h5,h6,h7,h8⟩
 ·exact .inl ⟨h1,h2,h3,h4⟩
 ·exact .inr ⟨a,b,h1,h2,h3,h4.later hle,h5.later hle,oO h6 hle,h7,h8⟩
theorem Sm.step{n k m1 m2:Nat}{v1 v2:VM}(h:Sm n k v1 v2)(hV1:VI n m1 v1)(hV2:VI n m2 v2)(hk:k+2 < 256)(o:R5)(ho:ml o):(aQ n v1 o).2=(aQ n v2 o).2∧Sm n (k+2) (aQ n v1 o).1 (aQ n v2 o).1:=by
 unfold aQ
 by_cases h1:o.kind=1
 ·rw[if_pos h1,if_pos h1];exact⟨rfl,(h.tick hV1 o.N).more om⟩
 rw[if_neg h1,if_neg h1]
 by_cases h2:o.kind=2
 ·rw[if_pos h2,if_pos h2];obtain⟨a,b⟩:=h.boot hV1 hV2 om;exact⟨a,b.more om⟩
 rw[if_neg h2,if_neg h2]
 by_cases h3:o.kind=3
 ·rw[if_pos h3,if_pos h3];obtain⟨a,b⟩:=h.verify hV1 hV2 om o.data;exact⟨a,b.more om⟩
 rw[if_neg h3,if_neg h3];have h4:o.kind=4:=by rcases ho with h | h | h | h <;> first | exact h | (exfalso;omega)
 rw[if_pos h4,if_pos h4];obtain⟨a1,a2,a3⟩:=h.compactR hV2 om;obtain⟨b1,b2,b3⟩:=a1.symm.compactR hV1 om;obtain⟨c1,c2,c3⟩:=h.symm.compactR hV1 om;refine⟨?_,b1.symm⟩
 rcases h.s with ⟨q1,q2,_⟩ | ⟨a,b,q1,q2,_⟩
 ·rw[a2 q1,c2 q2]
 ·rw[a3 (by rw[q1];exact fun h=>by cases h),c3 (by rw[q2];exact fun h=>by cases h)]
theorem Sm.new(n:Nat)(hn:n≤4096)(h2:2≤n)(key:RW)(skew:Int):Sm n 0 (bN key skew (dG (n:Int))) (bN key skew (dG (n:Int))) :=
 ⟨rfl,rfl,rfl,rfl,rfl,rfl,rfl,.inl ⟨rfl,rfl,Cr.nil rfl rfl (iJ n hn h2 0),Cr.nil rfl rfl (iJ n hn h2 0)⟩⟩
theorem G5{n k m1 m2:Nat}{v1 v2:VM}(h:Sm n k v1 v2)(hV1:VI n m1 v1)(hV2:VI n m2 v2)(hk:k+2 < 256)(o:R5)(ho:ml o):jt n v1 o=jt n v2 o:=by
 obtain⟨h1,h2⟩:=h.step hV1 hV2 hk o ho;unfold jt;rw[h1,h2.now,h2.look1,h2.look2,h2.live,h.key]
theorem xT{n:Nat}(hn:n≤100)(h2:2≤n):∀ (L:List R5) (k m1 m2:Nat) (v1 v2:VM),Sm n k v1 v2→VI n m1 v1→VI n m2 v2→k+2 * L.length < 256→(∀ o ∈ L,ml o)→(runL n v1 L).1=(runL n v2 L).1
 | [],_,_,_,_,_,_,_,_,_,_=>rfl
 | o :: L,k,m1,m2,v1,v2,h,hV1,hV2,hk,ho=>by
  simp only[List.length_cons] at hk;have hs:=h.step hV1 hV2 om o (ho o sm);rw[em,em,G5 h hV1 hV2 om o (ho o sm),hs.2.look1,hs.2.look2];simp only;rw[xT hn h2 L (k+2) (m1+120) (m2+120) _ _ hs.2 (hV1.step hn h2 o) (hV2.step hn h2 o) om (fun o ho'=>ho o (List.mem_cons_of_mem _ ho'))]
theorem Sm.runL{n:Nat}(hn:n≤100)(h2:2≤n):∀ (L:List R5) (k m:Nat) (v:VM),Sm n k v v→VI n m v→k+2 * L.length < 256→(∀ o ∈ L,ml o)→Sm n (k+2 * L.length) (runL n v L).2 (runL n v L).2∧∃ m',VI n m' (Go.Proofs.YtlcfaaodmickbaaGreatDoor.runL n v L).2
 | [],k,m,v,h,hV,_,_=>⟨h,m,hV⟩
 | o :: L,k,m,v,h,hV,hk,ho=>by
  simp only[List.length_cons] at hk;have hs:=h.step hV hV om o (ho o sm);rw[em,hs.2.look1];obtain⟨h1,h3⟩:=Sm.runL hn h2 L (k+2) (m+120) _ hs.2 (hV.step hn h2 o) om (fun o ho'=>ho o (List.mem_cons_of_mem _ ho'));exact⟨h1.more (by simp only[List.length_cons];omega),h3⟩
theorem qa(n:Nat)(hn:n≤100)(h2:2≤n)(key:RW)(skew:Int)(hs1:1≤skew)(hs2:skew≤1073741824)(L K:List R5)(c:R5)(hc:c.kind=4)(hl:L.length+K.length≤60)(hL:∀ o ∈ L,ml o)(hK:∀ o ∈ K,ml o):
  ∃ A r B,(runL n (bN key skew (dG (n:Int))) (L ++ K)).1=A ++ B∧(runL n (bN key skew (dG (n:Int))) (L ++ c :: K)).1=A ++ r :: B∧A.length=L.length∧B.length=K.length:=by
 have h0:=Sm.new n om h2 key skew;have hV0:=VI.new (n:=n) key skew hs1 hs2 om;obtain⟨h1,m,hV1⟩:=Sm.runL hn h2 L 0 _ _ h0 hV0 om hL;refine⟨(runL n (bN key skew (dG (n:Int))) L).1,jt n (runL n (bN key skew (dG (n:Int))) L).2 c,(runL n (runL n (bN key skew (dG (n:Int))) L).2 K).1,?_,?_,qR _ _ _,qR _ _ _⟩
 ·rw[qQ]
 ·rw[qQ,em];simp only;generalize (runL n (bN key skew (dG (n:Int))) L).2=v at *;have e:(aQ n v c).1=(aW v).1:=by
   unfold aQ;rw[if_neg om,if_neg om,if_neg om,if_pos hc]
  obtain⟨g1,_⟩:=h1.compactR hV1 om;rw[e,g1.look2];rw[xT hn h2 K (0+2 * L.length+1) m (m+120) v _ g1 hV1 (by have:=hV1.step hn h2 c;rw[e] at this;exact this) om hK]
end
section
open Go.RowKit Go.ChangeMaps
def Sk(v:Value)(lo hi:Option Value):Sem Value:=Instr.sliceAt 25 v lo hi none
@[go_sem ↓] theorem Pi(v:Value)(lo hi:Option Value):Instr.sliceAt 25 v lo hi none=Sk v lo hi:=rfl
theorem rj:prog.underlying 25=some (.slice (prog.elem 25)):=kr
theorem xX(w:World):(sizeOf (prog.elem 25)).run prog w = .ok 4 w:=by
 have he:prog.elem 25=42:=kr;obtain⟨i,hi,hs⟩:=Option.map_eq_some_iff.1 uW;rw[he];simp[sizeOf,typeInfo,hi,hs]
theorem mH{α:Type}(f:α→Array Value)(sz:Nat)(h:∀ x,(f x).size=sz):∀ (L:List α) (k:Nat),aZ f (L.take k)=(aZ f L).take (k * sz)
 | [],k=>by simp[aZ]
 | a :: L,0=>by simp[aZ]
 | a :: L,k+1=>by
  have hl:(f a).toList.length=sz:=by simpa using h a
  show (f a).toList ++ aZ f (L.take k)=((f a).toList ++ aZ f L).take ((k+1) * sz)
  rw[mH f sz h L k,List.take_append,List.take_of_length_le (l:=(f a).toList) (by rw[hl,Nat.succ_mul];omega),hl,Nat.succ_mul,Nat.add_sub_cancel]
theorem mG{α:Type}(f:α→Array Value)(sz:Nat)(h:∀ x,(f x).size=sz):∀ (L:List α) (k:Nat),aZ f (L.drop k)=(aZ f L).drop (k * sz)
 | [],k=>by simp[aZ]
 | a :: L,0=>sm
 | a :: L,k+1=>by
  have hl:(f a).toList.length=sz:=by simpa using h a
  show aZ f (L.drop k)=((f a).toList ++ aZ f L).drop ((k+1) * sz)
  rw[mG f sz h L k,List.drop_append,List.drop_of_length_le (l:=(f a).toList) (by rw[hl,Nat.succ_mul];omega),hl,Nat.succ_mul,Nat.add_sub_cancel,List.nil_append]
theorem QH{w:World}{a:Option Addr}{m c:Nat}{L:List R3}(h:Se w (.slice a m c) m 4 (aZ jE L))(k:Nat)(hk:k≤m):
  ∃ a1 c1,(∀ u,(Sk (.slice a m c) none (some (.int .i64 (k:Int)))).run prog u = .ok (.slice a1 k c1) u)∧Se w (.slice a1 k c1) k 4 (aZ jE (L.take k)):=by
 obtain⟨ad',cap,hv,g1,g2,g3,g4,g5⟩:=h;simp only[Value.slice.injEq,true_and] at hv;obtain⟨rfl,rfl⟩:=hv;refine⟨if c=0 then a else a.map (·.add (0 * 4)),c,fun u=>?_,_,_,rfl,om,g2,?_,fun h0=>?_,fun h0=>?_⟩
 ·unfold Sk;rw[run_sliceAt_slice _ _ _ _ _ _ rj,run_slice_h _ _ _ _ _ rj _ _ om om,xX];simp only[Result.andThen_ok,sliced,Int.toNat_natCast,Nat.sub_zero]
 ·rw[mH jE 4 gL,List.length_take,g3];omega
 ·have h1:a=none:=by
   cases a with
   | none=>rfl
   | some x=>split at h0 <;> simp at h0
  have:=g4 h1;omega
 ·obtain⟨b,o,e,hr⟩:=g5 om;subst e;refine⟨b,o,by rw[if_neg om];simp[Addr.add],?_⟩
  have h2:=aB hr o (k * 4) om om;rw[h2,mH jE 4 gL,Nat.sub_self]
  congr 1
  apply Array.ext'
  simp[List.extract_eq_take_drop]
theorem QI{w:World}{a:Option Addr}{m c:Nat}{L:List R3}(h:Se w (.slice a m c) m 4 (aZ jE L))(k:Nat)(hk:k≤m):
  ∃ a1 c1,(∀ u,(Sk (.slice a m c) (some (.int .i64 (k:Int))) none).run prog u = .ok (.slice a1 (m - k) c1) u)∧Se w (.slice a1 (m - k) c1) (m - k) 4 (aZ jE (L.drop k)):=by
 obtain⟨ad',cap,hv,g1,g2,g3,g4,g5⟩:=h;simp only[Value.slice.injEq,true_and] at hv;obtain⟨rfl,rfl⟩:=hv;refine⟨if c=k then a else a.map (·.add (k * 4)),c - k,fun u=>?_,_,_,rfl,om,om,?_,fun h0=>?_,fun h0=>?_⟩
 ·unfold Sk;rw[run_sliceAt_slice _ _ _ _ _ _ rj,run_slice_l _ _ _ _ _ rj _ _ om om,xX];simp only[Result.andThen_ok,sliced,Int.toNat_natCast]
 ·rw[mG jE 4 gL,List.length_drop,g3];omega
 ·have h1:a=none:=by
   cases a with
   | none=>rfl
   | some x=>split at h0 <;> simp at h0
  have:=g4 h1;omega
 ·obtain⟨b,o,e,hr⟩:=g5 om;subst e;refine⟨b,o+k * 4,by rw[if_neg om];simp[Addr.add],?_⟩
  have h2:=aB hr (o+k * 4) ((m - k) * 4) om om;rw[h2,mG jE 4 gL,Nat.add_sub_cancel_left]
  congr 1
  apply Array.ext'
  simp[List.extract_eq_take_drop];exact List.take_of_length_le (by rw[List.length_drop,g3];omega)
theorem MN:(prog.info? 42).map (fun i=>(i.zero,i.size,i.bytes))=some (some (.agg (Td ⟨0,0,[],[]⟩ (.slice none 0 0) (.slice none 0 0))),4,64):=kr
theorem yd:prog.underlying 25=some (.slice 42):=kr
theorem jP(L:List R3)(hL:∀ x ∈ L,x.2.1.oneCell'=true∧x.2.2.oneCell'=true):∀ u ∈ aZ jE L,u.oneCell'=true:=by
 intro u hu;simp only[aZ,List.mem_flatMap] at hu;obtain⟨x,hx,hu⟩:=hu;have:=hL x hx;simp only[jE,Td,List.mem_cons,List.not_mem_nil,or_false] at hu
 rcases hu with rfl | rfl | rfl | rfl
 ·rfl
 ·rfl
 ·exact this.1
 ·exact this.2
theorem pY{w:World}{base:Nat}{v:Value}{n:Nat}{xs:List Value}(hown:w.ownsRow base 42 4 v n xs){vx:Value}{m:Nat}{news:List Value}(hsrc:Se w vx m 4 news)(h1:∀ u ∈ news,u.oneCell'=true)(hn:n+m≤1000)(hbase:base≤w.heap.size):
  ∃ v' w',(Builtin.append_ #[25,25] 25 #[v,vx]).run prog w = .ok v' w'∧w'.ownsRow base 42 4 v' (n+m) (xs ++ news)∧w.grownBy w' v.ownBlock:=by
 obtain⟨i,hi,hz,hs,hb⟩:=info_parts MN;obtain⟨ad,cap,rfl,hc1,hc2,hlen,hnil,hrd⟩:=hsrc;cases ad with
 | none =>
  obtain⟨rfl,rfl⟩:=hnil rfl;have e0:news=[]:=List.eq_nil_of_length_eq_zero (by simpa using hlen)
  subst e0;exact⟨v,w,run_append_owned_none w base _ _ _ i 4 yd hi v n xs hown,by simpa using hown,⟨rfl,rfl,rfl,Nat.le_refl _,fun _ _ _=>rfl⟩⟩
 | some ad =>
  have hcell:∀ j u,news[j]? = some u→w.cell? (ad.add j)=some u:=by
   intro j u hu;have hm:0 < m:=by
    rcases Nat.eq_zero_or_pos m with h0 | h0
    ·subst h0;have e0:news=[]:=List.eq_nil_of_length_eq_zero (by simpa using hlen)
     subst e0;cases hu
    ·exact h0
   obtain⟨b,o,e2,hr⟩:=hrd hm;cases e2;have:=(cJ hr).1 j u (by simpa using hu)
   rw[Addr.add_lit];exact this
  obtain⟨v',w',hr,ho,hg,_,_⟩:=run_append_own_at (P:=prog) w base _ 25 _ i _ 4 64 yd hi hz hs hb (by simp[Value.cells]) dc v n xs hown ad m cap news hlen hcell h1 (by simp only[maxLen];omega) om hbase
  exact⟨v',w',hr,ho,hg⟩
theorem je{P:Program}{ops:Array Oper}{Q:Exit→Act→World→Prop}{rest:List Oper}{o:Oper}{a:Act}{w w':World}{v':Value}(hgd:o.guard=none)(s x:Operand)(t:TypeId)(ho:o.op = .call { callee:=.builtin .append,args:=#[s,x],argTypes:=#[t,t] })
  (vs vx:Value) (hs:a.eval s=vs) (hx:a.eval x=vx) (hr:(Builtin.append_ #[t,t] o.type #[vs,vx]).run P w = .ok v' w') (h:wpList P ops Q rest (a.put o.dst v') w'):wpList P ops Q (o :: rest) a w :=
 wpList_plain hgd fun K hK=>by
  have h1:(execOp a.eval o).run P w = .ok (.value v') w':=by
   unfold execOp;simp only[ho,resolve,invoke,builtin,Sem.run_bind,Sem.run_pure,Result.andThen_ok,List.map_toArray,List.map_cons,List.map_nil,hs,hx,hr]
  unfold Oper.wp;rw[h1];exact hK _ _ h
theorem D9(w:World):(Instr.buildSlice 25 0 #[]).run prog w = .ok (.slice (some ⟨w.heap.size,0,none⟩) 0 0) (w.alloc (.cells #[] 42)):=kr
@[go_sem ↓] theorem Hj(w:World):(lF 0 #[]).run prog w = .ok (.slice (some ⟨w.heap.size,0,none⟩) 0 0) (w.alloc (.cells #[] 42)):=D9 w
theorem Ea(w:World)(o:R5)(ad:Option Addr)(n c:Nat)(ad2:Option Addr)(n2 c2:Nat):(Instr.buildSlice 25 1 #[(0,.agg (Td o (.slice ad n c) (.slice ad2 n2 c2)))]).run prog w = .ok (.slice (some ⟨w.heap.size,0,none⟩) 1 1) (w.alloc (.cells (Td o (.slice ad n c) (.slice ad2 n2 c2)) 42)):=kr
@[go_sem ↓] theorem H8(w:World)(o:R5)(ad:Option Addr)(n c:Nat)(ad2:Option Addr)(n2 c2:Nat):(lF 1 #[(0,.agg (Td o (.slice ad n c) (.slice ad2 n2 c2)))]).run prog w = .ok (.slice (some ⟨w.heap.size,0,none⟩) 1 1) (w.alloc (.cells (Td o (.slice ad n c) (.slice ad2 n2 c2)) 42)):=Ea w o ad n c ad2 n2 c2
theorem Ii(w:World):(Instr.build 42 #[(0,.int .i64 4)]).run prog w = .ok (.agg (Td ⟨4,0,[],[]⟩ (.slice none 0 0) (.slice none 0 0))) w:=kr
@[go_sem ↓] theorem JF(w:World):(mg #[(0,.int .i64 4)]).run prog w = .ok (.agg (Td ⟨4,0,[],[]⟩ (.slice none 0 0) (.slice none 0 0))) w:=Ii w
theorem Ra(w:World)(o:R5)(dv cv:Value):Se (w.alloc (.cells (Td o dv cv) 42)) (.slice (some ⟨w.heap.size,0,none⟩) 1 1) 1 4 (aZ jE [(o,dv,cv)]) :=
 ⟨_,_,rfl,om,by simp[maxLen],rfl,(fun h=>by cases h),(fun _=>⟨_,_,rfl,aj _ _ _ _ _ _ _ rfl (by simp[jE,aZ])⟩)⟩
end
section
open Go.RowKit Go.ChangeMaps
theorem Pu:prog.underlying 38=some (.struct (prog.fieldsOf 38)):=kr
@[go_sem ↓] theorem LS(w:World)(b o:Nat)(h:(readAt w b o 36).isSome=true):
  (AX (.pointer (some ⟨b,o,none⟩))).run prog w = .ok (.agg ((readAt w b o 36).getD #[])) w:=by
 obtain⟨cs,hc⟩:=Option.isSome_iff_exists.1 h;unfold AX;rw[aJ w b o 36 38 _ cs hc Pu rfl KV,hc];rfl
theorem OL:prog.stoodInHeld 38=false:=kr
theorem F8 : (Tryz.prog.fieldsOf 38).toList = [{ name := "Kind", type := 3, offset := 0, embedded := false, tag := "", pkgPath := "", byteOffset := 0 }, { name := "Code", type := 34, offset := 1, embedded := false, tag := "", pkgPath := "", byteOffset := 8 }, { name := "Now", type := 2, offset := 2, embedded := false, tag := "", pkgPath := "", byteOffset := 16 }, { name := "Live", type := 3, offset := 3, embedded := false, tag := "", pkgPath := "", byteOffset := 24 }, { name := "Digest", type := 36, offset := 4, embedded := false, tag := "", pkgPath := "", byteOffset := 32 }] := by kernel_rfl
theorem QF(w:World)(k c t l:Int)(g:RP):(part 36 (eS k c t l g) 4).run prog w = .ok (.agg (av g)) w:=by
 obtain⟨i,hi,hs⟩:=Option.map_eq_some_iff.1 sv;have he:(eS k c t l g).extract 4 (4+32)=av g:=by
  apply Array.ext'
  simp[eS,← nZ,List.extract_eq_take_drop];exact List.take_of_length_le sm
 simp[part,CF,sizeOf,typeInfo,hi,hs,he]
@[go_sem ↓ high] theorem Ik(w:World)(k c t l:Int)(g:RP):(Op.equalIn 10000 38 (.agg (eS k c t l g)) (.agg (eS k c t l g))).run prog w = .ok true w:=by
 rw[run_equalIn_struct w 9999 _ _ _ Pu OL,F8];have hi:∀ (T:TypeId) (x:Int),prog.underlying T=some (.int .i64)→(Op.equalIn 9999 T (.int .i64 x) (.int .i64 x)).run prog w = .ok true w:=fun T x hT=>by
  have:=run_equalIn_int (P:=prog) w 9998 T .i64 .i64 x x hT
  simpa using this
 have p0:(part 3 (eS k c t l g) 0).run prog w = .ok (.int .i64 k) w:=run_part_plain w kr (by simp[eS])
 have p1:(part 34 (eS k c t l g) 1).run prog w = .ok (.int .i64 c) w:=run_part_plain w kr (by simp[eS])
 have p2:(part 2 (eS k c t l g) 2).run prog w = .ok (.int .i64 t) w:=run_part_plain w kr (by simp[eS])
 have p3:(part 3 (eS k c t l g) 3).run prog w = .ok (.int .i64 l) w:=run_part_plain w kr (by simp[eS])
 have p4:=QF w k c t l g;have e0:=hi 3 k underlying3;have e1:=hi 34 c underlying34;have e2:=hi 2 t underlying2;have e3:=hi 3 l underlying3;have e4:(Op.equalIn 9999 36 (.agg (av g)) (.agg (av g))).run prog w = .ok true w:=by
  have:=po w 9997 g g
  simpa using this
 have step : ∀ (f : Field) (fs : List Field) (v : Value), f.name ≠ "_" → (part f.type (eS k c t l g) f.offset).run Tryz.prog w = .ok v w → (Op.equalIn 9999 f.type v v).run Tryz.prog w = .ok true w → (Op.eqFields 9999 (eS k c t l g) (eS k c t l g) fs).run Tryz.prog w = .ok true w → (Op.eqFields 9999 (eS k c t l g) (eS k c t l g) (f :: fs)).run Tryz.prog w = .ok true w := by
  intro f fs v hf h1 h2 h3;rw[Op.eqFields,if_pos hf];simp only[Sem.run_bind,h1,h2,h3,Result.andThen_ok,Bool.not_true,Bool.false_eq_true,if_false]
 refine step _ _ _ dc p0 e0 (step _ _ _ dc p1 e1 (step _ _ _ dc p2 e2 (step _ _ _ dc p3 e3 (step _ _ _ dc p4 e4 ?_))));rw[Op.eqFields];rfl
@[go_sem] theorem FZ:prog.eqGuardType prog.depth 38=false:=kr
end
section
open Go.RowKit Go.ChangeMaps
def Te(x:R3):Bool := !(x.1.kind == 5) && !(x.1.kind == 6)
def Tf(L:List R3):List R3:=L.filter Te
theorem Lq{l:List R3}{x:R3}(h5:x.1.kind≠5)(h6:x.1.kind≠6):Tf (l ++ [x])=Tf l ++ [x]:=by
 unfold Tf;rw[List.filter_append];simp[Te,h5,h6]
theorem O5{l:List R3}{x:R3}(h:x.1.kind=5∨x.1.kind=6):Tf (l ++ [x])=Tf l:=by
 unfold Tf;rw[List.filter_append]
 rcases h with h | h <;> simp[Te,h]
theorem Lp{l:List R3}{x:R3}(h:x ∈ Tf l):x ∈ l∧x.1.kind≠5∧x.1.kind≠6:=by
 have:=List.mem_filter.1 h;refine⟨this.1,?_⟩;have h2:=this.2;simp[Te] at h2;exact h2
theorem Dr(l:List R3):(Tf l).length≤l.length:=List.length_filter_le _ _
theorem qr{α:Type}(f:α→Array Value)(l m:List α):aZ f (l ++ m)=aZ f l ++ aZ f m:=by simp[aZ]
theorem Jo{w:World}{x:R3}(h:uw w x.1 x.2.1 x.2.2):x.2.1.oneCell'=true∧x.2.2.oneCell'=true:=by
 obtain⟨⟨a1,k1,h1,_⟩,h2⟩:=h;obtain⟨a2,k2,h2,_⟩:=h2;rw[h1,h2];exact⟨rfl,rfl⟩
theorem rP(w:World)(key:RW)(skew n:Int)(ad:Option Addr)(kn c:Nat)(L:List R3)(a2:Int)(hL:L.length=kn)(hO:rC w (.slice ad kn c) L)(hkn:kn≤9223372036854775807)(h2:0≤a2∧a2≤255)(hg:GK w):
  Calls prog 4 #[.agg (bQ key skew n),.slice ad kn c,.int .u8 a2] w fun e w'=>e = .returned (.bool true)∧Below w.heap.size w w':=by
 obtain⟨W,rfl⟩ : ∃ m:Nat,a2=(m:Int):=⟨a2.toNat,om⟩;have hM:=eV.made w key skew n;have hb1:=ba (.cells (bQ key skew n) 24) (Sy w);have HO:=SM (hO.below hb1);have HL:=SM hL;have HG:=SM (hg.below hg.1 hb1);have HW:=SM h2;clear hO hL hg h2
 go_in
 go_upto_region 1 with fail
 generalize w.alloc (.cells (bQ key skew n) 24)=w1 at *;have HM:=SM hM;have HB:=SM hb1;clear hM hb1
 go_wp2_with fail
 refine (eT w1 HG.o).mono ?_;rintro _ w2 ⟨rfl,hb⟩;replace HM:=SM (HM.o.below hb);replace HO:=SM (HO.o.below hb);replace HG:=SM (HG.o.below HG.o.1 hb);replace HB:=SM (bt HB.o hb);clear hb;have q1:=HM.o.r
 go_wp2_with fail
 refine (jZ w2 key skew n ad kn c L HL.o HO.o hkn).mono ?_;rintro _ w3 ⟨⟨bb,rfl,hbb⟩,hb⟩;replace HM:=SM (HM.o.below hb);replace HO:=SM (HO.o.below hb);replace HG:=SM (HG.o.below HG.o.1 hb);replace HB:=SM (bt HB.o hb);clear hb q1;cases bb with
 | false =>
  clear hbb
  go_wp2_with fail
  refine (eT w3 HG.o).mono ?_;rintro _ w4 ⟨rfl,hb⟩;replace HB:=SM (bt HB.o hb)
  go_wp2
  go_ret
  exact⟨rfl,HB.o⟩
 | true =>
  have HA:=SM (hbb rfl);clear hbb;obtain⟨n,rfl⟩ : ∃ m:Nat,n=(m:Int):=⟨n.toNat,by have:=HA.o.n;omega⟩
  have hn2:2≤n:=by have:=HA.o.n;omega
  have hn30:n≤30:=by have:=HA.o.n;omega
  have hk40:kn≤40:=by have:=HA.o.l;have:=HL.o;omega
  have hs1:1≤skew:=HA.o.s.1;have hs2:skew≤1073741824:=HA.o.s.2
  go_wp2
  go_loopw [7,8] (fun pv i wr=>∃ k:Nat,k≤kn∧i = .int .i64 k∧wr.ownsRow w3.heap.size 42 4 pv (Tf (L.take k)).length (aZ jE (Tf (L.take k)))∧Below w3.heap.size w3 wr) (fun _ i _=>kn - (intOf i).toNat)
  case atStart=>exact⟨0,om,rfl,by simpa [Tf,aZ] using World.ownsRow_nil _ _ _ _,Below.refl _ _⟩
  case round =>
   obtain⟨k,hk,rfl,hown,hbr⟩:=hrel
   by_cases hlt:k < kn
   ·have d1:decide ((k:Int) < (kn:Int))=true:=dt;have hOr:=HO.o.below hbr;obtain⟨b,oo,had,hrd⟩:=hOr.cell HL.o k hlt;have hmem:L[k]'(by rw[HL.o];exact hlt) ∈ L:=List.getElem_mem _
    have hOx:=hOr.o _ hmem;have h1c:=Jo hOx;have htk:L.take (k+1)=L.take k ++ [L[k]'(by rw[HL.o];exact hlt)]:=by
     rw[List.take_add_one,List.getElem?_eq_getElem (by rw[HL.o];exact hlt)];simp
    obtain⟨x,hx⟩:=eY (L[k]'(by rw[HL.o];exact hlt))
    rw[hx] at hrd hOx htk h1c;clear hmem hx hOr;obtain⟨o,dv,cv⟩:=x;obtain⟨⟨a1,k1,hdv,hBs⟩,hcu⟩:=hOx;obtain⟨a2',k2,hcv,_⟩:=hcu;simp only at hdv hcv htk;subst hdv hcv had;have o0:wr.cell? ⟨b,oo+k * 4,none⟩=some (.int .i64 o.kind):=ab hrd 0 _ rfl;have hrd':readAt wr b (oo+k * 4) 4=some (Td o (.slice a1 o.data.length k1) (.slice a2' o.cuts.length k2)):=hrd;have k0:(0:Int)≤(k:Int):=om;have k3:(k:Int) < (kn:Int):=om
    have wk:IntKind.i64.wrap ((k:Int)+1)=(k:Int)+1:=wi;have Hown:=SM hown;have Hbr:=SM hbr;have Htk:=SM htk;have hlen:(Tf (L.take k)).length≤40:=by have:=Dr (L.take k);rw[List.length_take] at this;omega
    clear hown hbr hrd htk hBs
    by_cases hp:o.kind=5∨o.kind=6
    ·have Hno:=SM (O5 (l:=L.take k) (x:=(o,.slice a1 o.data.length k1,.slice a2' o.cuts.length k2)) hp);have Hp:=SM hp;clear hp
     by_cases h5:o.kind=5
     ·have d5:(o.kind != 5)=false:=by simpa using h5
      clear h5
      go_wp2
      go_roundw
      case rel=>exact⟨k+1,om,by go_num,by rw[Htk.o,Hno.o];exact Hown.o,Hbr.o⟩
      case measure=>simp[intOf];omega
     ·have h6:o.kind=6:=by rcases Hp.o with h | h;exact absurd h h5;exact h
      have d5:(o.kind != 5)=true:=by simpa using h5
      have d6:(o.kind != 6)=false:=by simpa using h6
      clear h5 h6
      go_wp2
      go_roundw
      case rel=>exact⟨k+1,om,by go_num,by rw[Htk.o,Hno.o];exact Hown.o,Hbr.o⟩
      case measure=>simp[intOf];omega
    ·have h5:o.kind≠5:=fun h=>hp (.inl h);have h6:o.kind≠6:=fun h=>hp (.inr h);have Hyes:=SM (Lq (l:=L.take k) (x:=(o,.slice a1 o.data.length k1,.slice a2' o.cuts.length k2)) h5 h6);have d5:(o.kind != 5)=true:=by simpa using h5
     have d6:(o.kind != 6)=true:=by simpa using h6
     clear h5 h6 hp;have hb2:=ba (.cells (Td o (.slice a1 o.data.length k1) (.slice a2' o.cuts.length k2)) 42) (Sy wr);have hsz:=Hbr.o.size;obtain⟨v',w',hr,ho',hg'⟩:=pY (ah Hown.o hb2) (Ra wr o (.slice a1 o.data.length k1) (.slice a2' o.cuts.length k2)) (jP _ (fun x hx=>by rw[List.mem_singleton.1 hx];exact h1c)) om (Nat.le_trans hsz hb2.size)
     have hbw:=(bt Hbr.o hb2).grown hg' (Nat.le_trans hsz hb2.size) (fun r e=>(Hown.o.lt r e).1);have ho2:Hd (w'.ownsRow w3.heap.size 42 4 v' (Tf (L.take (k+1))).length (aZ jE (Tf (L.take (k+1))))):=SM (by
      rw[Htk.o,Hyes.o,qr,List.length_append];exact ho')
     have Hbw:=SM hbw;clear hb2 hsz ho' hg' hbw Hown Hyes Htk
     go_wp2_with (at_builtin;refine je rfl _ _ _ rfl _ _ rfl rfl hr ?_)
     go_roundw
     case rel=>exact⟨k+1,om,by go_num,ho2.o,Hbw.o⟩
     case measure=>simp[intOf];omega
   ·obtain rfl:k=kn:=om;have d1:decide ((k:Int) < (k:Int))=false:=sm;rw[List.take_of_length_le (by rw[HL.o];exact Nat.le_refl _)] at hown
    obtain⟨pl,hpl⟩:=eY (Tf L);have hpm:∀ x ∈ pl,x ∈ L∧x.1.kind≠5∧x.1.kind≠6:=fun x hx=>Lp (by rw[hpl];exact hx)
    have hplen:pl.length≤40:=by have:=Dr L;rw[hpl,HL.o] at this;omega
    rw[hpl] at hown;obtain⟨pa,pc,rfl,hrd⟩:=aG hown;obtain⟨m,hm⟩:=eY pl.length;rw[hm] at hrd hplen hown ⊢;obtain⟨kk,hkk⟩:=eY (W % (m+1));have hkm:kk≤m:=by have:=Nat.mod_lt W (show 0 < m+1 by omega);omega
    have wW:IntKind.i64.wrap (W:Int)=(W:Int):=by rw[IntKind.wrap_i64];have:=HW.o;omega
    have wm:IntKind.i64.wrap ((m:Int)+1)=(m:Int)+1:=wi;have wr1:(W:Int).tmod ((m:Int)+1)=(kk:Int):=by rw[Int.tmod_eq_emod_of_nonneg om,← hkk];simp
    have wz0:(m:Int)+1≠0:=om;have wz:((m:Int)+1 == 0)=false:=by simpa using wz0
    have Hm:=SM hm;have Hpm:=SM hpm;have Hrd:Hd (Se wr (.slice pa m pc) m 4 (aZ jE pl)):=SM ⟨_,_,rfl,hrd⟩;have Hbr:=SM hbr;clear hm hpm hrd hbr hown hpl hkk
    go_upto_region 10 with fail
    clear wW wm wr1 wz wz0;have hone:∀ x ∈ pl,x.2.1.oneCell'=true∧x.2.2.oneCell'=true:=fun x hx=>Jo (HO.o.o x (Hpm.o x hx).1);have hown0:=World.ownsRow_lit (base:=wr.heap.size) (size:=4) (e:=42) wr #[] 0 (Nat.le_refl _) (by simp[maxLen]) sm
    have hb1:=ba (.cells #[] 42) (Sy wr);obtain⟨pa1,pc1,hsl1,hr1⟩:=QH Hrd.o kk hkm;obtain⟨v1,u2,hA1,ho1,hg1⟩:=pY hown0 (hr1.below hb1) (jP _ (fun x hx=>hone x (List.mem_of_mem_take hx))) om hb1.size;have hb2:=hb1.grown hg1 hb1.size (fun r e=>(hown0.lt r e).1);have hb3:=ba (.cells (Td ⟨4,0,[],[]⟩ (.slice none 0 0) (.slice none 0 0)) 42) (Sy u2);have ho1':=ah ho1 hb3;obtain⟨v2,u4,hA2,ho2,hg2⟩:=pY ho1' (Ra u2 ⟨4,0,[],[]⟩ (.slice none 0 0) (.slice none 0 0)) (jP _ (fun x hx=>by rw[List.mem_singleton.1 hx];exact⟨rfl,rfl⟩)) om (Nat.le_trans hb2.size hb3.size)
    have hb4:=(bt hb2 hb3).grown hg2 (Nat.le_trans hb2.size hb3.size) (fun r e=>(ho1'.lt r e).1);obtain⟨pa2,pc2,hsl2,hr2⟩:=QI Hrd.o kk hkm;obtain⟨v3,u5,hA3,ho3,hg3⟩:=pY ho2 (hr2.below hb4) (jP _ (fun x hx=>hone x (List.mem_of_mem_drop hx))) om hb4.size;have hb5:=hb4.grown hg3 hb4.size (fun r e=>(ho2.lt r e).1);have hb6:=Hbr.o.trans (hb5.mono Hbr.o.size);have hrow:u5.ownsRow wr.heap.size 42 4 v3 (m+1) (aZ jE (pl.take kk ++ (⟨4,0,[],[]⟩,.slice none 0 0,.slice none 0 0) :: pl.drop kk)):=by
     have e:0+kk+1+(m - kk)=m+1:=om;rw[e] at ho3;rw[qr,show ((⟨4,0,[],[]⟩,.slice none 0 0,.slice none 0 0) :: pl.drop kk:List R3)=[(⟨4,0,[],[]⟩,.slice none 0 0,.slice none 0 0)] ++ pl.drop kk from rfl,qr,← List.append_assoc]
     simpa using ho3
    obtain⟨ma,mc,rfl,hrm⟩:=aG hrow;have HRp:=SM (Hrd.o.below hb5);have HRm:Hd (Se u5 (.slice ma (m+1) mc) (m+1) 4 (aZ jE (pl.take kk ++ (⟨4,0,[],[]⟩,.slice none 0 0,.slice none 0 0) :: pl.drop kk))):=SM ⟨_,_,rfl,hrm⟩;have HB6:=SM hb6;clear hone hown0 hb1 hr1 ho1 hg1 hb2 hb3 ho1' ho2 hg2 hb4 hr2 ho3 hg3 hb5 hb6 hrow hrm;have q1:=(HM.o.below HB6.o).r;rw[show bQ key skew (n:Int)=du key skew (n:Int) from by unfold bQ du;rfl] at q1
    have hpost:=lG u5 key skew n m pc pa pl hs1 hs2 hn2 om Hm.o om ⟨by rw[Hm.o];exact HRp.o,fun x hx=>(HO.o.o x (Hpm.o x hx).1).below HB6.o⟩ (fun x hx=>HA.o.o x (Hpm.o x hx).1) (HG.o.below HG.o.1 HB6.o)
    go_wp2_with (at_builtin;first | refine je rfl _ _ _ rfl _ _ rfl rfl hA1 ?_ | refine je rfl _ _ _ rfl _ _ rfl rfl hA2 ?_ | refine je rfl _ _ _ rfl _ _ rfl rfl hA3 ?_)
    refine hpost.mono ?_;rintro _ u6 ⟨⟨ra,rfl,hrowA⟩,hb⟩;clear hpost q1 hA1 hA2 hA3 hsl1 hsl2;replace HB6:=SM (bt HB6.o hb);replace HRm:=SM (HRm.o.below hb);have q1:=(HM.o.below HB6.o).r;rw[show bQ key skew (n:Int)=du key skew (n:Int) from by unfold bQ du;rfl] at q1
    obtain⟨mo,hmo⟩:=eY (pl.take kk ++ ((⟨4,0,[],[]⟩,.slice none 0 0,.slice none 0 0) :: pl.drop kk:List R3));have hml:mo.length=m+1:=by
     rw[← hmo,List.length_append,List.length_cons,List.length_take,List.length_drop,Hm.o];omega
    have hmem:∀ x ∈ mo,x=(⟨4,0,[],[]⟩,.slice none 0 0,.slice none 0 0)∨x ∈ pl:=by
     intro x hx;rw[← hmo] at hx
     rcases List.mem_append.1 hx with h | h
     ·exact .inr (List.mem_of_mem_take h)
     ·rcases List.mem_cons.1 h with h | h
      ·exact .inl h
      ·exact .inr (List.mem_of_mem_drop h)
    rw[hmo] at HRm;have hpost:=lG u6 key skew n (m+1) mc ma mo hs1 hs2 hn2 om hml om ⟨by rw[hml];exact HRm.o,fun x hx=>by
     rcases hmem x hx with rfl | h
     ·exact⟨⟨none,0,rfl,rfl,sm,sm,fun _=>rfl,fun h=>by simp at h⟩,none,0,rfl,sm,by simp[maxLen],rfl,fun _=>⟨rfl,rfl⟩,fun h=>by simp at h⟩
     ·exact (HO.o.o x (Hpm.o x h).1).below HB6.o⟩ (fun x hx=>by
     rcases hmem x hx with rfl | h
     ·exact⟨.inr (.inr (.inr (.inl ⟨rfl,rfl⟩))),(fun _=>rfl),(fun _=>rfl),(fun x hx=>by cases hx),Nat.zero_le _,Nat.zero_le _⟩
     ·exact HA.o.o x (Hpm.o x h).1) (HG.o.below HG.o.1 HB6.o)
    have Hmo:=SM hmo;obtain⟨ra1,rc1,rfl,hra⟩:=aG hrowA;have HRA:Hd (Se u6 (.slice ra1 m rc1) m 36 (aZ jy (runL n (bN key skew (dG n)) (pl.map Prod.fst)).1)):=SM ⟨_,_,rfl,hra⟩;clear hmo hml hmem hrowA hb hra
    go_wp2_with fail
    refine hpost.mono ?_;rintro _ u7 ⟨⟨rb,rfl,hrowB⟩,hb⟩;clear hpost q1;replace HB6:=SM (bt HB6.o hb);replace HRA:=SM (HRA.o.below hb);obtain⟨rb1,rc2,rfl,hrb⟩:=aG hrowB;have HRB:Hd (Se u7 (.slice rb1 (m+1) rc2) (m+1) 36 (aZ jy (runL n (bN key skew (dG n)) (mo.map Prod.fst)).1)):=SM ⟨_,_,rfl,hrb⟩;have hplain:∀ x ∈ pl,ml x.1:=fun x hx=>by
     obtain⟨h1,h5,h6⟩:=Hpm.o x hx
     rcases (HA.o.o x h1).k with h | h | h | h | h | h
     ·exact .inl h.1
     ·exact .inr (.inl h.1)
     ·exact .inr (.inr (.inl h.1))
     ·exact .inr (.inr (.inr h.1))
     ·exact absurd h.1 h5
     ·exact absurd h.1 h6
    have hlt1:((pl.take kk).map Prod.fst).length=kk:=by rw[List.length_map,List.length_take,Hm.o];omega
    have hlt2:((pl.drop kk).map Prod.fst).length=m - kk:=by rw[List.length_map,List.length_drop,Hm.o]
    obtain⟨A,r,B,e1,e2,e3,e4⟩:=qa n om hn2 key skew hs1 hs2 ((pl.take kk).map Prod.fst) ((pl.drop kk).map Prod.fst) ⟨4,0,[],[]⟩ rfl om
     (fun o ho=>by obtain⟨x,hx,rfl⟩:=List.mem_map.1 ho;exact hplain x (List.mem_of_mem_take hx))
     (fun o ho=>by obtain⟨x,hx,rfl⟩:=List.mem_map.1 ho;exact hplain x (List.mem_of_mem_drop hx))
    rw[← List.map_append,List.take_append_drop] at e1;have e5:mo.map Prod.fst=(pl.take kk).map Prod.fst ++ (⟨4,0,[],[]⟩ : R5) :: (pl.drop kk).map Prod.fst:=by rw[← Hmo.o];simp
    rw[e5,e2] at HRB;rw[e1] at HRA;rw[hlt1] at e3;rw[hlt2] at e4;have he:∀ i,i < m→∀ j,j=(if kk≤i then i+1 else i)→j < m+1∧(A ++ r :: B)[j]? = (A ++ B)[i]?:=by
     intro i hi j hj;subst hj
     by_cases hc:kk≤i
     ·rw[if_pos hc,List.getElem?_append_right om,List.getElem?_append_right om,e3,show i+1 - kk=(i - kk)+1 by omega]
      exact⟨om,sm⟩
     ·rw[if_neg hc,List.getElem?_append_left om,List.getElem?_append_left om];exact⟨om,rfl⟩
    have Hl1:=SM (show (A ++ B).length=m by rw[List.length_append,e3,e4];omega)
    have Hl2:=SM (show (A ++ r :: B).length=m+1 by rw[List.length_append,List.length_cons,e3,e4];omega)
    have He:=SM he;clear he e1 e2 e3 e4 e5 hplain hlt1 hlt2 hrowB hb hrb;generalize A ++ B=RA at *;generalize A ++ r :: B=RB at *;have wm:IntKind.i64.wrap ((m:Int)+1)=(m:Int)+1:=wi;have HF:=SM (bt HB.o HB6.o);clear HRm Hmo HRp Hrd Hbr HB6 HO HA HM HG
    go_wp2
    go_loopw [15] (fun i wr2=>∃ i':Nat,i'≤m∧i = .int .i64 i'∧Below u7.heap.size u7 wr2) (fun i _=>m - (intOf i).toNat)
    case atStart=>exact⟨0,om,rfl,Below.refl _ _⟩
    case round =>
     obtain⟨i,hi,rfl,hbr2⟩:=hrel
     by_cases hlt2:i < m
     ·have d0:decide ((i:Int) < (m:Int))=true:=dt;obtain⟨j,hj1⟩:=eY (i+1);have wj:IntKind.i64.wrap ((i:Int)+1)=(j:Int):=wi;have i0:(0:Int)≤(i:Int):=om;have i3:(i:Int) < (m:Int):=om;have j0:(0:Int)≤(j:Int):=om;have j3:(j:Int) < (m:Int)+1:=om;have i4:(i:Int) < (m:Int)+1:=om;obtain⟨b1,o1,rfl,r1⟩:=kR (HRA.o.below hbr2) Hl1.o i hlt2;obtain⟨hj,hjj⟩:=He.o i hlt2 _ rfl;have hri:RA[i]? = some (RA[i]'(by rw[Hl1.o];exact hlt2)):=List.getElem?_eq_getElem _
      generalize RA[i]'(by rw[Hl1.o];exact hlt2)=rr at *
      rw[hri] at hjj;obtain⟨k',c',t',l',g'⟩:=rr;have r1:readAt wr b1 (o1+i * 36) 36=some (eS k' c' t' l' g'):=r1;have HBr2:=SM hbr2;have Hj1:=SM hj1
      by_cases hc:kk≤i
      ·rw[if_pos hc,hj1] at hj hjj;have dc:decide ((kk:Int)≤(i:Int))=true:=dt;have dn:decide (kk≤i)=true:=decide_eq_true hc;obtain⟨b2,o2,rfl,r2⟩:=kR (HRB.o.below hbr2) Hl2.o j hj;have e:RB[j]'(by rw[Hl2.o];exact hj)=⟨k',c',t',l',g'⟩:=by
        rw[List.getElem?_eq_getElem (by rw[Hl2.o];exact hj)] at hjj
        exact Option.some.inj hjj
       rw[e] at r2;have r2:readAt wr b2 (o2+j * 36) 36=some (eS k' c' t' l' g'):=r2;clear e hbr2 hri hjj hj1 hc
       go_upto_region 22 with fail
       have hdb:=(Sy wr).drew;refine yW (tk 0 9 .done) (fun u=>readAt u b1 (o1+i * 36) 36=some (eS k' c' t' l' g')∧readAt u b2 (o2+j * 36) 36=some (eS k' c' t' l' g')) ⟨r1,r2⟩ ?_;replace HBr2:=SM (bt HBr2.o hdb);clear hdb r1 r2;generalize wr.drew=w5 at *
       repeat((first|refine yO ?_|refine yM ?_|refine yF rfl rfl (fun w' hC'=>by obtain⟨c1,c2⟩:=hC';go_simp;first|done|exact rfl) ?_);walk_nrm)
       refine al ?_
       go_wp2
       go_roundw
       case rel=>exact⟨j,by have:=Hj1.o;omega,rfl,HBr2.o⟩
       case measure=>simp[intOf];have:=Hj1.o;omega
      ·rw[if_neg hc] at hj hjj;have dc:decide ((kk:Int)≤(i:Int))=false:=df;have dn:decide (kk≤i)=false:=decide_eq_false hc;obtain⟨b2,o2,rfl,r2⟩:=kR (HRB.o.below hbr2) Hl2.o i hj;have e:RB[i]'(by rw[Hl2.o];exact hj)=⟨k',c',t',l',g'⟩:=by
        rw[List.getElem?_eq_getElem (by rw[Hl2.o];exact hj)] at hjj
        exact Option.some.inj hjj
       rw[e] at r2;have r2:readAt wr b2 (o2+i * 36) 36=some (eS k' c' t' l' g'):=r2;clear e hbr2 hri hjj hj1 hc
       go_upto_region 22 with fail
       have hdb:=(Sy wr).drew;refine yW (tk 0 9 .done) (fun u=>readAt u b1 (o1+i * 36) 36=some (eS k' c' t' l' g')∧readAt u b2 (o2+i * 36) 36=some (eS k' c' t' l' g')) ⟨r1,r2⟩ ?_;replace HBr2:=SM (bt HBr2.o hdb);clear hdb r1 r2;generalize wr.drew=w5 at *
       repeat((first|refine yO ?_|refine yM ?_|refine yF rfl rfl (fun w' hC'=>by obtain⟨c1,c2⟩:=hC';go_simp;first|done|exact rfl) ?_);walk_nrm)
       refine al ?_
       go_wp2
       go_roundw
       case rel=>exact⟨j,by have:=Hj1.o;omega,rfl,HBr2.o⟩
       case measure=>simp[intOf];have:=Hj1.o;omega
     ·obtain rfl:i=m:=om;have d0:decide ((i:Int) < (i:Int))=false:=sm
      go_wp2
      go_ret
      exact⟨rfl,bt HF.o hbr2⟩
end
end Go.Proofs.YtlcfaaodmickbaaGreatDoor
