/- Part 15 of the proof: texts merged and shortened by a program. No conditions. -/
import Derived.Test.YtlcfaaodmickbaaGreatDoorPc14
set_option linter.unusedSimpArgs false
set_option linter.unusedVariables false
set_option maxRecDepth 100000
set_option maxHeartbeats 8000000
namespace Go.Proofs.YtlcfaaodmickbaaGreatDoor
open Go.RowKit Go.Proofs.Tryz
section
theorem Fu(w:World):Calls prog 192 #[] w fun e w'=>e = .returned (.agg (fw B8 jl))∧Below w.heap.size w w':=by
 go_in
 go_upto_region 1 with fail
 obtain⟨hR,hb,hs⟩:=dU w 299 B8 jg;generalize w.alloc (.cells (fw B8 jg) 299)=w1 at *
 go_wp2_with fail
 refine (Kt w1).mono ?_;rintro _ w2 ⟨rfl,hb2⟩;have hR2:=hR.below hb2;have hk:=hR2.k;have hB:=bt hb hb2
 go_wp2
 refine bodyPost_ret (lp rfl _ _ w.heap.size 0 (fw B8 jl) rfl (hR2.all jl).r) rfl ⟨rfl,aa hB (Nat.le_refl _) _ _⟩
theorem jB{u:World}{B:Nat}(h:Row B8 u B jl)(a:UInt8):u.cell? ⟨B,a.toNat,none⟩=some (.int .u8 (bI (sb a))):=by
 have:=h.cell a.toNat a.toNat_lt;rw[Oi a a.toNat_lt] at this;exact this
def tV(key:RW)(q c:Nat):V4:=Vector.ofFn fun r=>S7 (rk key q) (mO key q).2 r.val c
theorem KQ(b:RW)(p:UInt8)(i:Nat)(h:i < 16):gd (mW b p) i=S7 b p (i % 4) (i / 4+1):=by
 rw[eO _ _ h];simp[mW]
theorem DT(key:RW)(q i:Nat)(h:i < 16):gd (rk key (q+1)) i=S7 (rk key q) (mO key q).2 (i % 4) (i / 4+1):=KQ _ _ i h
theorem xE(key:RW)(n j:Nat)(hj:j < n)(h:j < 176):(SQ key n)[j]=gd (rk key (j / 16)) (j % 16):=by simp[SQ,hj]
theorem Jh{n:Nat}(x:Vector UInt8 n)(o m i:Nat)(hi:i < m)(h:o+i < n):(FR x o m)[i]=x[o+i]:=by
 simp only[FR,Vector.getElem_ofFn];rw[eO _ _ h]
theorem FT(key:RW)(q c:Nat)(hc:0 < c)(hc4:c < 4)(hq:q < 10):FR (SQ key (4 * (4 * (q+1)+c))) (4 * (4 * (q+1)+c - 1)) 4=tV key q c:=by
 apply Vector.ext;intro r hr
 rw[Jh _ _ _ _ hr om,xE _ _ _ om om];simp only[tV,Vector.getElem_ofFn];rw[show (4 * (4 * (q+1)+c - 1)+r) / 16=q+1 by omega,show (4 * (4 * (q+1)+c - 1)+r) % 16=4 * (c - 1)+r by omega,DT _ _ _ om]
 rw[show (4 * (c - 1)+r) % 4=r by omega,show (4 * (c - 1)+r) / 4+1=c by omega]
theorem Tv(key:RW)(q:Nat)(hq:q < 10)(r:Nat)(hr:r < 4):(FR (SQ key (4 * (4 * (q+1)))) (4 * (4 * (q+1) - 1)) 4)[r]=gd (rk key q) (12+r):=by
 rw[Jh _ _ _ _ hr om,xE _ _ _ om om];rw[show (4 * (4 * (q+1) - 1)+r) / 16=q by omega,show (4 * (4 * (q+1) - 1)+r) % 16=12+r by omega]
theorem Mx(key:RW)(q:Nat):(#v[sb (gd (rk key q) 13) ^^^ (mO key q).2,sb (gd (rk key q) 14),sb (gd (rk key q) 15),sb (gd (rk key q) 12)] : V4)=tV key q 0:=by
 apply Vector.ext;intro i hi
 simp only[tV,Vector.getElem_ofFn];obtain rfl | rfl | rfl | rfl:i=0∨i=1∨i=2∨i=3:=om
 all_goals rfl
theorem xD(key:RW)(q c r:Nat)(hc:c < 4)(hr:r < 4)(hq:q < 10)(h1:4 * (4 * q+c)+r < 176):
  (SQ key (4 * (4 * (q+1)+c)+r))[4 * (4 * q+c)+r] ^^^ (tV key q c)[r]=gd (rk key ((4 * (4 * (q+1)+c)+r) / 16)) ((4 * (4 * (q+1)+c)+r) % 16):=by
 rw[xE _ _ _ om om,show (4 * (4 * (q+1)+c)+r) / 16=q+1 by omega,show (4 * (4 * (q+1)+c)+r) % 16=4 * c+r by omega,DT _ _ _ om]
 rw[show (4 * (4 * q+c)+r) / 16=q by omega,show (4 * (4 * q+c)+r) % 16=4 * c+r by omega,show (4 * c+r) % 4=r by omega,show (4 * c+r) / 4=c by omega]
 simp only[tV,Vector.getElem_ofFn,S7];rw[UInt8.xor_comm]
def mB(x:EX)(n:Nat):EX:=Vector.ofFn fun j=>if j.val < n then x[j] else 0
theorem yX(x:EX):iW=mB x 0:=by apply Vector.ext;intro i hi;simp[mB,iW]
theorem BX(x:EX):mB x 176=x:=by apply Vector.ext;intro i hi;simp[mB,hi]
theorem yU(x:EX)(n:Nat)(h:n < 176):(mB x n).set n x[n]=mB x (n+1):=by
 apply Vector.ext;intro i hi
 by_cases e:i=n
 ·subst e;simp[mB]
 ·rw[Vector.getElem_set_ne _ _ (Ne.symm e)];simp only[mB,Vector.getElem_ofFn]
  by_cases h1:i < n
  ·rw[if_pos h1,if_pos om]
  ·rw[if_neg h1,if_neg om]
structure RK (w wr:World) (A B R C:Nat) (key:RW) (n:Nat):Prop where
 a:Row B8 wr A key
 b:Row B8 wr B jl
 r:Row B8 wr R iW
 c:Row B8 wr C (SQ key n)
 bel:Below A w wr
section
variable {w wr u:World} {A B R C:Nat} {key:RW} {n:Nat}
theorem RK.below(h:RK w wr A B R C key n)(hb:Below wr.heap.size wr u):RK w u A B R C key n :=
 ⟨h.a.below hb,h.b.below hb,h.r.below hb,h.c.below hb,h.bel.trans (hb.mono (by have:=h.a.lt;omega))⟩
theorem RK.drew(h:RK w wr A B R C key n):RK w wr.drew A B R C key n:=h.below (Below.refl _ _).drew
theorem RK.put(h:RK w wr A B R C key n)(h1:A < B)(h2:B < R)(h3:R < C)(hn:n < 176):RK w (wr.setCell ⟨C,n,none⟩ (B8 (gd (rk key (n / 16)) (n % 16)))) A B R C key (n+1) :=
 ⟨h.a.other _ _ (by show C≠_;omega),h.b.other _ _ (by show C≠_;omega),h.r.other _ _ (by show C≠_;omega),by have:=h.c.set n hn (gd (rk key (n / 16)) (n % 16));rw[xF key n hn] at this;exact this,h.bel.setCell (p:=⟨C,n,none⟩) (by show _≤C;omega) _⟩
theorem RK.cell(h:RK w wr A B R C key n)(W i:Nat)(v:Value)(hW:C < W)(h1:A < B)(h2:B < R)(h3:R < C):RK w (wr.setCell ⟨W,i,none⟩ v) A B R C key n :=
 ⟨h.a.other _ _ (by show W≠_;omega),h.b.other _ _ (by show W≠_;omega),h.r.other _ _ (by show W≠_;omega),h.c.other _ _ (by show W≠_;omega),h.bel.setCell (p:=⟨W,i,none⟩) (by show _≤W;omega) _⟩
theorem RK.at_(h:RK w wr A B R C key n)(W o:Nat)(cs:Array Value)(hW:C < W)(h1:A < B)(h2:B < R)(h3:R < C):RK w (setAt wr W o cs) A B R C key n :=
 ⟨h.a.apart _ _ _ om,h.b.apart _ _ _ om,h.r.apart _ _ _ om,h.c.apart _ _ _ om,aa h.bel om _ _⟩
end
theorem zN(key:RW)(w:World):Calls prog 227 #[.agg (fw B8 key),.agg (fw B8 jl)] w fun e w'=>e = .returned (.agg (fw B8 (SQ key 176)))∧Below w.heap.size w w':=by
 go_in
 go_upto_region 2 with fail
 obtain⟨hA,hB,hR,hb,hs⟩:=mT w 22 299 333 B8 key B8 jl B8 iW;generalize ((w.alloc (.cells (fw B8 key) 22)).alloc (.cells (fw B8 jl) 299)).alloc (.cells (fw B8 iW) 333)=w1 at *;obtain⟨hC,hb2,hs2⟩:=dU w1 344 B8 wG;have hs':w1.heap.size=w.heap.size+1+1+1:=hs;rw[hs'] at hC;have e0:(wG:EX)=SQ key 0:=by apply Vector.ext;intro i hi;simp[wG,SQ]
 rw[e0] at hC;have hK:RK w (w1.alloc (.cells (fw B8 wG) 344)) w.heap.size (w.heap.size+1) (w.heap.size+1+1) (w.heap.size+1+1+1) key 0:=⟨hA.below hb2,hB.below hb2,hR.below hb2,by rw[e0];exact hC,bt hb hb2⟩
 clear hA hB hR hC hb hb2 hs hs2 e0;generalize w1.alloc (.cells (fw B8 wG) 344)=w2 at *;have l3:w.heap.size+1+1 < w.heap.size+1+1+1:=om;have l2:w.heap.size+1 < w.heap.size+1+1:=om;have l1:w.heap.size < w.heap.size+1:=om;clear hs';generalize w.heap.size+1+1+1=CB at *;generalize w.heap.size+1+1=RB at *;generalize w.heap.size+1=BB at *;generalize hAB:w.heap.size=AB at *;have HAB:=SM hAB;clear hAB
 go_wp2
 go_loopw [6,7] (fun p i wr=>∃ k:Nat,k≤44∧i = .int .i64 k∧p = .int .u8 (bI (mO key ((k - 1) / 4)).2)∧RK w wr AB BB RB CB key (4 * k)) (fun _ i _=>44 - (intOf i).toNat)
 case atStart=>exact⟨0,om,rfl,rfl,hK⟩
 case round =>
  clear hK;obtain⟨k,hk,rfl,rfl,hK⟩:=hrel;have HK:=SM hK;clear hK
  by_cases hlt:k < 44
  ·have i1:(0:Int)≤(k:Int):=om;have i2:(k:Int) < 44:=om
   by_cases h4:k < 4
   ·have i3:(k:Int) < 4:=om;have hp0:(k - 1) / 4=0:=om;have hp1:(k+1 - 1) / 4=0:=om;rw[hp0];obtain⟨p,hp⟩:=eY ((mO key 0).2);rw[hp];have Hp0:=SM hp;clear hp
    go_wp2
    go_loopw [8] (fun i wr=>∃ r:Nat,r≤4∧i = .int .i64 r∧RK w wr AB BB RB CB key (4 * k+r)) (fun i _=>4 - (intOf i).toNat)
    case atStart=>exact⟨0,om,rfl,HK.o⟩
    case round =>
     clear HK;obtain⟨r,hr,rfl,hK⟩:=hrel;have HK:=SM hK;clear hK
     by_cases hrt:r < 4
     ·have j1:(0:Int)≤(r:Int):=om;have j2:(r:Int) < 4:=om;have w1:IntKind.i64.wrap (4 * (k:Int))=4 * (k:Int):=wi;have w2:IntKind.i64.wrap (4 * (k:Int)+(r:Int))=4 * (k:Int)+(r:Int):=wi;have j3:(0:Int)≤4 * (k:Int)+(r:Int):=om;have j4:4 * (k:Int)+(r:Int) < 16:=om;have j5:(4 * (k:Int)+(r:Int)).toNat=4 * k+r:=om
      go_upto_region 10 with fail
      refine yW (tk 0 10 (.brk 10 .done)) (fun u=>u=wr.drew) rfl ?_;replace HK:=SM HK.o.drew;generalize wr.drew=wr at *;have q1:=HK.o.a.cell (4 * k+r) om;have hv:gd (rk key ((4 * k+r) / 16)) ((4 * k+r) % 16)=key[4 * k+r]:=by
       rw[show (4 * k+r) / 16=0 by omega,show (4 * k+r) % 16=4 * k+r by omega,eO _ _ om];rfl
      have q3:=HK.o.c.free (k * 4+r);have q4:=HK.o.c.cell (k * 4+r) om;have hp:=HK.o.put l1 l2 l3 om;rw[hv] at hp;generalize key[4 * k+r]=v at *;rw[show 4 * k+r+1=4 * k+(r+1) from rfl] at hp
      have Hp:Hd (RK w (wr.setCell ⟨CB,k * 4+r,none⟩ (B8 v)) AB BB RB CB key (4 * k+(r+1))):=SM (by rw[show k * 4+r=4 * k+r by omega];exact hp)
      clear hp hv
      repeat(refine yB ?_;walk_nrm)
      refine et rfl rfl (fun K hK=>?_);go_simp;refine hK _ _ (fun _=>True) trivial (al ?_);clear q1 q3 q4;simp only[jk] at Hp;generalize wr.setCell ⟨CB,k * 4+r,none⟩ (.int .u8 (bI v))=w5 at *
      go_wp2
      go_roundw
      case rel=>exact⟨r+1,om,by go_num,Hp.o⟩
      case measure=>simp[intOf];omega
     ·obtain rfl:r=4:=om
      go_wp2
      go_roundw
      case rel=>exact⟨k+1,om,by go_num,by rw[hp1,Hp0.o],by rw[show 4 * (k+1)=4 * k+4 by omega];exact HK.o⟩
      case measure=>simp[intOf];omega
   ·have hkq:∃ q c:Nat,k=4 * (q+1)+c∧c < 4:=⟨k / 4 - 1,k % 4,om,om⟩;obtain⟨q,c,hkq,hc⟩:=hkq;have hq:q < 10:=om;have i3 : ¬ (k:Int) < 4:=om;obtain⟨km,hkm⟩ : ∃ m,k=m+1:=⟨k - 1,om⟩;have w1:IntKind.i64.wrap ((k:Int) - 1)=(km:Int):=wi;have j1:(0:Int)≤(km:Int):=om;have j2:(km:Int) < 44:=om;have e7:(k:Int).tmod 4=(c:Int):=by rw[Int.tmod_eq_emod_of_nonneg om];omega
    have e8:(k:Int) % 4=(c:Int):=om;have hrd:=HK.o.c.sub (km * 4) 4 om;obtain⟨X,hX⟩:=eY (FR (SQ key (4 * k)) (km * 4) 4);rw[hX] at hrd;have hXn:0 < c→X=tV key q c:=fun h0=>by
     rw[← hX,hkq,show km * 4=4 * (4 * (q+1)+c - 1) by omega];exact FT key q c h0 hc hq
    have hXl:c=0→∀ r (hr:r < 4),X[r]=gd (rk key q) (12+r):=fun h0 r hr=>by
     subst h0;have:=Tv key q hq r hr;rw[← this];simp only[← hX,hkq,show km * 4=4 * (4 * (q+1) - 1) by omega]
     rfl
    have hpw:(mO key ((k+1 - 1) / 4)).2=(mO key (q+1)).2:=by rw[show (k+1 - 1) / 4=q+1 by omega]
    have hpz:c=0→(k - 1) / 4=q:=fun h=>om;have hpn:0 < c→(k - 1) / 4=q+1:=fun h=>om;have Hkq:=SM hkq;have HXn:=SM hXn;have HXl:=SM hXl;have Hpw:=SM hpw;clear hkq hX hXn hXl hkm hpw
    go_upto_region 12 with fail
    clear hrd;obtain⟨hT,hb5,hs5⟩:=dU wr 343 B8 X;have lT:CB < wr.heap.size:=HK.o.c.lt;generalize wr.alloc (.cells (fw B8 X) 343)=w5 at *;replace HK:=SM (HK.o.below hb5);have HT:=SM hT;clear hT hb5;generalize wr.heap.size=TB at *
    by_cases h0:c=0
    ·have d1:((c:Int) == 0)=true:=by simpa using h0
     have d2:(c:Int)=0:=om;rw[hpz h0];have hsuc:xt (mO key q).2=(mO key (q+1)).2:=rfl;have htz:=Mx key q;have hX:=HXl.o h0;obtain⟨p,hp⟩:=eY ((mO key q).2);rw[hp] at htz hsuc ⊢;have hcl:∀ u,Row B8 u TB X→u.cell? ⟨TB,0,none⟩=some (B8 (gd (rk key q) 12))∧u.cell? ⟨TB,1,none⟩=some (B8 (gd (rk key q) 13))∧u.cell? ⟨TB,2,none⟩=some (B8 (gd (rk key q) 14))∧u.cell? ⟨TB,3,none⟩=some (B8 (gd (rk key q) 15)):=fun u hu=>by
      have a0:=hu.cell 0 dc;have a1:=hu.cell 1 dc;have a2:=hu.cell 2 dc;have a3:=hu.cell 3 dc;rw[hX 0 dc] at a0;rw[hX 1 dc] at a1;rw[hX 2 dc] at a2;rw[hX 3 dc] at a3;exact⟨a0,a1,a2,a3⟩
     have Hcl:=SM hcl;have Htz:=SM htz;have Hsuc:=SM hsuc;clear hX hp hcl htz hsuc;generalize gd (rk key q) 12=t0 at *;generalize gd (rk key q) 13=t1 at *;generalize gd (rk key q) 14=t2 at *;generalize gd (rk key q) 15=t3 at *
     go_upto_region 13 with fail
     refine yW (tk 0 19 (.brk 19 .done)) (fun u=>u=w5.drew) rfl ?_;replace HK:=SM HK.o.drew;replace HT:=SM HT.o.drew;generalize w5.drew=w5 at *;obtain⟨c0,c1,c2,c3⟩:=Hcl.o _ HT.o;have b0:=jB HK.o.b t0;have b1:=jB HK.o.b t1;have b2:=jB HK.o.b t2;have b3:=jB HK.o.b t3;have n0:=oe t0;have n1:=oe t1;have n2:=oe t2;have n3:=oe t3;have m0:=od t0;have m1:=od t1;have m2:=od t2;have m3:=od t3;have x0:(bI t0).toNat=t0.toNat:=rfl
     have x1:(bI t1).toNat=t1.toNat:=rfl;have x2:(bI t2).toNat=t2.toNat:=rfl;have x3:(bI t3).toNat=t3.toNat:=rfl
     repeat(refine yB ?_;walk_nrm)
     have q3:=HT.o.k;refine et rfl rfl (fun K hK=>?_);go_simp;refine hK _ _ (fun _=>True) trivial (al ?_);rw[Htz.o];clear q3 c0 c1 c2 c3 b0 b1 b2 b3 n0 n1 n2 n3 m0 m1 m2 m3 x0 x1 x2 x3;replace HK:=SM (HK.o.at_ TB 0 (fw B8 (tV key q 0)) lT l1 l2 l3);have HT2:Hd (Row B8 (setAt w5 TB 0 (fw B8 (tV key q 0))) TB (tV key q c)):=SM (by rw[h0];exact HT.o.all (tV key q 0))
     clear HT;have HT:=HT2;clear HT2;generalize setAt w5 TB 0 (fw B8 (tV key q 0))=w6 at *
     go_wp2_with fail
     refine (nM p w6).mono ?_;rintro _ _ ⟨rfl,rfl⟩;rw[Hsuc.o];clear Hcl Htz Hsuc;generalize hpp:(mO key (q+1)).2=p2 at *;clear hpp
     go_wp2
     go_loopw [10] (fun i wr=>∃ r:Nat,r≤4∧i = .int .i64 r∧RK w wr AB BB RB CB key (4 * k+r)∧Row B8 wr TB (tV key q c)) (fun i _=>4 - (intOf i).toNat)
     case atStart=>exact⟨0,om,rfl,HK.o,HT.o⟩
     case round =>
      clear HK HT;obtain⟨r,hr,rfl,hK,hT⟩:=hrel;have HK:=SM hK;have HT:=SM hT;clear hK hT
      by_cases hrt:r < 4
      ·have j1:(0:Int)≤(r:Int):=om;have j2:(r:Int) < 4:=om;have w1:IntKind.i64.wrap ((k:Int) - 4)=((k - 4:Nat):Int):=wi;have j3:(0:Int)≤((k - 4:Nat):Int):=om;have j4:((k - 4:Nat):Int) < 44:=om;have hst:=xD key q c r hc hrt hq om;have hk4:k - 4=4 * q+c:=by have:=Hkq.o;omega
       have h176:4 * (4 * q+c)+r < 176:=om;have hcells:∀ u,RK w u AB BB RB CB key (4 * k+r)→u.cell? ⟨CB,(k - 4) * 4+r,none⟩=some (B8 ((SQ key (4 * k+r))[4 * (4 * q+c)+r]'h176)):=fun u hu=>by
        have:=hu.c.cell (4 * (4 * q+c)+r) om;rw[show (k - 4) * 4+r=4 * (4 * q+c)+r by omega];exact this
       rw[← Hkq.o] at hst;obtain⟨v1,hv1⟩ : ∃ v,(SQ key (4 * k+r))[4 * (4 * q+c)+r]'h176=v:=⟨_,rfl⟩;rw[hv1] at hst;simp only[hv1] at hcells;have Hcells:=SM hcells;have Hst:=SM hst;clear hcells hst hk4 hv1 h176;generalize (k - 4:Nat)=k4 at *
       go_upto_region 18 with fail
       refine yW (tk 0 14 (.brk 14 .done)) (fun u=>u=wr.drew) rfl ?_;replace HK:=SM HK.o.drew;replace HT:=SM HT.o.drew;generalize wr.drew=wr at *;have q1:=Hcells.o _ HK.o;have q2:=HT.o.cell r hrt;have q3:=HK.o.c.free (k * 4+r);have q4:=HK.o.c.cell (k * 4+r) om;have hp:=HK.o.put l1 l2 l3 om;rw[← Hst.o] at hp;rw[show 4 * k+r+1=4 * k+(r+1) from rfl] at hp
       generalize (tV key q c)[r]=v2 at *;have Hp:Hd (RK w (wr.setCell ⟨CB,k * 4+r,none⟩ (B8 (v1 ^^^ v2))) AB BB RB CB key (4 * k+(r+1))):=SM (by rw[show k * 4+r=4 * k+r by omega];exact hp)
       replace HT:=SM (HT.o.other ⟨CB,k * 4+r,none⟩ (B8 (v1 ^^^ v2)) (by show CB≠_;omega))
       clear hp
       repeat(refine yB ?_;walk_nrm)
       refine et rfl rfl (fun K hK=>?_);go_simp;refine hK _ _ (fun _=>True) trivial (al ?_);clear q1 q2 q3 q4;simp only[jk] at Hp HT;generalize wr.setCell ⟨CB,k * 4+r,none⟩ (.int .u8 (bI (v1 ^^^ v2)))=w5 at *
       go_wp2
       go_roundw
       case rel=>exact⟨r+1,om,by go_num,Hp.o,HT.o⟩
       case measure=>simp[intOf];omega
      ·obtain rfl:r=4:=om
       go_wp2
       go_roundw
       case rel=>exact⟨k+1,om,by go_num,by rw[Hpw.o],by rw[show 4 * (k+1)=4 * k+4 by omega];exact HK.o⟩
       case measure=>simp[intOf];omega
    ·have d1:((c:Int) == 0)=false:=by simpa using h0
     have d2 : ¬ (c:Int)=0:=om;rw[hpn om];have hXX:=HXn.o om;subst hXX;generalize hpp:(mO key (q+1)).2=p2 at *;clear hpp
     go_wp2
     go_loopw [10] (fun i wr=>∃ r:Nat,r≤4∧i = .int .i64 r∧RK w wr AB BB RB CB key (4 * k+r)∧Row B8 wr TB (tV key q c)) (fun i _=>4 - (intOf i).toNat)
     case atStart=>exact⟨0,om,rfl,HK.o,HT.o⟩
     case round =>
      clear HK HT;obtain⟨r,hr,rfl,hK,hT⟩:=hrel;have HK:=SM hK;have HT:=SM hT;clear hK hT
      by_cases hrt:r < 4
      ·have j1:(0:Int)≤(r:Int):=om;have j2:(r:Int) < 4:=om;have w1:IntKind.i64.wrap ((k:Int) - 4)=((k - 4:Nat):Int):=wi;have j3:(0:Int)≤((k - 4:Nat):Int):=om;have j4:((k - 4:Nat):Int) < 44:=om;have hst:=xD key q c r hc hrt hq om;have hk4:k - 4=4 * q+c:=by have:=Hkq.o;omega
       have h176:4 * (4 * q+c)+r < 176:=om;have hcells:∀ u,RK w u AB BB RB CB key (4 * k+r)→u.cell? ⟨CB,(k - 4) * 4+r,none⟩=some (B8 ((SQ key (4 * k+r))[4 * (4 * q+c)+r]'h176)):=fun u hu=>by
        have:=hu.c.cell (4 * (4 * q+c)+r) om;rw[show (k - 4) * 4+r=4 * (4 * q+c)+r by omega];exact this
       rw[← Hkq.o] at hst;obtain⟨v1,hv1⟩ : ∃ v,(SQ key (4 * k+r))[4 * (4 * q+c)+r]'h176=v:=⟨_,rfl⟩;rw[hv1] at hst;simp only[hv1] at hcells;have Hcells:=SM hcells;have Hst:=SM hst;clear hcells hst hk4 hv1 h176;generalize (k - 4:Nat)=k4 at *
       go_upto_region 18 with fail
       refine yW (tk 0 14 (.brk 14 .done)) (fun u=>u=wr.drew) rfl ?_;replace HK:=SM HK.o.drew;replace HT:=SM HT.o.drew;generalize wr.drew=wr at *;have q1:=Hcells.o _ HK.o;have q2:=HT.o.cell r hrt;have q3:=HK.o.c.free (k * 4+r);have q4:=HK.o.c.cell (k * 4+r) om;have hp:=HK.o.put l1 l2 l3 om;rw[← Hst.o] at hp;rw[show 4 * k+r+1=4 * k+(r+1) from rfl] at hp
       generalize (tV key q c)[r]=v2 at *;have Hp:Hd (RK w (wr.setCell ⟨CB,k * 4+r,none⟩ (B8 (v1 ^^^ v2))) AB BB RB CB key (4 * k+(r+1))):=SM (by rw[show k * 4+r=4 * k+r by omega];exact hp)
       replace HT:=SM (HT.o.other ⟨CB,k * 4+r,none⟩ (B8 (v1 ^^^ v2)) (by show CB≠_;omega))
       clear hp
       repeat(refine yB ?_;walk_nrm)
       refine et rfl rfl (fun K hK=>?_);go_simp;refine hK _ _ (fun _=>True) trivial (al ?_);clear q1 q2 q3 q4;simp only[jk] at Hp HT;generalize wr.setCell ⟨CB,k * 4+r,none⟩ (.int .u8 (bI (v1 ^^^ v2)))=w5 at *
       go_wp2
       go_roundw
       case rel=>exact⟨r+1,om,by go_num,Hp.o,HT.o⟩
       case measure=>simp[intOf];omega
      ·obtain rfl:r=4:=om
       go_wp2
       go_roundw
       case rel=>exact⟨k+1,om,by go_num,by rw[Hpw.o],by rw[show 4 * (k+1)=4 * k+4 by omega];exact HK.o⟩
       case measure=>simp[intOf];omega
  ·have d0 : ¬ (k:Int) < 44:=om;rw[show 4 * k=176 by omega] at HK
   generalize (mO key ((k - 1) / 4)).2=pp at *
   go_upto_region 20 with fail
   obtain⟨hO,hb5,hs5⟩:=dU wr 333 B8 iW;have lO:CB < wr.heap.size:=HK.o.c.lt;generalize wr.alloc (.cells (fw B8 iW) 333)=w5 at *;replace HK:=SM (HK.o.below hb5);rw[yX (SQ key 176)] at hO;have HO:=SM hO;clear hO hb5;generalize wr.heap.size=OB at *;generalize hXX:SQ key 176=X at *;have HXX:=SM hXX;clear hXX
   go_wp2
   go_loopw [12] (fun i wr=>∃ j:Nat,j≤176∧i = .int .i64 j∧RK w wr AB BB RB CB key 176∧Row B8 wr OB (mB X j)) (fun i _=>176 - (intOf i).toNat)
   case atStart=>exact⟨0,om,rfl,HK.o,HO.o⟩
   case round =>
    clear HK HO;obtain⟨j,hj,rfl,hK,hO⟩:=hrel;have HK:=SM hK;have HO:=SM hO;clear hK hO
    by_cases hjt:j < 176
    ·obtain⟨q,hq⟩:=eY (j / 16);obtain⟨r,hr⟩:=eY (j % 16);obtain⟨q4,hq4⟩ : ∃ q,j / 4=q:=⟨_,rfl⟩;obtain⟨r4,hr4⟩ : ∃ r,j % 4=r:=⟨_,rfl⟩;have i1:(0:Int)≤(j:Int):=om;have i2:(j:Int) < 176:=om;have e1:(j:Int).tdiv 16=(q:Int):=by rw[Int.tdiv_eq_ediv_of_nonneg i1];omega
     have e2:(j:Int) / 16=(q:Int):=om;have e3:(j:Int).tmod 16=(r:Int):=by rw[Int.tmod_eq_emod_of_nonneg i1];omega
     have e4:(j:Int) % 16=(r:Int):=om;have e5:(j:Int).tdiv 4=(q4:Int):=by rw[Int.tdiv_eq_ediv_of_nonneg i1];omega
     have e6:(j:Int) / 4=(q4:Int):=om;have e7:(j:Int).tmod 4=(r4:Int):=by rw[Int.tmod_eq_emod_of_nonneg i1];omega
     have e8:(j:Int) % 4=(r4:Int):=om;have j1:(0:Int)≤(q:Int):=om;have j2:(q:Int) < 11:=om;have j3:(0:Int)≤(r:Int):=om;have j4:(r:Int) < 16:=om;have j5:(0:Int)≤(q4:Int):=om;have j6:(q4:Int) < 44:=om;have j7:(0:Int)≤(r4:Int):=om;have j8:(r4:Int) < 4:=om;have wa:IntKind.i64.wrap (q:Int)=(q:Int):=wi;have wb:IntKind.i64.wrap (q4:Int)=(q4:Int):=wi;have ha:q * 16+r=j:=om;have hb:q4 * 4+r4=j:=om;have hcp:=yU X j hjt
     have hcells:∀ u,RK w u AB BB RB CB key 176→Row B8 u OB (mB X j)→u.cell? ⟨CB,q4 * 4+r4,none⟩=some (B8 (X[j]'hjt))∧(∃ z,u.cell? ⟨OB,q * 16+r,none⟩=some z)∧u.frozen? ⟨OB,q * 16+r,none⟩=false∧Row B8 (u.setCell ⟨OB,q * 16+r,none⟩ (B8 (X[j]'hjt))) OB (mB X (j+1)):=fun u h1 h2=>by
      rw[ha,hb];refine⟨?_,⟨_,h2.cell j hjt⟩,h2.free j,?_⟩
      ·have:=h1.c.cell j hjt;rw[HXX.o] at this;exact this
      ·have:=h2.set j hjt (X[j]'hjt);rw[hcp] at this;exact this
     generalize X[j]'hjt=v at *;have Hcells:=SM hcells;clear hcells hcp ha hb hq hr hq4 hr4
     go_upto_region 23 with fail
     refine yW (tk 0 13 (.brk 13 .done)) (fun u=>u=wr.drew) rfl ?_;replace HK:=SM HK.o.drew;replace HO:=SM HO.o.drew;generalize wr.drew=wr at *;obtain⟨q1,⟨z,q2⟩,q3,q5⟩:=Hcells.o _ HK.o HO.o;have HO2:=SM q5;replace HK:=SM (HK.o.cell OB (q * 16+r) (B8 v) lO l1 l2 l3);clear q5 HO
     repeat(refine yB ?_;walk_nrm)
     refine et rfl rfl (fun K hK=>?_);go_simp;refine hK _ _ (fun _=>True) trivial (al ?_);clear q1 q2 q3;simp only[jk] at HO2 HK;generalize wr.setCell ⟨OB,q * 16+r,none⟩ (.int .u8 (bI v))=w6 at *
     go_wp2
     go_roundw
     case rel=>exact⟨j+1,om,by go_num,HK.o,HO2.o⟩
     case measure=>simp[intOf];omega
    ·obtain rfl:j=176:=om;rw[BX] at HO;have q1:=HO.o.r;have q2:=HK.o.r.k;have hA:w.heap.size≤RB:=by have:=HAB.o;omega
     go_wp2
     refine bodyPost_ret (ln rfl _ _ RB 0 (fw B8 X) rfl (HK.o.r.all X).r) rfl ⟨by rw[HXX.o],aa (by have:=HK.o.bel;rw[← HAB.o] at this;exact this) hA _ _⟩
end
section
def t8(x:RW)(n:Nat):RW:=Vector.ofFn fun j=>if j.val < n then x[j] else 0
theorem sS(x:RW):dq=t8 x 0:=by apply Vector.ext;intro i hi;simp[t8,dq]
theorem xO(x:RW):t8 x 16=x:=by apply Vector.ext;intro i hi;simp[t8,hi]
theorem sR(x:RW)(n:Nat)(h:n < 16):(t8 x n).set n x[n]=t8 x (n+1):=by
 apply Vector.ext;intro i hi
 by_cases e:i=n
 ·subst e;simp[t8]
 ·rw[Vector.getElem_set_ne _ _ (Ne.symm e)];simp only[t8,Vector.getElem_ofFn]
  by_cases h1:i < n
  ·rw[if_pos h1,if_pos om]
  ·rw[if_neg h1,if_neg om]
theorem Eg(b:RW)(c r m:Nat)(hc:c < 4)(hr:r < 4)(hm:(c+r) % 4=m)(h:4 * c+r < 16)(h2:r+4 * m < 16):(cz b)[4 * c+r]=sb b[r+4 * m]:=by
 simp only[cz,Vector.getElem_ofFn];rw[show (4 * c+r) % 4=r by omega,show (4 * c+r) / 4=c by omega,hm,eO _ _ h2]
theorem zX(b k:RW)(i:Nat)(h:i < 16):(fN b k true)[i]=(cz b)[i] ^^^ k[i]:=by simp[fN,yj]
theorem DW(b k:RW)(c r r1 r2 r3:Nat)(hc:c < 4)(hr:r < 4)(h1:(r+1) % 4=r1)(h2:(r+2) % 4=r2)(h3:(r+3) % 4=r3)(h:4 * c+r < 16)(k1:r1+4 * c < 16)(k2:r2+4 * c < 16)(k3:r3+4 * c < 16):
  (fN b k false)[4 * c+r]=(xt (cz b)[4 * c+r] ^^^ xt (cz b)[r1+4 * c] ^^^ (cz b)[r1+4 * c] ^^^ (cz b)[r2+4 * c] ^^^ (cz b)[r3+4 * c]) ^^^ k[4 * c+r]:=by
 have e:(fN b k false)[4 * c+r]=OX (cz b) (4 * c+r) ^^^ k[4 * c+r]:=by simp[fN,yj,EZ]
 have e2:OX (cz b) (4 * c+r)=xt (cz b)[4 * c+r] ^^^ xt (cz b)[r1+4 * c] ^^^ (cz b)[r1+4 * c] ^^^ (cz b)[r2+4 * c] ^^^ (cz b)[r3+4 * c]:=by
  unfold OX;rw[show (4 * c+r) % 4=r by omega,show (4 * c+r) / 4=c by omega,h1,h2,h3,eO _ _ (show r+4 * c < 16 by omega),eO _ _ k1,eO _ _ k2,eO _ _ k3]
  simp only[show r+4 * c=4 * c+r by omega]
  generalize (cz b)[4 * c+r]=x;generalize (cz b)[r1+4 * c]=y;rw[UInt8.xor_comm y (xt y),← UInt8.xor_assoc]
 rw[e,e2]
theorem mV(c r j m:Nat)(J:Int)(hJ:J=(j:Int))(hc:c < 4)(hr:r < 4)(hj:j < 4)(h:(r+j) % 4=m):
  m+4 * c < 16∧IntKind.i64.wrap ((r:Int)+J)=(r:Int)+J∧((r:Int)+J).tmod 4=(m:Int)∧((r:Int)+J) % 4=(m:Int)∧IntKind.i64.wrap ((m:Int)+4 * (c:Int))=(m:Int)+4 * (c:Int)∧(0:Int)≤(m:Int)+4 * (c:Int)∧(m:Int)+4 * (c:Int) < 16∧((m:Int)+4 * (c:Int)).toNat=m+4 * c:=by
 subst hJ;have hm:m < 4:=om;refine⟨om,wi,by rw[Int.tmod_eq_emod_of_nonneg om];omega,om,wi,om,om,om⟩
theorem zx(c r m:Nat)(hc:c < 4)(hr:r < 4)(h:(c+r) % 4=m):
  r+4 * m < 16∧IntKind.i64.wrap ((c:Int)+(r:Int))=(c:Int)+(r:Int)∧((c:Int)+(r:Int)).tmod 4=(m:Int)∧((c:Int)+(r:Int)) % 4=(m:Int)∧IntKind.i64.wrap (4 * (m:Int))=4 * (m:Int)∧IntKind.i64.wrap ((r:Int)+4 * (m:Int))=(r:Int)+4 * (m:Int)∧(0:Int)≤(r:Int)+4 * (m:Int)∧(r:Int)+4 * (m:Int) < 16∧((r:Int)+4 * (m:Int)).toNat=r+4 * m:=by
 have hm:m < 4:=om;refine⟨om,wi,by rw[Int.tmod_eq_emod_of_nonneg om];omega,om,wi,wi,om,om,om⟩
theorem sB(c r:Nat)(hc:c < 4)(hr:r < 4):
  4 * c+r < 16∧IntKind.i64.wrap (4 * (c:Int))=4 * (c:Int)∧IntKind.i64.wrap ((r:Int)+4 * (c:Int))=(r:Int)+4 * (c:Int)∧(0:Int)≤(r:Int)+4 * (c:Int)∧(r:Int)+4 * (c:Int) < 16∧((r:Int)+4 * (c:Int)).toNat=r+4 * c∧(0:Int)≤(r:Int)∧(r:Int) < 4∧r+4 * c=4 * c+r:=by
 refine⟨om,wi,wi,om,om,om,om,om,om⟩
structure Sc (w wr:World) (A K B R:Nat) (b k:RW):Prop where
 a:Row B8 wr A b
 k:Row B8 wr K k
 b:Row B8 wr B jl
 r:Row B8 wr R dq
 bel:Below A w wr
section
variable {w wr u:World} {A K B R:Nat} {b k:RW}
theorem Sc.below(h:Sc w wr A K B R b k)(hb:Below wr.heap.size wr u):Sc w u A K B R b k :=
 ⟨h.a.below hb,h.k.below hb,h.b.below hb,h.r.below hb,h.bel.trans (hb.mono (by have:=h.a.lt;omega))⟩
theorem Sc.drew(h:Sc w wr A K B R b k):Sc w wr.drew A K B R b k:=h.below (Below.refl _ _).drew
theorem Sc.cell(h:Sc w wr A K B R b k)(W i:Nat)(v:Value)(hW:R < W)(h1:A < K)(h2:K < B)(h3:B < R):Sc w (wr.setCell ⟨W,i,none⟩ v) A K B R b k :=
 ⟨h.a.other _ _ (by show W≠_;omega),h.k.other _ _ (by show W≠_;omega),h.b.other _ _ (by show W≠_;omega),h.r.other _ _ (by show W≠_;omega),h.bel.setCell (p:=⟨W,i,none⟩) (by show _≤W;omega) _⟩
end
theorem vu(b k:RW)(last:Bool)(w:World):Calls prog 228 #[.agg (fw B8 b),.agg (fw B8 k),.bool last,.agg (fw B8 jl)] w fun e w'=>e = .returned (.agg (fw B8 (fN b k last)))∧Below w.heap.size w w':=by
 obtain⟨X,hX⟩:=eY (fN b k last);obtain⟨S,hS⟩:=eY (cz b);rw[hX];have hsh:∀ c r m:Nat,c < 4→r < 4→(c+r) % 4=m→∀ (h:4 * c+r < 16) (h2:r+4 * m < 16),S[4 * c+r]=sb b[r+4 * m]:=fun c r m hc hr hm h h2=>by
  simp only[← hS];exact Eg b c r m hc hr hm h h2
 have hlast:last=true→∀ (i:Nat) (h:i < 16),X[i]=S[i] ^^^ k[i]:=fun h i hi=>by
  subst h;simp only[← hX,← hS];exact zX b k i hi
 have hmix:last=false→∀ (c r r1 r2 r3:Nat),c < 4→r < 4→(r+1) % 4=r1→(r+2) % 4=r2→(r+3) % 4=r3→∀ (h:4 * c+r < 16) (k1:r1+4 * c < 16) (k2:r2+4 * c < 16) (k3:r3+4 * c < 16),X[4 * c+r]=(xt S[4 * c+r] ^^^ xt S[r1+4 * c] ^^^ S[r1+4 * c] ^^^ S[r2+4 * c] ^^^ S[r3+4 * c]) ^^^ k[4 * c+r]:=fun h c r r1 r2 r3 hc hr h1 h2 h3 h4 k1 k2 k3=>by
  subst h;simp only[← hX,← hS];exact DW b k c r r1 r2 r3 hc hr h1 h2 h3 h4 k1 k2 k3
 have Hsh:=SM hsh;have Hlast:=SM hlast;have Hmix:=SM hmix;clear hsh hlast hmix hX hS
 go_in
 go_upto_region 2 with fail
 obtain⟨hA,hK,hB,hb,hs⟩:=mT w 22 22 299 B8 b B8 k B8 jl;generalize ((w.alloc (.cells (fw B8 b) 22)).alloc (.cells (fw B8 k) 22)).alloc (.cells (fw B8 jl) 299)=w1 at *;obtain⟨hR,hSS,hb2,hs2⟩:=iH w1 22 22 B8 dq B8 dq;have hs':w1.heap.size=w.heap.size+1+1+1:=hs;rw[hs'] at hR hSS;have hK7:Sc w ((w1.alloc (.cells (fw B8 dq) 22)).alloc (.cells (fw B8 dq) 22)) w.heap.size (w.heap.size+1) (w.heap.size+1+1) (w.heap.size+1+1+1) b k:=⟨hA.below hb2,hK.below hb2,hB.below hb2,hR,bt hb hb2⟩
 have hSS2:Row B8 ((w1.alloc (.cells (fw B8 dq) 22)).alloc (.cells (fw B8 dq) 22)) (w.heap.size+1+1+1+1) (t8 S 0):=by rw[← sS S];exact hSS
 clear hSS;have hSS:=hSS2;clear hSS2;generalize (w1.alloc (.cells (fw B8 dq) 22)).alloc (.cells (fw B8 dq) 22)=w2 at *;clear hA hB hK hR hb hb2 hs hs2 hs';have l4:w.heap.size+1+1+1 < w.heap.size+1+1+1+1:=om;have l3:w.heap.size+1+1 < w.heap.size+1+1+1:=om;have l2:w.heap.size+1 < w.heap.size+1+1:=om;have l1:w.heap.size < w.heap.size+1:=om;generalize w.heap.size+1+1+1+1=SB at *;generalize w.heap.size+1+1+1=RB at *
 generalize w.heap.size+1+1=BB at *;generalize w.heap.size+1=KB at *;generalize hAB:w.heap.size=AB at *;have HAB:=SM hAB;clear hAB
 go_wp2
 go_loopw [10] (fun i wr=>∃ c:Nat,c≤4∧i = .int .i64 c∧Sc w wr AB KB BB RB b k∧Row B8 wr SB (t8 S (4 * c))) (fun i _=>4 - (intOf i).toNat)
 case atStart=>exact⟨0,om,rfl,hK7,hSS⟩
 case round =>
  clear hK7 hSS;obtain⟨c,hc,rfl,hK,hS⟩:=hrel;have HK:=SM hK;have HS:=SM hS;clear hK hS
  by_cases hct:c < 4
  ·have i1:(0:Int)≤(c:Int):=om;have i2:(c:Int) < 4:=om
   go_wp2
   go_loopw [11] (fun i wr=>∃ r:Nat,r≤4∧i = .int .i64 r∧Sc w wr AB KB BB RB b k∧Row B8 wr SB (t8 S (4 * c+r))) (fun i _=>4 - (intOf i).toNat)
   case atStart=>exact⟨0,om,rfl,HK.o,HS.o⟩
   case round =>
    clear HK HS;obtain⟨r,hr,rfl,hK,hS⟩:=hrel;have HK:=SM hK;have HS:=SM hS;clear hK hS
    by_cases hrt:r < 4
    ·obtain⟨m,hm⟩:=eY ((c+r) % 4);obtain⟨hm4,w3,e3,e4,w4,w5,j3,j4,j5⟩:=zx c r m hct hrt hm;obtain⟨h416,w1,w2,j6,j7,j8,j1,j2,hadr⟩:=sB c r hct hrt;have hv:=Hsh.o c r m hct hrt hm h416 hm4;have q1:=HK.o.a.cell (r+4 * m) hm4;have hps:=sR S (4 * c+r) h416;rw[hv] at hps;generalize b[r+4 * m]'hm4=x at *;have q2:=jB HK.o.b x;have n1:=oe x;have n2:=od x;have n3:(bI x).toNat=x.toNat:=rfl;have q3:wr.frozen? ⟨SB,r+4 * c,none⟩=false:=HS.o.free _
     obtain⟨z,q4⟩ : ∃ z,wr.cell? ⟨SB,r+4 * c,none⟩=some z:=⟨_,by rw[hadr];exact HS.o.cell _ h416⟩
     have HS2:Hd (Row B8 (wr.setCell ⟨SB,r+4 * c,none⟩ (B8 (sb x))) SB (t8 S (4 * c+(r+1)))):=SM (by
      have:=HS.o.set (4 * c+r) h416 (sb x);rw[hps] at this;rw[hadr];exact this)
     replace HK:=SM (HK.o.cell SB (r+4 * c) (B8 (sb x)) l4 l1 l2 l3);clear hv hps hm hadr HS
     go_wp2
     go_roundw
     case rel=>exact⟨r+1,om,by go_num,HK.o,HS2.o⟩
     case measure=>simp[intOf];omega
    ·obtain rfl:r=4:=om
     go_wp2
     go_roundw
     case rel=>exact⟨c+1,om,by go_num,HK.o,by rw[show 4 * (c+1)=4 * c+4 by omega];exact HS.o⟩
     case measure=>simp[intOf];omega
  ·have d0 : ¬ (c:Int) < 4:=om;rw[show 4 * c=16 by omega,xO] at HS
   go_upto_region 10 with fail
   obtain⟨hO,hb5,hs5⟩:=dU wr 22 B8 dq;have lO:SB < wr.heap.size:=HS.o.lt;generalize wr.alloc (.cells (fw B8 dq) 22)=w5 at *;replace HK:=SM (HK.o.below hb5);replace HS:=SM (HS.o.below hb5);rw[sS X] at hO;have HO:=SM hO;clear hO hb5;generalize wr.heap.size=OB at *;have lR:RB < OB:=om
   go_wp2
   go_loopw [13] (fun i wr=>∃ c:Nat,c≤4∧i = .int .i64 c∧Sc w wr AB KB BB RB b k∧Row B8 wr SB S∧Row B8 wr OB (t8 X (4 * c))) (fun i _=>4 - (intOf i).toNat)
   case atStart=>exact⟨0,om,rfl,HK.o,HS.o,HO.o⟩
   case round =>
    clear HK HS HO;obtain⟨c,hc,rfl,hK,hS,hO⟩:=hrel;have HK:=SM hK;have HS:=SM hS;have HO:=SM hO;clear hK hS hO
    by_cases hct:c < 4
    ·have i1:(0:Int)≤(c:Int):=om;have i2:(c:Int) < 4:=om
     go_wp2
     go_loopw [14] (fun i wr=>∃ r:Nat,r≤4∧i = .int .i64 r∧Sc w wr AB KB BB RB b k∧Row B8 wr SB S∧Row B8 wr OB (t8 X (4 * c+r))) (fun i _=>4 - (intOf i).toNat)
     case atStart=>exact⟨0,om,rfl,HK.o,HS.o,HO.o⟩
     case round =>
      clear HK HS HO;obtain⟨r,hr,rfl,hK,hS,hO⟩:=hrel;have HK:=SM hK;have HS:=SM hS;have HO:=SM hO;clear hK hS hO
      by_cases hrt:r < 4
      ·obtain⟨h416,w1,w2,j6,j7,j8,j1,j2,hadr⟩:=sB c r hct hrt;have hps:=sR X (4 * c+r) h416;cases last
       ·obtain⟨r1,h1⟩ : ∃ m,(r+1) % 4=m:=⟨_,rfl⟩;obtain⟨r2,h2⟩ : ∃ m,(r+2) % 4=m:=⟨_,rfl⟩;obtain⟨r3,h3⟩ : ∃ m,(r+3) % 4=m:=⟨_,rfl⟩;obtain⟨k1,v1,a1,b1,c1,d1,f1,g1⟩:=mV c r 1 r1 1 rfl hct hrt dc h1;obtain⟨k2,v2,a2,b2,c2,d2,f2,g2⟩:=mV c r 2 r2 2 rfl hct hrt dc h2;obtain⟨k3,v3,a3,b3,c3,d3,f3,g3⟩:=mV c r 3 r3 3 rfl hct hrt dc h3;have hl:=Hmix.o rfl c r r1 r2 r3 hct hrt h1 h2 h3 h416 k1 k2 k3;rw[hl] at hps
        obtain⟨x,hx⟩:=eY (S[4 * c+r]'h416);obtain⟨y,hy⟩ : ∃ x,S[r1+4 * c]'k1=x:=⟨_,rfl⟩;obtain⟨z2,hz2⟩ : ∃ x,S[r2+4 * c]'k2=x:=⟨_,rfl⟩;obtain⟨z3,hz3⟩ : ∃ x,S[r3+4 * c]'k3=x:=⟨_,rfl⟩;obtain⟨kv,hkv⟩ : ∃ x,k[4 * c+r]'h416=x:=⟨_,rfl⟩;rw[hx,hy,hz2,hz3,hkv] at hps;have hcells:∀ u,Row B8 u SB S→u.cell? ⟨SB,r+4 * c,none⟩=some (B8 x)∧u.cell? ⟨SB,r1+4 * c,none⟩=some (B8 y)∧u.cell? ⟨SB,r2+4 * c,none⟩=some (B8 z2)∧u.cell? ⟨SB,r3+4 * c,none⟩=some (B8 z3):=fun u hu=>by
         have q1:=hu.cell (4 * c+r) h416;have q2:=hu.cell (r1+4 * c) k1;have q3:=hu.cell (r2+4 * c) k2;have q4:=hu.cell (r3+4 * c) k3;rw[hx] at q1;rw[hy] at q2;rw[hz2] at q3;rw[hz3] at q4;exact⟨by rw[hadr];exact q1,q2,q3,q4⟩
        have Hcells:=SM hcells;have hkc:∀ u,Sc w u AB KB BB RB b k→u.cell? ⟨KB,r+4 * c,none⟩=some (B8 kv):=fun u hu=>by
         have q1:=hu.k.cell (4 * c+r) h416;rw[hkv] at q1;rw[hadr];exact q1
        have Hkc:=SM hkc;have Hps:=SM hps;have Hadr:=SM hadr;clear hcells hkc hps hl hx hy hz2 hz3 hkv h1 h2 h3 hadr;obtain⟨q1,q2,q3,q4⟩:=Hcells.o _ HS.o
        go_upto_region 19 with fail
        clear q1 q2 q3 q4;refine yW (.take 0 (.take 2 (.take 5 (tk 7 8 (tk 16 8 (.call 1 (.call 3 (.take 4 (.take 6 (.take 15 (tk 24 2 .done))))))))))) (fun u=>u=wr.drew) rfl ?_;replace HK:=SM HK.o.drew;replace HS:=SM HS.o.drew;replace HO:=SM HO.o.drew;generalize wr.drew=wr at *;obtain⟨q1,q2,q3,q4⟩:=Hcells.o _ HS.o
        repeat(refine yB ?_;walk_nrm)
        refine nK rfl rfl ?_;apply Exists.intro;apply Exists.intro;apply Exists.intro;refine⟨fun w' hC'=>?_,fun w' hC'=>?_,?_⟩;(skip;go_simp;exact⟨rfl,rfl⟩);(skip;exact eR (nM _ _));walk_nrm;refine nK rfl rfl ?_;apply Exists.intro;apply Exists.intro;apply Exists.intro;refine⟨fun w' hC'=>?_,fun w' hC'=>?_,?_⟩;(skip;go_simp;exact⟨rfl,rfl⟩);(skip;exact eR (nM _ _));walk_nrm
        repeat(refine yB ?_;walk_nrm)
        refine al ?_;clear q1 q2 q3 q4;have q1:=Hkc.o _ HK.o;have q3:wr.frozen? ⟨OB,r+4 * c,none⟩=false:=HO.o.free _;obtain⟨z,q4⟩ : ∃ z,wr.cell? ⟨OB,r+4 * c,none⟩=some z:=⟨_,by rw[Hadr.o];exact HO.o.cell _ h416⟩
        have hps:=Hps.o;have HO2:Hd (Row B8 (wr.setCell ⟨OB,r+4 * c,none⟩ (B8 ((xt x ^^^ xt y ^^^ y ^^^ z2 ^^^ z3) ^^^ kv))) OB (t8 X (4 * c+(r+1)))):=SM (by
         have:=HO.o.set (4 * c+r) h416 ((xt x ^^^ xt y ^^^ y ^^^ z2 ^^^ z3) ^^^ kv);rw[hps] at this;rw[Hadr.o];exact this)
        replace HK:=SM (HK.o.cell OB (r+4 * c) (B8 ((xt x ^^^ xt y ^^^ y ^^^ z2 ^^^ z3) ^^^ kv)) lR l1 l2 l3);replace HS:=SM (HS.o.other ⟨OB,r+4 * c,none⟩ (B8 ((xt x ^^^ xt y ^^^ y ^^^ z2 ^^^ z3) ^^^ kv)) (by show OB≠_;omega))
        clear hps HO Hps
        go_wp2
        go_roundw
        case rel=>exact⟨r+1,om,by go_num,HK.o,HS.o,HO2.o⟩
        case measure=>simp[intOf];omega
       ·have hl:=Hlast.o rfl (4 * c+r) h416;have q1:=HS.o.cell (4 * c+r) h416;have q2:=HK.o.k.cell (4 * c+r) h416;rw[hl] at hps;generalize S[4 * c+r]'h416=x at *;generalize k[4 * c+r]'h416=y at *;rw[← hadr] at q1 q2;have q3:wr.frozen? ⟨OB,r+4 * c,none⟩=false:=HO.o.free _;obtain⟨z,q4⟩ : ∃ z,wr.cell? ⟨OB,r+4 * c,none⟩=some z:=⟨_,by rw[hadr];exact HO.o.cell _ h416⟩
        have HO2:Hd (Row B8 (wr.setCell ⟨OB,r+4 * c,none⟩ (B8 (x ^^^ y))) OB (t8 X (4 * c+(r+1)))):=SM (by
         have:=HO.o.set (4 * c+r) h416 (x ^^^ y);rw[hps] at this;rw[hadr];exact this)
        replace HK:=SM (HK.o.cell OB (r+4 * c) (B8 (x ^^^ y)) lR l1 l2 l3);replace HS:=SM (HS.o.other ⟨OB,r+4 * c,none⟩ (B8 (x ^^^ y)) (by show OB≠_;omega))
        clear hl hps hadr HO
        go_wp2
        go_roundw
        case rel=>exact⟨r+1,om,by go_num,HK.o,HS.o,HO2.o⟩
        case measure=>simp[intOf];omega
      ·obtain rfl:r=4:=om
       go_wp2
       go_roundw
       case rel=>exact⟨c+1,om,by go_num,HK.o,HS.o,by rw[show 4 * (c+1)=4 * c+4 by omega];exact HO.o⟩
       case measure=>simp[intOf];omega
    ·have d0 : ¬ (c:Int) < 4:=om;rw[show 4 * c=16 by omega,xO] at HO
     have q1:=HO.o.r;have q2:=HK.o.r.k;have hA:w.heap.size≤RB:=by have:=HAB.o;omega
     go_wp2
     refine bodyPost_ret (cq rfl _ _ RB 0 (fw B8 X) rfl (HK.o.r.all X).r) rfl ⟨rfl,aa (by have:=HK.o.bel;rw[← HAB.o] at this;exact this) hA _ _⟩
end
section
structure Sa (w wr:World) (A C R K:Nat) (key:RW):Prop where
 a:Row B8 wr A key
 c:Row B8 wr C jl
 r:Row B8 wr R dq
 k:Row B8 wr K (SQ key 176)
 bel:Below A w wr
section
variable {w wr u:World} {A C R K:Nat} {key:RW}
theorem Sa.below(h:Sa w wr A C R K key)(hb:Below wr.heap.size wr u):Sa w u A C R K key :=
 ⟨h.a.below hb,h.c.below hb,h.r.below hb,h.k.below hb,h.bel.trans (hb.mono (by have:=h.a.lt;omega))⟩
theorem Sa.drew(h:Sa w wr A C R K key):Sa w wr.drew A C R K key:=h.below (Below.refl _ _).drew
theorem Sa.cell(h:Sa w wr A C R K key)(W i:Nat)(v:Value)(h1:A < W)(h2:W < C)(h3:C < R)(h4:R < K):Sa w (wr.setCell ⟨W,i,none⟩ v) A C R K key :=
 ⟨h.a.other _ _ (by show W≠_;omega),h.c.other _ _ (by show W≠_;omega),h.r.other _ _ (by show W≠_;omega),h.k.other _ _ (by show W≠_;omega),h.bel.setCell (p:=⟨W,i,none⟩) (by show _≤W;omega) _⟩
theorem Sa.at_(h:Sa w wr A C R K key)(W o:Nat)(cs:Array Value)(h1:A < W)(h2:W < C)(h3:C < R)(h4:R < K):Sa w (setAt wr W o cs) A C R K key :=
 ⟨h.a.apart _ _ _ om,h.c.apart _ _ _ om,h.r.apart _ _ _ om,h.k.apart _ _ _ om,aa h.bel om _ _⟩
end
theorem DD(key b:RW)(w:World):Calls prog 219 #[.agg (fw B8 key),.agg (fw B8 b),.agg (fw B8 jl)] w fun e w'=>e = .returned (.agg (fw B8 (enc key b)))∧Below w.heap.size w w':=by
 obtain⟨X,hX⟩:=eY (enc key b);rw[hX];have HX:Hd (rx key b 10=X):=SM hX;clear hX
 go_in
 go_upto_region 1 with fail
 obtain⟨hA,hB,hC,hb,hs⟩:=mT w 22 22 299 B8 key B8 b B8 jl;generalize ((w.alloc (.cells (fw B8 key) 22)).alloc (.cells (fw B8 b) 22)).alloc (.cells (fw B8 jl) 299)=w1 at *;obtain⟨hR,hb2,hs2⟩:=dU w1 22 B8 dq;have hs':w1.heap.size=w.heap.size+1+1+1:=hs;rw[hs'] at hR hs2;generalize w1.alloc (.cells (fw B8 dq) 22)=w2 at *;replace hA:=hA.below hb2;replace hB:=hB.below hb2;replace hC:=hC.below hb2;replace hb:=bt hb hb2
 have l1:w.heap.size < w.heap.size+1:=om;have l2:w.heap.size+1 < w.heap.size+1+1:=om;have l3:w.heap.size+1+1 < w.heap.size+1+1+1:=om;have l4:w.heap.size+1+1+1 < w2.heap.size:=om;clear hb2 hs hs' hs2;generalize w.heap.size+1+1+1=RB at *;generalize w.heap.size+1+1=CB at *;generalize w.heap.size+1=BB at *;generalize hAB:w.heap.size=AB at *;have HAB:=SM hAB;clear hAB;have q1:=hA.r;have q2:=hC.r
 go_wp2_with fail
 refine (zN key w2).mono ?_;rintro _ w3 ⟨rfl,hb3⟩;clear q1 q2;replace hA:=hA.below hb3;replace hB:=hB.below hb3;replace hC:=hC.below hb3;replace hR:=hR.below hb3;replace hb:=hb.trans (hb3.mono om);have l5:RB < w3.heap.size:=by have:=hb3.size;omega
 clear hb3 l4;obtain⟨hK,hb4,hs4⟩:=dU w3 333 B8 (SQ key 176)
 go_upto_region 2 with fail
 generalize w3.alloc (.cells (fw B8 (SQ key 176)) 333)=w4 at *;have HB:=SM (hB.below hb4);have HE:Hd (Sa w w4 AB CB RB w3.heap.size key):=SM ⟨hA.below hb4,hC.below hb4,hR.below hb4,hK,hb.trans (hb4.mono om)⟩;clear hA hB hC hR hb hb4 hK hs4;generalize w3.heap.size=KB at *;rw[← pD b (rk key 0)] at HB
 go_wp2
 go_loopw [8] (fun i wr=>∃ j:Nat,j≤16∧i = .int .i64 j∧Sa w wr AB CB RB KB key∧Row B8 wr BB (jx b (rk key 0) j)) (fun i _=>16 - (intOf i).toNat)
 case atStart=>exact⟨0,om,rfl,HE.o,HB.o⟩
 case round =>
  clear HE HB;obtain⟨j,hj,rfl,hE,hB⟩:=hrel;have HE:=SM hE;have HB:=SM hB;clear hE hB
  by_cases hjt:j < 16
  ·have i1:(0:Int)≤(j:Int):=om;have i2:(j:Int) < 16:=om;have hk0:∀ u,Sa w u AB CB RB KB key→u.cell? ⟨KB,j,none⟩=some (B8 ((rk key 0)[j]'hjt)):=fun u hu=>by
    have:=hu.k.cell j om;rw[xE key 176 j om om,show j / 16=0 by omega,show j % 16=j by omega,eO _ _ hjt] at this
    exact this
   have hb0:∀ u,Row B8 u BB (jx b (rk key 0) j)→u.cell? ⟨BB,j,none⟩=some (B8 (b[j]'hjt)):=fun u hu=>by
    have:=hu.cell j hjt;rw[yi b (rk key 0) j hjt] at this;exact this
   have hst:∀ u,Row B8 u BB (jx b (rk key 0) j)→Row B8 (u.setCell ⟨BB,j,none⟩ (B8 (b[j]'hjt ^^^ (rk key 0)[j]'hjt))) BB (jx b (rk key 0) (j+1)):=fun u hu=>by
    have:=hu.set j hjt (b[j]'hjt ^^^ (rk key 0)[j]'hjt);rw[pC b (rk key 0) j hjt] at this;exact this
   generalize b[j]'hjt=x at *;generalize (rk key 0)[j]'hjt=y at *;have Hk0:=SM hk0;have Hb0:=SM hb0;have Hst:=SM hst;clear hk0 hb0 hst
   go_upto_region 5 with fail
   refine yW (tk 0 10 (.brk 10 .done)) (fun u=>u=wr.drew) rfl ?_;replace HE:=SM HE.o.drew;replace HB:=SM HB.o.drew;generalize wr.drew=wr at *;have q1:=Hk0.o _ HE.o;have q2:=Hb0.o _ HB.o;have q3:=HB.o.free j;have HB2:=SM (Hst.o _ HB.o);replace HE:=SM (HE.o.cell BB j (B8 (x ^^^ y)) l1 l2 l3 l5)
   repeat(refine yB ?_;walk_nrm)
   refine et rfl rfl (fun K hK=>?_);go_simp;refine hK _ _ (fun _=>True) trivial (al ?_);clear q1 q2 q3;simp only[jk] at HB2 HE;generalize wr.setCell ⟨BB,j,none⟩ (.int .u8 (bI (x ^^^ y)))=w6 at *
   go_wp2
   go_roundw
   case rel=>exact⟨j+1,om,by go_num,HE.o,HB2.o⟩
   case measure=>simp[intOf];omega
  ·have d0 : ¬ (j:Int) < 16:=om;rw[show j=16 by omega,tX] at HB
   have HB0:Hd (Row B8 wr BB (rx key b 0)):=HB;clear HB
   go_wp2
   go_loopw [9] (fun i wr=>∃ m:Nat,m≤10∧i = .int .i64 ((m:Int)+1)∧Sa w wr AB CB RB KB key∧Row B8 wr BB (rx key b m)) (fun i _=>11 - (intOf i).toNat)
   case atStart=>exact⟨0,om,rfl,HE.o,HB0.o⟩
   case round =>
    clear HE HB0;obtain⟨m,hm,rfl,hE,hB⟩:=hrel;have HE:=SM hE;have HB:=SM hB;clear hE hB
    by_cases hmt:m < 10
    ·have i1:(0:Int)≤(m:Int)+1:=om;have i2:(m:Int)+1 < 11:=om;have i3:(m:Int)+1≤10:=om;have i4:((m:Int)+1).toNat=m+1:=om;have hrk:∀ u,Sa w u AB CB RB KB key→readAt u KB ((m+1) * 16) 16=some (fw B8 (rk key (m+1))):=fun u hu=>by
      have:=hu.k.sub ((m+1) * 16) 16 om;rw[qh key 176 (m+1) om om] at this;exact this
     have hsc:rx key b (m+1)=fN (rx key b m) (rk key (m+1)) (decide (m+1=10)):=rfl;obtain⟨B,hBB⟩:=eY (rx key b m);obtain⟨K,hKK⟩:=eY (rk key (m+1));rw[hBB,hKK] at hsc;rw[hBB] at HB;rw[hKK] at hrk;obtain⟨bb,hbb⟩ : ∃ bb,decide (m+1=10)=bb:=⟨_,rfl⟩;rw[hbb] at hsc;have e10:((m:Int)+1 == 10)=bb:=by rw[← hbb,Bool.eq_iff_iff];simp;omega
     have e11:decide ((m:Int)+1=10)=bb:=by rw[← hbb,Bool.eq_iff_iff];simp;omega
     have Hsc:=SM hsc;have Hrk:=SM hrk;clear hsc hrk hBB hKK hbb
     go_upto_region 9 with fail
     have hdb:=(Sy wr).drew;refine yW (tk 0 7 (.run 7 (.brk 8 .done))) (fun u=>readAt u BB 0 16=some (fw B8 B)∧readAt u KB ((m+1) * 16) 16=some (fw B8 K)∧readAt u CB 0 256=some (fw B8 jl)) ⟨(HB.o.below hdb).r,Hrk.o _ (HE.o.below hdb),(HE.o.below hdb).c.r⟩ ?_;replace HE:=SM (HE.o.below hdb);replace HB:=SM (HB.o.below hdb);clear hdb;generalize wr.drew=wr at *
     repeat((first|refine yO ?_|refine yM ?_|refine yF rfl rfl (fun w' hC'=>by obtain⟨c1,c2,c3⟩:=hC';go_simp;first|done|exact rfl) ?_);walk_nrm)
     refine yR ?_;refine (vu B K bb wr).mono ?_;rintro _ w8 ⟨rfl,hb8⟩;replace HE:=SM (HE.o.below hb8);replace HB:=SM (HB.o.below hb8);refine kS ⟨HB.o.r,Hrk.o _ HE.o,HE.o.c.r⟩ ?_;walk_nrm;have q3:=HB.o.k;refine et rfl rfl (fun K hK=>?_);go_simp;refine hK _ _ (fun _=>True) trivial (al ?_);rw[← Hsc.o];replace HE:=SM (HE.o.at_ BB 0 (fw B8 (rx key b (m+1))) l1 l2 l3 l5);have HB2:=SM (HB.o.all (rx key b (m+1)))
     clear q3 hb8 HB;generalize setAt w8 BB 0 (fw B8 (rx key b (m+1)))=w9 at *
     go_wp2
     go_roundw
     case rel=>exact⟨m+1,om,by go_num,HE.o,HB2.o⟩
     case measure=>simp[intOf];omega
    ·have d1 : ¬ (m:Int)+1≤10:=om;have d2:(10:Int) < (m:Int)+1:=om;rw[show m=10 by omega,HX.o] at HB
     have q1:=HB.o.r;have q2:=HE.o.r.k;have hA:w.heap.size≤RB:=by have:=HAB.o;omega
     go_wp2
     refine bodyPost_ret (cq rfl _ _ RB 0 (fw B8 X) rfl (HE.o.r.all X).r) rfl ⟨rfl,aa (by have:=HE.o.bel;rw[← HAB.o] at this;exact this) hA _ _⟩
end
section
open Go.RowKit Go.ChangeMaps
def SF(nonce:N8)(i k:Nat):RW:=Vector.ofFn fun t=>if t.val < 8 then (if t.val < k then gd nonce t.val else 0) else if 15 - t.val < k then UInt8.ofNat (i / 256 ^ (15 - t.val)) else 0
theorem FH(nonce:N8)(i:Nat):dq=SF nonce i 0:=by
 apply Vector.ext;intro t ht;simp[SF,dq]
theorem Kw(nonce:N8)(i:Nat):SF nonce i 8=rR nonce i:=by
 apply Vector.ext;intro t ht
 simp only[SF,rR,Vector.getElem_ofFn]
 by_cases h:t < 8
 ·simp[h]
 ·simp only[if_neg h];rw[if_pos om]
theorem FG(nonce:N8)(i k:Nat)(hk:k < 8)(h1:k < 16)(h2:15 - k < 16):((SF nonce i k).set k nonce[k]).set (15 - k) (UInt8.ofNat (i / 256 ^ k))=SF nonce i (k+1):=by
 apply Vector.ext;intro t ht
 by_cases e:t=15 - k
 ·subst e;rw[Vector.getElem_set_self];simp only[SF,Vector.getElem_ofFn];rw[if_neg om,if_pos om,show 15 - (15 - k)=k by omega]
 ·rw[Vector.getElem_set_ne _ _ (Ne.symm e)]
  by_cases e2:t=k
  ·subst e2;rw[Vector.getElem_set_self];simp only[SF,Vector.getElem_ofFn];rw[if_pos hk,if_pos om,eO _ _ hk]
  ·rw[Vector.getElem_set_ne _ _ (Ne.symm e2)];simp only[SF,Vector.getElem_ofFn]
   by_cases h8:t < 8
   ·rw[if_pos h8,if_pos h8]
    by_cases h9:t < k
    ·rw[if_pos h9,if_pos om]
    ·rw[if_neg h9,if_neg om]
   ·rw[if_neg h8,if_neg h8]
    by_cases h9:15 - t < k
    ·rw[if_pos h9,if_pos om]
    ·rw[if_neg h9,if_neg om]
structure Sb (w wr:World) (A N C R:Nat) (key:RW) (nonce:N8):Prop where
 a:Row B8 wr A key
 n:Row B8 wr N nonce
 c:Row B8 wr C jl
 r:Row B8 wr R dq
 bel:Below A w wr
section
variable {w wr u:World} {A N C R:Nat} {key:RW} {nonce:N8}
theorem Sb.below(h:Sb w wr A N C R key nonce)(hb:Below wr.heap.size wr u):Sb w u A N C R key nonce :=
 ⟨h.a.below hb,h.n.below hb,h.c.below hb,h.r.below hb,h.bel.trans (hb.mono (by have:=h.a.lt;omega))⟩
theorem Sb.cell(h:Sb w wr A N C R key nonce)(W i:Nat)(v:Value)(h1:A < N)(h2:N < C)(h3:C < R)(h4:R < W):Sb w (wr.setCell ⟨W,i,none⟩ v) A N C R key nonce :=
 ⟨h.a.other _ _ (by show W≠_;omega),h.n.other _ _ (by show W≠_;omega),h.c.other _ _ (by show W≠_;omega),h.r.other _ _ (by show W≠_;omega),h.bel.setCell (p:=⟨W,i,none⟩) (by show _≤W;omega) _⟩
end
theorem s8(key:RW)(nonce:N8)(i:Nat)(w:World)(hi:i < 18446744073709551616):Calls prog 193 #[.agg (fw B8 key),.agg (fw B8 nonce),.int .u64 (i:Int),.agg (fw B8 jl)] w fun e w'=>e = .returned (.agg (fw B8 (cI key nonce i)))∧Below w.heap.size w w':=by
 obtain⟨X,hX⟩:=eY (cI key nonce i);rw[hX];have HX:Hd (enc key (rR nonce i)=X):=SM hX;clear hX
 go_in
 go_upto_region 2 with fail
 obtain⟨hA,hN,hC,hb,hs⟩:=mT w 22 107 299 B8 key B8 nonce B8 jl;generalize ((w.alloc (.cells (fw B8 key) 22)).alloc (.cells (fw B8 nonce) 107)).alloc (.cells (fw B8 jl) 299)=w1 at *;obtain⟨hR,hM,hb2,hs2⟩:=iH w1 22 22 B8 dq B8 dq;have hs':w1.heap.size=w.heap.size+1+1+1:=hs;rw[hs'] at hR hM;have hE:Sb w ((w1.alloc (.cells (fw B8 dq) 22)).alloc (.cells (fw B8 dq) 22)) w.heap.size (w.heap.size+1) (w.heap.size+1+1) (w.heap.size+1+1+1) key nonce:=⟨hA.below hb2,hN.below hb2,hC.below hb2,hR,bt hb hb2⟩
 have hM2:Row B8 ((w1.alloc (.cells (fw B8 dq) 22)).alloc (.cells (fw B8 dq) 22)) (w.heap.size+1+1+1+1) (SF nonce i 0):=by rw[← FH nonce i];exact hM
 generalize (w1.alloc (.cells (fw B8 dq) 22)).alloc (.cells (fw B8 dq) 22)=w2 at *;have HE:=SM hE;have HM:=SM hM2;clear hA hN hC hR hM hb hb2 hs hs2 hs' hE hM2;have l4:w.heap.size+1+1+1 < w.heap.size+1+1+1+1:=om;have l3:w.heap.size+1+1 < w.heap.size+1+1+1:=om;have l2:w.heap.size+1 < w.heap.size+1+1:=om;have l1:w.heap.size < w.heap.size+1:=om;generalize w.heap.size+1+1+1+1=MB at *;generalize w.heap.size+1+1+1=RB at *
 generalize w.heap.size+1+1=CB at *;generalize w.heap.size+1=NB at *;generalize hAB:w.heap.size=AB at *;have HAB:=SM hAB;clear hAB
 go_wp2
 go_loopw [2,10] (fun x j wr=>∃ k:Nat,k≤8∧j = .int .i64 k∧x = .int .u64 ((i / 256 ^ k:Nat):Int)∧Sb w wr AB NB CB RB key nonce∧Row B8 wr MB (SF nonce i k)) (fun _ j _=>8 - (intOf j).toNat)
 case atStart=>exact⟨0,om,rfl,sm,HE.o,HM.o⟩
 case round =>
  clear HE HM;obtain⟨k,hk,rfl,rfl,hE,hM⟩:=hrel;have HE:=SM hE;have HM:=SM hM;clear hE hM
  by_cases hkt:k < 8
  ·have i1:(0:Int)≤(k:Int):=om;have i2:(k:Int) < 8:=om;have i3:(k:Int) < 16:=om;have w1:IntKind.i64.wrap (15 - (k:Int))=((15 - k:Nat):Int):=wi;have i4:(0:Int)≤((15 - k:Nat):Int):=om;have i5:((15 - k:Nat):Int) < 16:=om;have h15:15 - k < 16:=om;have h16:k < 16:=om;have hst:=FG nonce i k hkt h16 h15;have q1:=HE.o.n.cell k hkt;have hdd:i / 256 ^ (k+1)=i / 256 ^ k / 256:=by rw[Nat.pow_succ,Nat.div_div_eq_div_mul]
   have Hdd:=SM hdd;have hyx:i / 256 ^ k < 18446744073709551616:=Nat.lt_of_le_of_lt (Nat.div_le_self _ _) hi;generalize nonce[k]'hkt=x at *;obtain⟨Y,hY⟩:=eY (i / 256 ^ k);rw[hY] at hst hyx Hdd ⊢;have Hst:=SM hst;clear hst hdd hY;have q3:=HM.o.free k;have q4:=HM.o.cell k h16;have hM2:=HM.o.set k h16 x;replace HE:=SM (HE.o.cell MB k (B8 x) l1 l2 l3 l4);have HM2:=SM hM2;clear hM2 HM
   go_upto_region 6 with fail
   clear q1 q3 q4;simp only[jk] at HE HM2;generalize wr.setCell ⟨MB,k,none⟩ (.int .u8 (bI x))=w5 at *;have hB:(B8 (UInt8.ofNat Y)) = .int .u8 ((Y:Int) % 256):=by
    simp only[B8,Value.int.injEq,true_and,UInt8.toNat_ofNat'];omega
   have q3:=HM2.o.free (15 - k);have q4:=HM2.o.cell (15 - k) h15;have hM3:=HM2.o.set (15 - k) h15 (UInt8.ofNat Y);rw[Hst.o,hB] at hM3;have HM3:=SM hM3;replace HE:=SM (HE.o.cell MB (15 - k) (.int .u8 ((Y:Int) % 256)) l1 l2 l3 l4);clear hM3 hB HM2 Hst;generalize (15 - k:Nat)=g at *
   go_wp2
   go_roundw
   case rel=>exact⟨k+1,om,by go_num,by rw[Hdd.o];(first | rfl | (congr 1;omega)),HE.o,HM3.o⟩
   case measure=>simp[intOf];omega
  ·have d0 : ¬ (k:Int) < 8:=om;rw[show k=8 by omega,Kw] at HM
   have q1:=HE.o.a.r;have q2:=HM.o.r;have q3:=HE.o.c.r
   go_wp2_with fail
   refine (DD key (rR nonce i) wr).mono ?_;rintro _ w3 ⟨rfl,hb3⟩;rw[HX.o];replace HE:=SM (HE.o.below hb3);have hk:=HE.o.r.k;have hA:w.heap.size≤RB:=by have:=HAB.o;omega
   clear q1 q2 q3 hb3
   go_wp2
   refine bodyPost_ret (cq rfl _ _ RB 0 (fw B8 X) rfl (HE.o.r.all X).r) rfl ⟨rfl,aa (by have:=HE.o.bel;rw[← HAB.o] at this;exact this) hA _ _⟩
end
section
open Go.RowKit Go.ChangeMaps
structure Sd (w wr:World) (A N C:Nat) (key:RW) (nonce:N8):Prop where
 a:Row B8 wr A key
 n:Row B8 wr N nonce
 c:Row B8 wr C jl
 bel:Below A w wr
section
variable {w wr u:World} {A N C:Nat} {key:RW} {nonce:N8}
theorem Sd.below(h:Sd w wr A N C key nonce)(hb:Below wr.heap.size wr u):Sd w u A N C key nonce :=
 ⟨h.a.below hb,h.n.below hb,h.c.below hb,h.bel.trans (hb.mono (by have:=h.a.lt;omega))⟩
theorem Sd.below1{E:Nat}(h:Sd w wr A N C key nonce)(hb:Below E wr u)(h1:A < N)(h2:N < C)(h3:C+1 < E):Sd w u A N C key nonce :=
 ⟨h.a.same (hb.block _ om),h.n.same (hb.block _ om),h.c.same (hb.block _ om),h.bel.trans (hb.mono om)⟩
theorem Sd.at_(h:Sd w wr A N C key nonce)(W o:Nat)(cs:Array Value)(h1:A < N)(h2:N < C)(h3:C < W):Sd w (setAt wr W o cs) A N C key nonce :=
 ⟨h.a.apart _ _ _ om,h.n.apart _ _ _ om,h.c.apart _ _ _ om,aa h.bel om _ _⟩
end
theorem ao.wider{w:World}{B B':Nat}{v:Value}{l:List UInt8}(h:ao w B v l)(hB:B'≤B):ao w B' v l:=by
 refine⟨h.1,?_⟩
 rcases h.2 with hn | ⟨g,cap,cur,hv,hbg,rest⟩
 ·exact .inl hn
 ·exact .inr ⟨g,cap,cur,hv,Nat.le_trans hB hbg,rest⟩
theorem s9(key:RW)(nonce:N8)(n:Nat)(w:World)(hn:n≤1048576):Calls prog 154 #[.agg (fw B8 key),.agg (fw B8 nonce),.int .i64 0,.int .i64 n] w fun e w'=>(∃ v,e = .returned v∧ao w' w.heap.size v ((List.range n).map (ji key nonce)))∧Below w.heap.size w w':=by
 have d1:decide ((n:Int) < 0)=false:=df;have d2:decide ((n:Int) > 1048576)=false:=df;have d3:decide ((1048576:Int) < (n:Int))=false:=df
 go_in
 go_upto_region 2 with fail
 obtain⟨hA,hN,hb,hs⟩:=iH w 22 107 B8 key B8 nonce;generalize (w.alloc (.cells (fw B8 key) 22)).alloc (.cells (fw B8 nonce) 107)=w1 at *
 go_wp2_with fail
 refine (Fu w1).mono ?_;rintro _ w2 ⟨rfl,hb2⟩;replace hA:=hA.below hb2;replace hN:=hN.below hb2;replace hb:=bt hb hb2;have l2:w.heap.size+1 < w2.heap.size:=by have:=hb2.size;omega
 obtain⟨hC,hb3,hs3⟩:=dU w2 299 B8 jl
 go_upto_region 3 with fail
 generalize w2.alloc (.cells (fw B8 jl) 299)=w3 at *;have hE:Sd w w3 w.heap.size (w.heap.size+1) w2.heap.size key nonce:=⟨hA.below hb3,hN.below hb3,hC,hb.trans (hb3.mono om)⟩;have HE:=SM hE;clear hA hN hC hb hb2 hb3 hE hs;have l1:w.heap.size < w.heap.size+1:=om;generalize w2.heap.size=CB at *;generalize w.heap.size+1=NB at *;generalize hAB:w.heap.size=AB at *;have HAB:=SM hAB;clear hAB
 go_upto_region 5 with fail
 have q1:=HE.o.a.r;have q2:=HE.o.n.r;have q3:=HE.o.c.r;clear d1 d2 d3;have hblk:=s8 key nonce 0 w3 dc;rw[show ((0:Nat):Int)=0 from rfl] at hblk
 have Hblk:=SM hblk;clear hblk
 go_wp2_with fail
 refine Hblk.o.mono ?_;rintro _ w4 ⟨rfl,hb4⟩;clear q1 q2 q3 Hblk;replace HE:=SM (HE.o.below hb4);have l3:CB+1 < w4.heap.size+1:=by have:=HE.o.c.lt;omega
 clear hb4;obtain⟨hB,hb5,hs5⟩:=dU w4 22 B8 (cI key nonce 0)
 go_upto_region 6 with fail
 generalize w4.alloc (.cells (fw B8 (cI key nonce 0)) 22)=w5 at *;replace HE:=SM (HE.o.below hb5);have HB:=SM hB;clear hB hb5;generalize w4.heap.size=BB at *;have hz5:BB+1≤w5.heap.size:=om;clear hs3 hs5;have wn:IntKind.i64.wrap ((0:Int)+(n:Int))=(n:Int):=wi
 go_wp2
 go_loopw [9,12] (fun v i wr=>∃ j:Nat,j≤n∧i = .int .i64 j∧ao wr (BB+1) v ((List.range j).map (ji key nonce))∧Sd w wr AB NB CB key nonce∧Row B8 wr BB (cI key nonce ((j - 1) / 16))∧BB+1≤wr.heap.size) (fun _ i _=>n - (intOf i).toNat)
 case atStart=>exact⟨0,om,rfl,ao.nil _ _,HE.o,HB.o,hz5⟩
 case round =>
 clear HE HB hz5;obtain⟨j,hj,rfl,hO,hE,hB,hz⟩:=hrel;obtain⟨ad,c,rfl⟩:=hO.len;have HO:=SM hO;have HE:=SM hE;have HB:=SM hB;clear hO hE hB;rw[List.length_map,List.length_range] at HO ⊢
 by_cases hjt:j < n
 ·obtain⟨q,hq⟩:=eY (j / 16);obtain⟨r,hr⟩:=eY (j % 16);have hr16:r < 16:=om;have i1:(0:Int)≤(j:Int):=om;have d1:(j:Int) < (n:Int):=om;have e1:(j:Int).tdiv 16=(q:Int):=by rw[Int.tdiv_eq_ediv_of_nonneg i1];omega
  have e2:(j:Int) / 16=(q:Int):=om;have e3:(j:Int).tmod 16=(r:Int):=by rw[Int.tmod_eq_emod_of_nonneg i1];omega
  have e4:(j:Int) % 16=(r:Int):=om;have wa:IntKind.i64.wrap (q:Int)=(q:Int):=wi;have wb:IntKind.u64.wrap (q:Int)=(q:Int):=wu;have j3:(0:Int)≤(r:Int):=om;have j4:(r:Int) < 16:=om;have hjm:r≠0→(j - 1) / 16=q:=fun h=>om;have Hq:=SM hq;have Hr:=SM hr;have Hjm:=SM hjm;have hq64:q < 18446744073709551616:=om;clear hq hr hjm
  by_cases h0:r=0
  ·subst h0;have d2:(((0:Nat):Int) == 0)=true:=rfl
   go_upto_region 10 with fail
   have q1:=HE.o.a.r;have q2:=HE.o.n.r;have q3:=HE.o.c.r
   go_wp2_with fail
   refine (s8 key nonce q wr hq64).mono ?_;rintro _ w4 ⟨rfl,hb4⟩;clear q1 q2 q3;replace HE:=SM (HE.o.below hb4);replace HB:=SM (HB.o.below hb4);replace HO:=SM (HO.o.below hb4);have hz4:BB+1≤w4.heap.size:=by have:=hb4.size;omega
   have q4:=HB.o.k;have HB2:=SM (HB.o.all (cI key nonce q));replace HE:=SM (HE.o.at_ BB 0 (fw B8 (cI key nonce q)) l1 l2 om);have HO2:Hd (ao (setAt w4 BB 0 (fw B8 (cI key nonce q))) (BB+1) (.slice ad j c) ((List.range j).map (ji key nonce))):=SM (bu HO.o (fun g hg hlt=>aw w4 BB 0 _ g (fun e=>by have:=(HO.o.in g hg).1;omega)))
   have hz5:BB+1≤(setAt w4 BB 0 (fw B8 (cI key nonce q))).heap.size:=by simpa using hz4
   go_upto_region 11 with fail
   clear q4 hb4 HB HO;generalize setAt w4 BB 0 (fw B8 (cI key nonce q))=w5 at *;clear hz hz4;have hz:=hz5;have HB:=HB2;have HO:=HO2;clear hz5 HB2 HO2;have q1:=HB.o.cell 0 hr16;have hgd:gd (cI key nonce q) 0=(cI key nonce q)[0]'hr16:=eO _ _ hr16;rw[← hgd] at q1;have hcb:gd (cI key nonce q) 0=ji key nonce j:=by unfold ji;rw[Hq.o,Hr.o]
   rw[hcb] at q1;obtain⟨x,hx⟩:=eY (ji key nonce j);rw[hx] at q1;have hmap:(List.range (j+1)).map (ji key nonce)=(List.range j).map (ji key nonce) ++ [x]:=by rw[List.range_succ,List.map_append,← hx];rfl
   have Hmap:=SM hmap;clear hgd hcb hx hmap;have hl:((List.range j).map (ji key nonce)).length=j:=sm;have Hl:=SM hl;clear hl;generalize (List.range j).map (ji key nonce)=L at *
   go_upto_region 11 with fail
   have hb3:=ba (.cells #[.int .u8 (bI x)] 5) (Sy w5);have ho3:=SM (HO.o.below hb3);have hs3:=fD w5 x (bI x) rfl
   go_wp2_with (at_builtin;refine bJ rfl _ _ rfl (BB+1) _ L rfl ho3.o _ _ _ [x] rfl hs3 ?c1 ?c2 ?_)
   case c1=>have:=Hl.o;simp;omega
   case c2=>simp;omega
   intro ad' c' w6 ho4 hb4 hn4;have hz4:BB+1≤w6.heap.size:=by have:=hb4.size;simp at this;omega
   have HO4:Hd (ao w6 (BB+1) (.slice ad' (L.length+1) c') (L ++ [x])):=SM (by simpa using ho4)
   rw[Hl.o] at HO4 ⊢;have hb34:Below (BB+1) w5 w6:=(hb3.mono hz).trans hb4;replace HE:=SM (HE.o.below1 hb34 l1 l2 l3);replace HB:=SM (HB.o.same (hb34.block _ om));clear hb3 ho3 hs3 ho4 hb4 hn4 q1 hb34
   go_wp2
   go_roundw
   case rel=>exact⟨j+1,om,by go_num,by rw[Hmap.o];exact HO4.o,HE.o,by rw[show (j+1 - 1) / 16=j / 16 from rfl,Hq.o];exact HB.o,hz4⟩
   case measure=>simp[intOf];omega
  ·have d2:((r:Int) == 0)=false:=by simpa using h0
   have d3 : ¬ (r:Int)=0:=om;rw[Hjm.o h0] at HB;have q1:=HB.o.cell r hr16;have hgd:gd (cI key nonce q) r=(cI key nonce q)[r]'hr16:=eO _ _ hr16;rw[← hgd] at q1;have hcb:gd (cI key nonce q) r=ji key nonce j:=by unfold ji;rw[Hq.o,Hr.o]
   rw[hcb] at q1;obtain⟨x,hx⟩:=eY (ji key nonce j);rw[hx] at q1;have hmap:(List.range (j+1)).map (ji key nonce)=(List.range j).map (ji key nonce) ++ [x]:=by rw[List.range_succ,List.map_append,← hx];rfl
   have Hmap:=SM hmap;clear hgd hcb hx hmap;have hl:((List.range j).map (ji key nonce)).length=j:=sm;have Hl:=SM hl;clear hl;generalize (List.range j).map (ji key nonce)=L at *
   go_upto_region 11 with fail
   have hb3:=ba (.cells #[.int .u8 (bI x)] 5) (Sy wr);have ho3:=SM (HO.o.below hb3);have hs3:=fD wr x (bI x) rfl
   go_wp2_with (at_builtin;refine bJ rfl _ _ rfl (BB+1) _ L rfl ho3.o _ _ _ [x] rfl hs3 ?c1 ?c2 ?_)
   case c1=>have:=Hl.o;simp;omega
   case c2=>simp;omega
   intro ad' c' w4 ho4 hb4 hn4;have hz4:BB+1≤w4.heap.size:=by have:=hb4.size;simp at this;omega
   have HO4:Hd (ao w4 (BB+1) (.slice ad' (L.length+1) c') (L ++ [x])):=SM (by simpa using ho4)
   rw[Hl.o] at HO4 ⊢;have hb34:Below (BB+1) wr w4:=(hb3.mono hz).trans hb4;replace HE:=SM (HE.o.below1 hb34 l1 l2 l3);replace HB:=SM (HB.o.same (hb34.block _ om));clear hb3 ho3 hs3 ho4 hb4 hn4 q1 hb34
   go_wp2
   go_roundw
   case rel=>exact⟨j+1,om,by go_num,by rw[Hmap.o];exact HO4.o,HE.o,by rw[show (j+1 - 1) / 16=j / 16 from rfl,Hq.o];exact HB.o,hz4⟩
   case measure=>simp[intOf];omega
 ·have d0 : ¬ (j:Int) < (n:Int):=om;obtain rfl:j=n:=om
  go_wp2
  go_ret
  have hA:w.heap.size≤BB+1:=by have:=HAB.o;omega
  refine⟨⟨_,rfl,?_⟩,by have:=HE.o.bel;rw[← HAB.o] at this;exact this⟩
  exact HO.o.wider hA
end
section
open Go.RowKit Go.ChangeMaps
def SG(f:Nat→UInt8)(b:List UInt8)(j:Nat):List UInt8:=b.mapIdx fun i x=>if i < j then x ^^^ f i else f i
@[simp] theorem kw(f:Nat→UInt8)(b:List UInt8)(j:Nat):(SG f b j).length=b.length:=by simp[SG]
theorem FL(f:Nat→UInt8)(b:List UInt8):(List.range b.length).map f=SG f b 0:=by
 apply List.ext_getElem
 ·simp
 ·intro i h1 h2;simp[SG]
theorem Kz(key:RW)(nonce:N8)(b:List UInt8):SG (ji key nonce) b b.length=fm key nonce b:=by
 apply List.ext_getElem
 ·simp
 ·intro i h1 h2;have:i < b.length:=by simpa using h1
  simp[SG,fm,this]
theorem OD(f:Nat→UInt8)(b:List UInt8)(j:Nat)(h:j < b.length):(SG f b j)[j]? = some (f j):=by
 rw[List.getElem?_eq_getElem (by simpa using h)]
 simp[SG]
theorem FK(f:Nat→UInt8)(b:List UInt8)(j:Nat)(h:j < b.length):(SG f b j).set j (f j ^^^ b.getD j 0)=SG f b (j+1):=by
 apply List.ext_getElem
 ·simp
 ·intro i h1 h2;have hi:i < b.length:=by simpa using h2
  by_cases e:i=j
  ·subst e;simp[SG,List.getD,hi,UInt8.xor_comm]
  ·rw[List.getElem_set_ne (Ne.symm e)];simp only[SG,List.getElem_mapIdx]
   by_cases h3:i < j
   ·rw[if_pos h3,if_pos om]
   ·rw[if_neg h3,if_neg om]
section
variable {w:World} {B g n c:Nat} {l:List UInt8}
theorem ao.cellB(h:ao w B (.slice (some ⟨g,0,none⟩) n c) l)(hl:l.length=n)(j:Nat)(hj:j < n)(a:UInt8)(ha:l[j]? = some a):w.cell? ⟨g,j,none⟩=some (B8 a):=by
 unfold ao at h;rw[hl] at h;rw[h.cellAt j om,List.getElem?_map,ha];rfl
theorem ao.freeB(h:ao w B (.slice (some ⟨g,0,none⟩) n c) l)(hl:l.length=n)(j:Nat):w.frozen? ⟨g,j,none⟩=false:=by
 unfold ao at h;rw[hl] at h;exact h.frozenAt j
theorem ao.setB(h:ao w B (.slice (some ⟨g,0,none⟩) n c) l)(hl:l.length=n)(j:Nat)(a:UInt8):ao (w.setCell ⟨g,j,none⟩ (B8 a)) B (.slice (some ⟨g,0,none⟩) n c) (l.set j a):=by
 unfold ao at h ⊢;rw[hl] at h;rw[List.length_set,hl,List.map_set];exact (h.stored j (B8 a)).1
end
theorem vy(key:RW)(nonce:N8)(ad:Option Addr)(n c:Nat)(b:List UInt8)(w:World)(hb:Bs w ad n c b)(hn:n≤1048576):
  Calls prog 101 #[.agg (fw B8 key),.agg (fw B8 nonce),.slice ad n c] w fun e w'=>(∃ v,e = .returned v∧ao w' w.heap.size v (fm key nonce b))∧Below w.heap.size w w':=by
 have hbn:b.length=n:=hb.1;have Hb:=SM hb;clear hb;obtain⟨X,hX⟩:=eY (fm key nonce b);rw[hX];rw[← Kz] at hX;have HX:=SM hX;clear hX
 go_in
 go_upto_region 1 with fail
 obtain⟨hA,hN,hbb,hs⟩:=iH w 22 107 B8 key B8 nonce;generalize (w.alloc (.cells (fw B8 key) 22)).alloc (.cells (fw B8 nonce) 107)=w1 at *;have q1:=hA.r;have q2:=hN.r
 go_wp2_with fail
 refine (s9 key nonce n w1 hn).mono ?_;rintro _ w2 ⟨⟨v,rfl,ho⟩,hb2⟩;clear q1 q2 hA hN;have HB:=SM (bt hbb hb2);have hz:w.heap.size+2≤w1.heap.size:=om;have HO:Hd (ao w2 w1.heap.size v (SG (ji key nonce) b 0)):=SM (by rw[← FL,hbn];exact ho)
 clear ho hb2 hbb hs;generalize w1.heap.size=E at *;obtain⟨ad',c',rfl⟩:=HO.o.len;rw[kw,hbn] at HO ⊢
 go_wp2
 go_loopw [8] (fun i wr=>∃ j:Nat,j≤n∧i = .int .i64 j∧ao wr E (.slice ad' n c') (SG (ji key nonce) b j)∧Below w.heap.size w wr) (fun i _=>n - (intOf i).toNat)
 case atStart=>exact⟨0,om,rfl,HO.o,HB.o⟩
 case round =>
  clear HO HB;obtain⟨j,hj,rfl,hO,hB⟩:=hrel;have HO:=SM hO;have HB:=SM hB;clear hO hB
  by_cases hjt:j < n
  ·have i1:(0:Int)≤(j:Int):=om;have d1:(j:Int) < (n:Int):=om;obtain⟨g,c2,he,_⟩:=HO.o.adr (by rw[kw,hbn];omega)
   simp only[Value.slice.injEq] at he;obtain⟨rfl,hx1,hx2⟩:=he;clear hx1 hx2;have hlen:(SG (ji key nonce) b j).length=n:=by rw[kw,hbn]
   have hat:=OD (ji key nonce) b j om;have hsc:=FK (ji key nonce) b j om;obtain⟨x,hx⟩:=eY (ji key nonce j);obtain⟨y,hy⟩:=eY (b.getD j 0);rw[hx] at hat hsc;rw[hy] at hsc;have hin:=HO.o.in g rfl;obtain⟨bb,oo,rfl,hcell⟩:=Hb.o.at j hjt;rw[hy] at hcell;have hbl:bb < w.heap.size:=by
    rcases Nat.lt_or_ge bb w.heap.size with h | h
    ·exact h
    ·simp[World.cell?,h] at hcell
   have hcl:∀ u,Below w.heap.size w u→u.cell? ⟨bb,oo+j,none⟩=some (.int .u8 (bI y)):=fun u hu=>by
    rw[hu.cell (p:=⟨bb,oo+j,none⟩) hbl];exact hcell
   have Hcl:=SM hcl;have Hlen:=SM hlen;have Hat:=SM hat;have Hsc:=SM hsc;clear hcell hcl hx hy hlen hat hsc
   go_upto_region 5 with fail
   have hdb:=(Sy wr).drew;refine yW (tk 0 12 (.brk 12 .done)) (fun u=>u=wr.drew) rfl ?_;replace HO:=SM (HO.o.below hdb);replace HB:=SM (bt HB.o hdb);clear hdb;generalize wr.drew=wr at *;have q1:=Hcl.o _ HB.o;have q2:=HO.o.cellB Hlen.o j hjt x Hat.o;have q3:=HO.o.freeB Hlen.o j;have hs1:=HO.o.setB Hlen.o j (x ^^^ y);rw[Hsc.o] at hs1;have HO2:=SM hs1;replace HB:=SM (HB.o.setCell (p:=⟨g,j,none⟩) (by show _≤g;omega) (B8 (x ^^^ y)))
   clear hs1 HO
   repeat(refine yB ?_;walk_nrm)
   refine et rfl rfl (fun K hK=>?_);go_simp;refine hK _ _ (fun _=>True) trivial (al ?_);clear q1 q2 q3;simp only[jk] at HB HO2;generalize wr.setCell ⟨g,j,none⟩ (.int .u8 (bI (x ^^^ y)))=w6 at *
   go_wp2
   go_roundw
   case rel=>exact⟨j+1,om,by go_num,HO2.o,HB.o⟩
   case measure=>simp[intOf];omega
  ·have d0 : ¬ (j:Int) < (n:Int):=om;obtain rfl:j=n:=om
   go_wp2
   go_ret
   refine⟨⟨_,rfl,?_⟩,HB.o⟩;have h:=HO.o;rw[← hbn,HX.o] at h;rw[hbn] at h;exact h.wider om
end
end Go.Proofs.YtlcfaaodmickbaaGreatDoor
