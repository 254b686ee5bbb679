/- Part 9 of the proof: texts merged and shortened by a program. No conditions. -/
import Derived.RangeFuncNested
import Derived.RangeFuncBound
import Derived.RangeFuncCalls
import Derived.RangeFuncLeaves
import Derived.RangeFuncBox
import Derived.Shelf.Abstract
import Derived.Shelf.RegionOpen
import Derived.OwnWalkIn
import Derived.TacticsInMore
import Derived.LoopNIn
import Derived.LoopIn
import Derived.OrdersIn
import Derived.Test.YtlcfaaodmickbaaGreatDoorPc05
set_option linter.unusedSimpArgs false
set_option linter.unusedVariables false
set_option maxRecDepth 100000
set_option maxHeartbeats 8000000
namespace Go.Proofs.YtlcfaaodmickbaaGreatDoor
open Go.RowKit Go.Proofs.Tryz
section
theorem KR{n:Nat}(f:Fin n→UInt8)(i:Nat)(h:i < n):gd (Vector.ofFn f) i=f ⟨i,h⟩:=by rw[eO _ _ h];simp
def FR{n:Nat}(x:Vector UInt8 n)(o m:Nat):Vector UInt8 m:=Vector.ofFn fun i=>gd x (o+i.val)
theorem Row.sub{w:World}{b n:Nat}{x:Vector UInt8 n}(h:Row B8 w b x)(o m:Nat)(ho:o+m≤n):readAt w b o m=some (fw B8 (FR x o m)):=by
 have h1:=aB h.r o m om om;rw[h1]
 congr 1
 apply Array.ext_getElem?
 intro j;rw[cO _ _ _ _ sO]
 by_cases hj:j < m
 ·rw[if_pos hj,gD _ _ _ om,gD _ _ _ hj];simp only[FR,Vector.getElem_ofFn,eO x (o+j) om]
  congr 2
 ·rw[if_neg hj];simp[fw,hj]
def lh{n m:Nat}(x:Vector UInt8 n)(o:Nat)(y:Vector UInt8 m):Vector UInt8 n:=Vector.ofFn fun i=>if o≤i.val∧i.val < o+m then gd y (i.val - o) else x[i]
theorem Row.paste{w:World}{b n m:Nat}{x:Vector UInt8 n}(h:Row B8 w b x)(o:Nat)(y:Vector UInt8 m)(ho:o+m≤n):Row B8 (setAt w b o (fw B8 y)) b (lh x o y):=by
 refine⟨?_,by rw[ap _ _ _ _ _ _ _ (aC h.k o _ sO)];exact h.k⟩
 rw[ae w b 0 n _ h.r h.k o _ om sO,Nat.sub_zero]
 congr 1
 apply Array.ext_getElem?
 intro j;rw[bU _ _ _ sO];simp only[fd]
 by_cases hj:j < n
 ·rw[gD B8 (lh x o y) j hj]
  by_cases hc:o≤j∧j < o+m
  ·rw[if_pos hc,gD _ _ _ om];simp[lh,hc,eO y (j - o) om]
  ·rw[if_neg hc,gD _ _ _ hj];simp[lh,hc]
 ·rw[if_neg om];simp[fw,hj]
@[go_sem] theorem Rn(a b c d:UInt8):(#[.int .u8 (bI a),.int .u8 (bI b),.int .u8 (bI c),.int .u8 (bI d)] : Array Value)=fw B8 (#v[a,b,c,d] : V4):=by simp[fw,jk]
def SQ(key:RW)(n:Nat):EX:=Vector.ofFn fun t=>if t.val < n then gd (rk key (t.val / 16)) (t.val % 16) else 0
theorem xF(key:RW)(n:Nat)(h:n < 176):(SQ key n).set n (gd (rk key (n / 16)) (n % 16))=SQ key (n+1):=by
 apply Vector.ext;intro i hi
 by_cases e:i=n
 ·subst e;simp[SQ]
 ·rw[Vector.getElem_set_ne _ _ (Ne.symm e)];simp only[SQ,Vector.getElem_ofFn]
  by_cases h1:i < n
  ·rw[if_pos h1,if_pos om]
  ·rw[if_neg h1,if_neg om]
theorem CJ(key:RW):lh iW 0 key=SQ key 16:=by
 apply Vector.ext;intro i hi
 simp only[lh,SQ,Vector.getElem_ofFn]
 by_cases h:i < 16
 ·rw[if_pos om,if_pos h,show i / 16=0 by omega,show i % 16=i by omega,Nat.sub_zero];rfl
 ·rw[if_neg om,if_neg h];simp[iW]
theorem qh(key:RW)(n i:Nat)(h:i * 16+16≤n)(hn:n≤176):FR (SQ key n) (i * 16) 16=rk key i:=by
 apply Vector.ext;intro j hj
 simp only[FR,Vector.getElem_ofFn];rw[eO _ _ om];simp only[SQ,Vector.getElem_ofFn];rw[if_pos om,show (i * 16+j) / 16=i by omega,show (i * 16+j) % 16=j by omega,eO _ _ hj]
def yS(b:RW)(p:UInt8)(j:Nat):V4:=Vector.ofFn fun r=>S7 b p r.val ((j+3 - r.val) / 4)
theorem BV(b:RW)(p:UInt8):(#v[sb b[13] ^^^ p,sb b[14],sb b[15],sb b[12]] : V4)=yS b p 0:=by
 apply Vector.ext;intro i hi
 simp only[yS,Vector.getElem_ofFn];rw[show (0+3 - i) / 4=0 by omega]
 obtain rfl | rfl | rfl | rfl:i=0∨i=1∨i=2∨i=3:=om
 all_goals simp[S7,gd,Array.getD]
theorem Kx(b:RW)(p:UInt8)(j:Nat)(hr:j % 4 < 4):(yS b p j)[j % 4]=S7 b p (j % 4) (j / 4):=by
 simp only[yS,Vector.getElem_ofFn];rw[show (j+3 - j % 4) / 4=j / 4 by omega]
theorem BU(b:RW)(p:UInt8)(j:Nat)(hj:j < 16)(hr:j % 4 < 4):(yS b p j).set (j % 4) (S7 b p (j % 4) (j / 4) ^^^ b[j])=yS b p (j+1):=by
 apply Vector.ext;intro i hi
 by_cases e:i=j % 4
 ·subst e;simp only[Vector.getElem_set_self,yS,Vector.getElem_ofFn];rw[show (j+1+3 - j % 4) / 4=j / 4+1 by omega,S7,show 4 * (j / 4)+j % 4=j by omega,eO _ _ hj]
 ·rw[Vector.getElem_set_ne _ _ (Ne.symm e)];simp only[yS,Vector.getElem_ofFn];rw[show (j+1+3 - i) / 4=(j+3 - i) / 4 by omega]
theorem FJ(key:RW)(i j:Nat)(hj:j < 16)(hr:j % 4 < 4):(yS (rk key i) (mO key i).2 (j+1))[j % 4]=gd (rk key (((i+1) * 16+j) / 16)) (((i+1) * 16+j) % 16):=by
 rw[show ((i+1) * 16+j) / 16=i+1 by omega,show ((i+1) * 16+j) % 16=j by omega,eO _ _ hj]
 show _=(mW (mO key i).1 (mO key i).2)[j]
 simp only[yS,mW,Vector.getElem_ofFn];rw[show (j+1+3 - j % 4) / 4=j / 4+1 by omega];rfl
theorem Gr(key:RW)(w:World):Calls prog 237 #[.agg (fw B8 key)] w fun e w'=>e = .returned (.agg (fw B8 (SQ key 176)))∧Below w.heap.size w w':=by
 go_in
 go_upto_region 2 with fail
 obtain⟨hA,hR,hK,hb,hs⟩:=mT w 22 333 333 B8 key B8 iW B8 iW;generalize ((w.alloc (.cells (fw B8 key) 22)).alloc (.cells (fw B8 iW) 333)).alloc (.cells (fw B8 iW) 333)=w2 at *;have q1:=hA.r;have q2:=aC hK.k 0 16 om
 go_wp2_with fail
 clear q1 q2 hA;have hK2:=hK.paste 0 key om;rw[CJ] at hK2;have hR2:=hR.apart (w.heap.size+1+1) 0 (fw B8 key) om;have hb2:=aa hb (b:=w.heap.size+1+1) om 0 (fw B8 key);clear hK hR hb;generalize setAt w2 (w.heap.size+1+1) 0 (fw B8 key)=w3 at *;generalize hKB:w.heap.size+1+1=KB at *;generalize hRB:w.heap.size+1=RB at *
 go_loopw [4,5] (fun p i wr=>∃ k:Nat,k≤10∧i = .int .i64 ((k:Int)+1)∧p = .int .u8 (bI (mO key k).2)∧Row B8 wr KB (SQ key ((k+1) * 16))∧Row B8 wr RB iW∧Below w.heap.size w wr) (fun _ i _=>11 - (intOf i).toNat)
 case atStart=>exact⟨0,om,rfl,rfl,hK2,hR2,hb2⟩
 case round =>
  clear hK2 hR2 hb2;obtain⟨k,hk,rfl,rfl,hK,hR,hb⟩:=hrel;have HK:=SM hK;have HR:=SM hR;have Hb:=SM hb;clear hK hR hb
  by_cases hlt:k < 10
  ·have hw1:IntKind.i64.wrap (k:Int)=k:=wi;have q1:=HK.o.sub (k * 16) 16 om;rw[qh key _ k om om] at q1;have i1:(0:Int)≤(k:Int):=om;have i2:(k:Int) < 11:=om
   go_upto_region 8 with fail
   clear q1;have l1:w.heap.size < RB:=om;have l2:RB < KB:=om;have l3:KB < wr.heap.size:=HK.o.lt;obtain⟨hB,hb4,hs4⟩:=dU wr 22 B8 (rk key k);generalize wr.alloc (.cells (fw B8 (rk key k)) 22)=w4 at *;have HB:=SM hB;replace HK:=SM (HK.o.below hb4);replace HR:=SM (HR.o.below hb4);replace Hb:=SM (bt Hb.o hb4);clear hB hb4;generalize wr.heap.size=BB at *;refine yW (tk 0 2 (.take 3 (tk 5 2 (tk 8 2 (tk 11 2 (.call 2 (.take 4 (.call 7 (.call 10 (.call 13 (.take 14 (.run 15 (.run 16 .done))))))))))))) (fun u=>Row B8 u BB (rk key k)) HB.o.drew ?_
   replace HB:=SM HB.o.drew;replace HK:=SM HK.o.drew;replace HR:=SM HR.o.drew;replace Hb:=SM Hb.o.drew;generalize w4.drew=w4 at *
   repeat((first|refine yO ?_|refine yM ?_|refine yF rfl rfl (fun w' hC'=>by have c12:=hC'.cell 12 dc;have c13:=hC'.cell 13 dc;have c14:=hC'.cell 14 dc;have c15:=hC'.cell 15 dc;go_simp;first|done|exact rfl) ?_);walk_nrm)
   refine nK rfl rfl ?_;apply Exists.intro;apply Exists.intro;apply Exists.intro;refine⟨fun w' hC'=>?_,fun w' hC'=>?_,?_⟩;(skip;go_simp;exact⟨rfl,rfl⟩);(skip;exact eR (jG _ _));walk_nrm
   repeat((first|refine yO ?_|refine yM ?_|refine yF rfl rfl (fun w' hC'=>by have c12:=hC'.cell 12 dc;have c13:=hC'.cell 13 dc;have c14:=hC'.cell 14 dc;have c15:=hC'.cell 15 dc;go_simp;first|done|exact rfl) ?_);walk_nrm)
   refine nK rfl rfl ?_;apply Exists.intro;apply Exists.intro;apply Exists.intro;refine⟨fun w' hC'=>?_,fun w' hC'=>?_,?_⟩;(skip;go_simp;exact⟨rfl,rfl⟩);(skip;exact eR (jG _ _));walk_nrm;refine nK rfl rfl ?_;apply Exists.intro;apply Exists.intro;apply Exists.intro;refine⟨fun w' hC'=>?_,fun w' hC'=>?_,?_⟩;(skip;go_simp;exact⟨rfl,rfl⟩);(skip;exact eR (jG _ _));walk_nrm;refine nK rfl rfl ?_;apply Exists.intro;apply Exists.intro;apply Exists.intro;refine⟨fun w' hC'=>?_,fun w' hC'=>?_,?_⟩;(skip;go_simp;exact⟨rfl,rfl⟩);(skip;exact eR (jG _ _));walk_nrm
   repeat((first|refine yO ?_|refine yM ?_|refine yF rfl rfl (fun w' hC'=>by have c12:=hC'.cell 12 dc;have c13:=hC'.cell 13 dc;have c14:=hC'.cell 14 dc;have c15:=hC'.cell 15 dc;go_simp;first|done|exact rfl) ?_);walk_nrm)
   refine fJ rfl rfl ?_;apply Exists.intro;apply Exists.intro;refine⟨?_,?_⟩;(go_simp;exact⟨rfl,rfl⟩);refine kC (HB.o.below (ba _ (Below.refl _ _))) ?_;walk_nrm;refine tb rfl rfl ?_;apply Exists.intro;refine⟨?_,?_⟩;(go_simp;exact rfl);refine kC (HB.o.below (ba _ (Below.refl _ _))) ?_;walk_nrm;refine al ?_;rw[BV];generalize hp:(mO key k).2=p at *;generalize hb0:rk key k=b at *;obtain⟨hC,hb5,hs5⟩:=dU w4 343 B8 (yS b p 0)
   have l4:BB < w4.heap.size:=HB.o.lt;generalize w4.alloc (.cells (fw B8 (yS b p 0)) 343)=w5 at *;have HC:=SM hC;replace HB:=SM (HB.o.below hb5);replace HK:=SM (HK.o.below hb5);replace HR:=SM (HR.o.below hb5);replace Hb:=SM (bt Hb.o hb5);clear hC hb5;generalize w4.heap.size=CB at *
   go_wp2_with fail
   rw[show decide ((k:Int)+1 < 11)=true from dt]
   go_loopw [34] (fun j wr=>∃ j':Nat,j'≤16∧j = .int .i64 j'∧Row B8 wr CB (yS b p j')∧Row B8 wr KB (SQ key ((k+1) * 16+j'))∧Row B8 wr BB b∧Row B8 wr RB iW∧Below w.heap.size w wr) (fun j _=>16 - (intOf j).toNat)
   case atStart=>exact⟨0,om,rfl,HC.o,HK.o,HB.o,HR.o,Hb.o⟩
   case round =>
    clear HC HK HB HR Hb;obtain⟨j,hj,rfl,hC,hK,hB,hR,hb⟩:=hrel;have HC:=SM hC;have HK:=SM hK;have HB:=SM hB;have HR:=SM hR;have Hb:=SM hb;clear hC hK hB hR hb
    by_cases hjt:j < 16
    ·have i3:(0:Int)≤(j:Int):=om;have i4:(j:Int) < 16:=om;have hr4:j % 4 < 4:=Nat.mod_lt _ dc;have e4:(j:Int).tmod 4=(j:Int) % 4:=Int.tmod_eq_emod_of_nonneg i3;have i5:(0:Int)≤(j:Int) % 4:=om;have i6:(j:Int) % 4 < 4:=om;have i7:((j:Int) % 4).toNat=j % 4:=om
     go_upto_region 12 with fail
     refine yW (tk 0 9 (.brk 9 .done)) (fun u=>u=wr.drew) rfl ?_;replace HC:=SM HC.o.drew;replace HK:=SM HK.o.drew;replace HB:=SM HB.o.drew;replace HR:=SM HR.o.drew;replace Hb:=SM Hb.o.drew;generalize wr.drew=wr at *;have q1:=HC.o.cell (j % 4) hr4;rw[Kx b p j hr4] at q1;have q2:=HB.o.cell j hjt;have q3:=HC.o.free (j % 4);have hs6:=HC.o.set (j % 4) hr4 (S7 b p (j % 4) (j / 4) ^^^ b[j]);rw[BU b p j hjt hr4] at hs6
     have Hs:=SM hs6;replace HK:=SM (HK.o.other ⟨CB,j % 4,none⟩ (B8 (S7 b p (j % 4) (j / 4) ^^^ b[j])) (by show CB≠_;omega))
     replace HB:=SM (HB.o.other ⟨CB,j % 4,none⟩ (B8 (S7 b p (j % 4) (j / 4) ^^^ b[j])) (by show CB≠_;omega))
     replace HR:=SM (HR.o.other ⟨CB,j % 4,none⟩ (B8 (S7 b p (j % 4) (j / 4) ^^^ b[j])) (by show CB≠_;omega))
     replace Hb:=SM (Hb.o.setCell (p:=⟨CB,j % 4,none⟩) (by show _≤CB;omega) (B8 (S7 b p (j % 4) (j / 4) ^^^ b[j])))
     clear hs6 HC
     repeat(refine yB ?_;walk_nrm)
     refine et rfl rfl (fun K hK=>?_);go_simp;refine hK _ _ (fun _=>True) trivial (al ?_);simp only[jk] at Hs HK HB HR Hb;clear q1 q2 q3;generalize wr.setCell ⟨CB,j % 4,none⟩ (.int .u8 (bI (S7 b p (j % 4) (j / 4) ^^^ b[j])))=wr at *
     go_upto_region 13 with fail
     refine yW (tk 0 8 (.brk 8 .done)) (fun u=>u=wr.drew) rfl ?_;replace Hs:=SM Hs.o.drew;replace HK:=SM HK.o.drew;replace HB:=SM HB.o.drew;replace HR:=SM HR.o.drew;replace Hb:=SM Hb.o.drew;generalize wr.drew=wr at *;have q1:=Hs.o.cell (j % 4) hr4;have ho:=FJ key k j hjt hr4;rw[hp,hb0] at ho;rw[ho] at q1;have q3:=HK.o.free ((k+1) * 16+j);have q2:=HK.o.cell ((k+1) * 16+j) om;have hs6:=HK.o.set ((k+1) * 16+j) om (gd (rk key (((k+1) * 16+j) / 16)) (((k+1) * 16+j) % 16))
     rw[xF key _ om] at hs6;clear ho;generalize gd (rk key (((k+1) * 16+j) / 16)) (((k+1) * 16+j) % 16)=v at *;have HK2:=SM hs6;replace Hs:=SM (Hs.o.other ⟨KB,(k+1) * 16+j,none⟩ (B8 v) (by show KB≠_;omega))
     replace HB:=SM (HB.o.other ⟨KB,(k+1) * 16+j,none⟩ (B8 v) (by show KB≠_;omega))
     replace HR:=SM (HR.o.other ⟨KB,(k+1) * 16+j,none⟩ (B8 v) (by show KB≠_;omega))
     replace Hb:=SM (Hb.o.setCell (p:=⟨KB,(k+1) * 16+j,none⟩) (by show _≤KB;omega) (B8 v))
     clear hs6 HK
     repeat(refine yB ?_;walk_nrm)
     refine et rfl rfl (fun K hK=>?_);go_simp;refine hK _ _ (fun _=>True) trivial (al ?_);simp only[jk] at Hs HK2 HB HR Hb;clear q1 q2 q3;generalize wr.setCell ⟨KB,(k+1) * 16+j,none⟩ (.int .u8 (bI v))=wr at *
     go_wp2
     go_roundw
     case rel=>exact⟨j+1,om,by go_num,Hs.o,HK2.o,HB.o,HR.o,Hb.o⟩
     case measure=>simp only[intOf];omega
    ·obtain rfl:j=16:=om;have hb7:=ba (.cells #[.int .u8 2] 5) (Sy wr);have HK7:Hd (Row B8 (wr.alloc (.cells #[.int .u8 2] 5)) KB (SQ key ((k+1+1) * 16))):=by
      have h:=HK.o.below hb7;rw[show (k+1) * 16+16=(k+1+1) * 16 by omega] at h;exact h
     replace HR:=SM (HR.o.below hb7);replace Hb:=SM (bt Hb.o hb7);clear hb7 HK HC HB
     go_upto_region 15 with fail
     go_wp2_with fail
     refine (mul_one p 2 wr.heap.size _ (by simp[go_sem];rfl)).mono ?_
     rintro _ w6 ⟨rfl,rfl⟩;rw[Q8]
     go_wp2
     go_roundw
     case rel=>exact⟨k+1,om,by go_num,by rw[mO,hp],HK7.o,HR.o,Hb.o⟩
     case measure=>simp only[intOf];omega
  ·obtain rfl:k=10:=om;have q1:=HK.o.r;have q2:=HR.o.k
   go_wp2
   refine bodyPost_ret (ln rfl _ _ RB 0 (fw B8 (SQ key 176)) rfl (HR.o.all (SQ key 176)).r) rfl ⟨rfl,aa Hb.o om _ _⟩
end
section
def uJ(blk:RW)(c r:Nat):V4:=Vector.ofFn fun i=>gd blk ((r+i.val) % 4+4 * c)
def jh(blk:RW)(c r k:Nat):V4:=Vector.ofFn fun i=>if i.val < k then gd blk ((r+i.val) % 4+4 * c) else 0
theorem uL(blk:RW)(c r:Nat):jh blk c r 0=Ts:=by apply Vector.ext;intro i hi;simp[jh,Ts]
theorem yQ(blk:RW)(c r:Nat):jh blk c r 4=uJ blk c r:=by apply Vector.ext;intro i hi;simp[jh,uJ,hi]
theorem uK(blk:RW)(c r k:Nat)(hk:k < 4):(jh blk c r k).set k (gd blk ((r+k) % 4+4 * c))=jh blk c r (k+1):=by
 apply Vector.ext;intro i hi
 by_cases e:i=k
 ·subst e;simp[jh]
 ·rw[Vector.getElem_set_ne _ _ (Ne.symm e)];simp only[jh,Vector.getElem_ofFn]
  by_cases h1:i < k
  ·rw[if_pos h1,if_pos om]
  ·rw[if_neg h1,if_neg om]
def Jm(blk:RW)(nums:V4)(i:Nat):UInt8:=KH nums (uJ blk (i / 4) (i % 4)) 4
def qF(blk:RW)(nums:V4)(n:Nat):RW:=Vector.ofFn fun i=>if i.val < n then Jm blk nums i.val else 0
theorem C0(blk:RW)(nums:V4):qF blk nums 0=dq:=by apply Vector.ext;intro i hi;simp[qF,dq]
theorem CZ(blk:RW)(nums:V4)(n:Nat)(hn:n < 16):(qF blk nums n).set n (Jm blk nums n)=qF blk nums (n+1):=by
 apply Vector.ext;intro i hi
 by_cases e:i=n
 ·subst e;simp[qF]
 ·rw[Vector.getElem_set_ne _ _ (Ne.symm e)];simp only[qF,Vector.getElem_ofFn]
  by_cases h1:i < n
  ·rw[if_pos h1,if_pos om]
  ·rw[if_neg h1,if_neg om]
theorem Ld(blk:RW)(nums:V4)(c r:Nat)(hr:r < 4):Jm blk nums (r+4 * c)=KH nums (uJ blk c r) 4:=by
 unfold Jm;rw[show (r+4 * c) / 4=c by omega,show (r+4 * c) % 4=r by omega]
theorem GE(blk:RW):qF blk #v[2,3,1,1] 16=EZ blk:=by
 apply Vector.ext;intro i hi
 simp only[qF,EZ,Vector.getElem_ofFn,hi,if_true];unfold Jm OX;simp only[KH];have e:∀ j,j < 4→gd (uJ blk (i / 4) (i % 4)) j=gd blk ((i % 4+j) % 4+4 * (i / 4)):=fun j hj=>by unfold uJ;rw[KR _ _ hj]
 rw[e 0 dc,e 1 dc,e 2 dc,e 3 dc,show gd (#v[2,3,1,1] : V4) 0=2 from rfl,show gd (#v[2,3,1,1] : V4) 1=3 from rfl,show gd (#v[2,3,1,1] : V4) 2=1 from rfl,show gd (#v[2,3,1,1] : V4) 3=1 from rfl,Q8,Rt,Q7,Q7,show (i % 4+0) % 4=i % 4 by omega]
 simp
theorem Kb.cellN{X:Nat→Prop}{a b:World}(h:Kb X a b)(p:Addr)(v:Value)(hz:X p.block∨a.heap.size≤p.block):Kb X a (b.setCell p v) :=
 h.trans ((Kb.refl (fun g=>g=p.block) b).cell1 p v rfl) (fun i hi=>by subst hi;exact hz)
theorem GD(c:Nat)(hc:c < 4)(A N M:Nat)(blk:RW)(nums:V4)(w:World)(hA:Row B8 w A blk)(hN:Row B8 w N nums)(hM:Row B8 w M (qF blk nums (4 * c)))(hAM:A≠M)(hNM:N≠M):
  Calls prog 244 #[.int .i64 (c:Int),.pointer (some ⟨A,0,none⟩),.pointer (some ⟨N,0,none⟩),.pointer (some ⟨M,0,none⟩)] w fun e w'=>e = .returned (.tuple #[])∧Row B8 w' M (qF blk nums (4 * c+4))∧Kb (fun g=>g=M) w w':=by
 go_in
 go_wp2
 go_loopw [8] (fun r wr=>∃ r':Nat,r'≤4∧r = .int .i64 r'∧Row B8 wr M (qF blk nums (4 * c+r'))∧Kb (fun g=>g=M) w wr) (fun r _=>4 - (intOf r).toNat)
 case atStart=>exact⟨0,om,rfl,hM,Kb.refl _ _⟩
 case round =>
  obtain⟨r,hr,rfl,hm,hk⟩:=hrel;have HM:=SM hm;have Hk:=SM hk;have HA:=SM (hA.same (hk.block A hA.lt hAM));have HN:=SM (hN.same (hk.block N hN.lt hNM));clear hm hk
  by_cases hlt:r < 4
  ·have i1:(0:Int)≤(r:Int):=om;have i2:(r:Int) < 4:=om
   go_upto_region 4 with fail
   obtain⟨hC,hb2,hs2⟩:=dU wr 343 B8 Ts;generalize wr.alloc (.cells (fw B8 Ts) 343)=w2 at *;have hCl:w.heap.size≤wr.heap.size:=Hk.o.size;have hMl:M < wr.heap.size:=HM.o.lt;have hAl:A < wr.heap.size:=HA.o.lt;have hNl:N < wr.heap.size:=HN.o.lt;have HC:Hd (Row B8 w2 wr.heap.size (jh blk c r 0)):=by show Row B8 _ _ _;rw[uL];exact hC
   replace HM:=SM (HM.o.below hb2);replace HA:=SM (HA.o.below hb2);replace HN:=SM (HN.o.below hb2);replace Hk:=SM (Hk.o.trans (Kb.of_below (X:=fun g=>g=M) hb2) (fun i hi=>.inl hi));clear hC hb2;generalize wr.heap.size=C at *
   go_wp2
   go_loopw [11] (fun j wr=>∃ k:Nat,k≤4∧j = .int .i64 k∧Row B8 wr C (jh blk c r k)∧Row B8 wr M (qF blk nums (4 * c+r))∧Row B8 wr A blk∧Row B8 wr N nums∧Kb (fun g=>g=M) w wr) (fun j _=>4 - (intOf j).toNat)
   case atStart=>exact⟨0,om,rfl,HC.o,HM.o,HA.o,HN.o,Hk.o⟩
   case round =>
    clear HC HM HA HN Hk;obtain⟨k,hkk,rfl,hC,hM,hA,hN,hk⟩:=hrel;have HC:=SM hC;have HM:=SM hM;have HA:=SM hA;have HN:=SM hN;have Hk:=SM hk;clear hC hM hA hN hk
    by_cases hkt:k < 4
    ·have j1:(0:Int)≤(k:Int):=om;have j2:(k:Int) < 4:=om;have w1:IntKind.i64.wrap ((r:Int)+(k:Int))=(r:Int)+(k:Int):=wi;have w2:((r:Int)+(k:Int)).tmod 4=((r:Int)+(k:Int)) % 4:=Int.tmod_eq_emod_of_nonneg om;have w3:IntKind.i64.wrap (4 * (c:Int))=4 * (c:Int):=wi;have w4:IntKind.i64.wrap (((r:Int)+(k:Int)) % 4+4 * (c:Int))=((r:Int)+(k:Int)) % 4+4 * (c:Int):=wi;have w5:0≤((r:Int)+(k:Int)) % 4+4 * (c:Int):=om
     have w6:((r:Int)+(k:Int)) % 4+4 * (c:Int) < 16:=om;have w7:(((r:Int)+(k:Int)) % 4+4 * (c:Int)).toNat=(r+k) % 4+4 * c:=om;have q1:=HA.o.cell ((r+k) % 4+4 * c) om;rw[← eO blk _ om] at q1;have q2:=HC.o.cell k hkt;have q3:=HC.o.free k;have hs6:=HC.o.set k hkt (gd blk ((r+k) % 4+4 * c));rw[uK blk c r k hkt] at hs6;generalize gd blk ((r+k) % 4+4 * c)=v at *;replace HM:=SM (HM.o.other ⟨C,k,none⟩ (B8 v) (by show C≠_;omega))
     replace HA:=SM (HA.o.other ⟨C,k,none⟩ (B8 v) (by show C≠_;omega))
     replace HN:=SM (HN.o.other ⟨C,k,none⟩ (B8 v) (by show C≠_;omega))
     replace Hk:=SM (Hk.o.cellN ⟨C,k,none⟩ (B8 v) (.inr (by show _≤C;omega)))
     replace HC:=SM hs6;clear hs6
     go_wp2
     go_roundw
     case rel=>exact⟨k+1,om,by go_num,HC.o,HM.o,HA.o,HN.o,Hk.o⟩
     case measure=>simp only[intOf];omega
    ·obtain rfl:k=4:=om;rw[yQ] at HC;have w3:IntKind.i64.wrap (4 * (c:Int))=4 * (c:Int):=wi;have w4:IntKind.i64.wrap ((r:Int)+4 * (c:Int))=(r:Int)+4 * (c:Int):=wi;have w5:0≤(r:Int)+4 * (c:Int):=om;have w6:(r:Int)+4 * (c:Int) < 16:=om;have w7:((r:Int)+4 * (c:Int)).toNat=r+4 * c:=om;have q1:=HC.o.r;have q2:=HN.o.r
     go_wp2_with fail
     refine (KI nums (uJ blk c r) wr).mono ?_;rintro _ w3 ⟨rfl,hb3⟩;rw[← Ld blk nums c r hlt];clear q1 q2;replace HM:=SM (HM.o.below hb3);replace Hk:=SM (Hk.o.trans (Kb.of_below (X:=fun g=>g=M) hb3) (fun i hi=>.inl hi));have q1:=HM.o.cell (r+4 * c) om;have q3:=HM.o.free (r+4 * c);have hs6:=HM.o.set (r+4 * c) om (Jm blk nums (r+4 * c));have e6:(qF blk nums (4 * c+r)).set (r+4 * c) (Jm blk nums (r+4 * c))=qF blk nums (4 * c+(r+1)):=by
      have:=CZ blk nums (4 * c+r) om;simp only[show r+4 * c=4 * c+r by omega]
      exact this
     rw[e6] at hs6;generalize Jm blk nums (r+4 * c)=v at *;replace Hk:=SM (Hk.o.cellN ⟨M,r+4 * c,none⟩ (B8 v) (.inl rfl));replace HM:=SM hs6;clear hs6
     go_wp2
     go_roundw
     case rel=>exact⟨r+1,om,by go_num,HM.o,Hk.o⟩
     case measure=>simp only[intOf];omega
  ·obtain rfl:r=4:=om
   go_wp2
   go_end0
   exact⟨rfl,HM.o,Hk.o⟩
end
section
theorem Le(blk:RW)(nums:V4)(w:World):Calls prog 242 #[.agg (fw B8 blk),.agg (fw B8 nums)] w fun e w'=>e = .returned (.agg (fw B8 (qF blk nums 16)))∧Below w.heap.size w w':=by
 go_in
 go_upto_region 1 with fail
 obtain⟨hA,hN,hR,hb,hs⟩:=mT w 22 343 22 B8 blk B8 nums B8 dq;generalize ((w.alloc (.cells (fw B8 blk) 22)).alloc (.cells (fw B8 nums) 343)).alloc (.cells (fw B8 dq) 22)=w2 at *;have HA:=SM hA;have HN:=SM hN;have HR:=SM hR;have Hb:=SM hb;have Hs:=SM hs;clear hA hN hR hb hs
 go_upto_region 2 with fail
 obtain⟨hM,hb2,hs2⟩:=dU w2 22 B8 dq;generalize w2.alloc (.cells (fw B8 dq) 22)=w3 at *;have HM:Hd (Row B8 w3 w2.heap.size (qF blk nums (4 * 0))):=by show Row B8 _ _ _;rw[C0];exact hM
 replace HA:=SM (HA.o.below hb2);replace HN:=SM (HN.o.below hb2);replace HR:=SM (HR.o.below hb2);replace Hb:=SM (bt Hb.o hb2);clear hM hb2;generalize w2.heap.size=M at *;have lM:w.heap.size+3=M:=Hs.o.symm;clear Hs
 go_wp2
 go_loopw [9] (fun i wr=>∃ k:Nat,k≤4∧i = .int .i64 k∧Row B8 wr w.heap.size blk∧Row B8 wr (w.heap.size+1) nums∧Row B8 wr (w.heap.size+1+1) dq∧Row B8 wr M (qF blk nums (4 * k))∧Below w.heap.size w wr) (fun i _=>4 - (intOf i).toNat)
 case atStart=>exact⟨0,om,rfl,HA.o,HN.o,HR.o,HM.o,Hb.o⟩
 case round =>
  clear HA HN HR HM Hb;obtain⟨k,hk,rfl,hA,hN,hR,hM,hb⟩:=hrel;have HA:=SM hA;have HN:=SM hN;have HR:=SM hR;have HM:=SM hM;have Hb:=SM hb;clear hA hN hR hM hb
  by_cases hlt:k < 4
  ·go_wp2_with fail
   refine (GD k hlt w.heap.size (w.heap.size+1) M blk nums wr HA.o HN.o HM.o om om).mono ?_;rintro _ w4 ⟨rfl,hM4,hk4⟩;replace HA:=SM (HA.o.same (hk4.block _ HA.o.lt om));replace HN:=SM (HN.o.same (hk4.block _ HN.o.lt om));replace HR:=SM (HR.o.same (hk4.block _ HR.o.lt om));replace Hb:=SM (Hb.o.trans (hk4.below (fun g hg=>om) Hb.o.size));replace HM:=SM hM4;clear hM4 hk4
   go_wp2
   go_roundw
   case rel=>exact⟨k+1,om,by go_num,HA.o,HN.o,HR.o,HM.o,Hb.o⟩
   case measure=>simp only[intOf];omega
  ·obtain rfl:k=4:=om;have q1:=HM.o.r;have q2:=HR.o.k
   go_wp2
   refine bodyPost_ret (cq rfl _ _ (w.heap.size+1+1) 0 (fw B8 (qF blk nums 16)) rfl (HR.o.all (qF blk nums 16)).r) rfl ⟨rfl,aa Hb.o om _ _⟩
def fZ(b:RW)(r c:Nat):RW:=Vector.ofFn fun i=>if i.val % 4 < r∨(i.val % 4=r∧i.val / 4 < c) then sb (gd b (i.val % 4+4 * ((i.val / 4+i.val % 4) % 4))) else 0
theorem vR(b:RW):fZ b 0 0=dq:=by apply Vector.ext;intro i hi;simp[fZ,dq]
theorem Af(b:RW):fZ b 4 0=cz b:=by
 apply Vector.ext;intro i hi
 simp only[fZ,cz,Vector.getElem_ofFn];rw[if_pos (.inl (Nat.mod_lt _ dc))]
theorem Ah(b:RW)(r:Nat):fZ b r 4=fZ b (r+1) 0:=by
 apply Vector.ext;intro i hi
 simp only[fZ,Vector.getElem_ofFn]
 by_cases h:i % 4 < r∨(i % 4=r∧i / 4 < 4)
 ·rw[if_pos h,if_pos om]
 ·rw[if_neg h,if_neg om]
theorem vQ(b:RW)(r c:Nat)(hr:r < 4)(hc:c < 4)(h:r+4 * c < 16):(fZ b r c).set (r+4 * c) (sb (gd b (r+4 * ((c+r) % 4))))=fZ b r (c+1):=by
 apply Vector.ext;intro i hi
 by_cases e:i=r+4 * c
 ·subst e;simp only[Vector.getElem_set_self,fZ,Vector.getElem_ofFn];rw[if_pos om,show (r+4 * c) % 4=r by omega,show (r+4 * c) / 4=c by omega]
 ·rw[Vector.getElem_set_ne _ _ (Ne.symm e)];simp only[fZ,Vector.getElem_ofFn]
  by_cases h1:i % 4 < r∨(i % 4=r∧i / 4 < c)
  ·rw[if_pos h1,if_pos om]
  ·rw[if_neg h1,if_neg om]
theorem yu(blk key:RW)(last:Bool)(w:World):Calls prog 239 #[.agg (fw B8 blk),.agg (fw B8 key),.bool last] w fun e w'=>e = .returned (.agg (fw B8 (fN blk key last)))∧Below w.heap.size w w':=by
 go_in
 go_upto_region 1 with fail
 obtain⟨hA,hN,hR,hb,hs⟩:=mT w 22 22 22 B8 blk B8 key B8 dq;generalize ((w.alloc (.cells (fw B8 blk) 22)).alloc (.cells (fw B8 key) 22)).alloc (.cells (fw B8 dq) 22)=w2 at *;have HA:=SM hA;have HN:=SM hN;have HR:=SM hR;have Hb:=SM hb;have Hs:=SM hs;clear hA hN hR hb hs
 go_upto_region 2 with fail
 obtain⟨hM,hb2,hs2⟩:=dU w2 22 B8 dq;generalize w2.alloc (.cells (fw B8 dq) 22)=w3 at *;have HM:Hd (Row B8 w3 w2.heap.size (fZ blk 0 0)):=by show Row B8 _ _ _;rw[vR];exact hM
 replace HA:=SM (HA.o.below hb2);replace HN:=SM (HN.o.below hb2);replace HR:=SM (HR.o.below hb2);replace Hb:=SM (bt Hb.o hb2);clear hM hb2;generalize w2.heap.size=M at *;have lM:w.heap.size+3=M:=Hs.o.symm;clear Hs
 go_wp2
 go_loopw [10] (fun i wr=>∃ r:Nat,r≤4∧i = .int .i64 r∧Row B8 wr w.heap.size blk∧Row B8 wr (w.heap.size+1) key∧Row B8 wr (w.heap.size+1+1) dq∧Row B8 wr M (fZ blk r 0)∧Below w.heap.size w wr) (fun i _=>4 - (intOf i).toNat)
 case atStart=>exact⟨0,om,rfl,HA.o,HN.o,HR.o,HM.o,Hb.o⟩
 case round =>
  clear HA HN HR HM Hb;obtain⟨r,hr,rfl,hA,hN,hR,hM,hb⟩:=hrel;have HA:=SM hA;have HN:=SM hN;have HR:=SM hR;have HM:=SM hM;have Hb:=SM hb;clear hA hN hR hM hb
  by_cases hlt:r < 4
  ·have i1:(0:Int)≤(r:Int):=om;have i2:(r:Int) < 4:=om
   go_wp2
   go_loopw [13] (fun i wr=>∃ c:Nat,c≤4∧i = .int .i64 c∧Row B8 wr w.heap.size blk∧Row B8 wr (w.heap.size+1) key∧Row B8 wr (w.heap.size+1+1) dq∧Row B8 wr M (fZ blk r c)∧Below w.heap.size w wr) (fun i _=>4 - (intOf i).toNat)
   case atStart=>exact⟨0,om,rfl,HA.o,HN.o,HR.o,HM.o,Hb.o⟩
   case round =>
    clear HA HN HR HM Hb;obtain⟨c,hc,rfl,hA,hN,hR,hM,hb⟩:=hrel;have HA:=SM hA;have HN:=SM hN;have HR:=SM hR;have HM:=SM hM;have Hb:=SM hb;clear hA hN hR hM hb
    by_cases hct:c < 4
    ·have j1:(0:Int)≤(c:Int):=om;have j2:(c:Int) < 4:=om;have w1:IntKind.i64.wrap ((c:Int)+(r:Int))=(c:Int)+(r:Int):=wi;have w2:((c:Int)+(r:Int)).tmod 4=((c:Int)+(r:Int)) % 4:=Int.tmod_eq_emod_of_nonneg om;have w3:IntKind.i64.wrap (4 * (((c:Int)+(r:Int)) % 4))=4 * (((c:Int)+(r:Int)) % 4):=wi;have w4:IntKind.i64.wrap ((r:Int)+4 * (((c:Int)+(r:Int)) % 4))=(r:Int)+4 * (((c:Int)+(r:Int)) % 4):=wi;have w5:0≤(r:Int)+4 * (((c:Int)+(r:Int)) % 4):=om
     have w6:(r:Int)+4 * (((c:Int)+(r:Int)) % 4) < 16:=om;have w7:((r:Int)+4 * (((c:Int)+(r:Int)) % 4)).toNat=r+4 * ((c+r) % 4):=om;have x3:IntKind.i64.wrap (4 * (c:Int))=4 * (c:Int):=wi;have x4:IntKind.i64.wrap ((r:Int)+4 * (c:Int))=(r:Int)+4 * (c:Int):=wi;have x5:0≤(r:Int)+4 * (c:Int):=om;have x6:(r:Int)+4 * (c:Int) < 16:=om;have x7:((r:Int)+4 * (c:Int)).toNat=r+4 * c:=om;have q1:=HA.o.cell (r+4 * ((c+r) % 4)) om
     rw[← eO blk _ om] at q1
     go_wp2_with fail
     refine (jG _ wr).mono ?_;rintro _ _ ⟨rfl,rfl⟩;have q2:=HM.o.cell (r+4 * c) om;have q3:=HM.o.free (r+4 * c);have hs6:=HM.o.set (r+4 * c) om (sb (gd blk (r+4 * ((c+r) % 4))));rw[vQ blk r c hlt hct om] at hs6;generalize sb (gd blk (r+4 * ((c+r) % 4)))=v at *;replace HA:=SM (HA.o.other ⟨M,r+4 * c,none⟩ (B8 v) (by show M≠_;omega))
     replace HN:=SM (HN.o.other ⟨M,r+4 * c,none⟩ (B8 v) (by show M≠_;omega))
     replace HR:=SM (HR.o.other ⟨M,r+4 * c,none⟩ (B8 v) (by show M≠_;omega))
     replace Hb:=SM (Hb.o.setCell (p:=⟨M,r+4 * c,none⟩) (by show _≤M;omega) (B8 v))
     replace HM:=SM hs6;clear hs6
     go_wp2
     go_roundw
     case rel=>exact⟨c+1,om,by go_num,HA.o,HN.o,HR.o,HM.o,Hb.o⟩
     case measure=>simp only[intOf];omega
    ·obtain rfl:c=4:=om;rw[Ah] at HM
     go_wp2
     go_roundw
     case rel=>exact⟨r+1,om,by go_num,HA.o,HN.o,HR.o,HM.o,Hb.o⟩
     case measure=>simp only[intOf];omega
  ·obtain rfl:r=4:=om;rw[Af] at HM;have q1:=HM.o.r;have q2:=HM.o.k;cases last with
   | true =>
    have q3:=HN.o.r
    go_wp2_with fail
    refine (pZ (cz blk) key wr).mono ?_;rintro _ w4 ⟨rfl,hb4⟩;replace HR:=SM (HR.o.below hb4);replace Hb:=SM (bt Hb.o hb4);have q4:=HR.o.k
    go_wp2
    refine bodyPost_ret (cq rfl _ _ (w.heap.size+1+1) 0 (fw B8 (fN blk key true)) rfl (HR.o.all (fN blk key true)).r) rfl ⟨rfl,aa Hb.o om _ _⟩
   | false =>
    have e4:(#[.int .u8 2,.int .u8 3,.int .u8 1,.int .u8 1] : Array Value)=fw B8 (#v[2,3,1,1] : V4):=kr
    go_wp2_with fail
    refine (Le (cz blk) #v[2,3,1,1] wr).mono ?_;rintro _ w4 ⟨rfl,hb4⟩;rw[GE];clear q1 q2;replace HR:=SM (HR.o.below hb4);replace HN:=SM (HN.o.below hb4);replace HM:=SM (HM.o.below hb4);replace Hb:=SM (bt Hb.o hb4);have q2:=HM.o.k;have q1:=(HM.o.all (EZ (cz blk))).r;have q3:=(HN.o.apart M 0 (fw B8 (EZ (cz blk))) om).r
    go_wp2_with fail
    clear q1 q2 q3;replace HR:=SM (HR.o.apart M 0 (fw B8 (EZ (cz blk))) om);replace Hb:=SM (aa Hb.o (b:=M) om 0 (fw B8 (EZ (cz blk))));generalize setAt w4 M 0 (fw B8 (EZ (cz blk)))=w5 at *;refine (pZ (EZ (cz blk)) key w5).mono ?_;rintro _ w6 ⟨rfl,hb6⟩;replace HR:=SM (HR.o.below hb6);replace Hb:=SM (bt Hb.o hb6);have q4:=HR.o.k
    go_wp2
    refine bodyPost_ret (cq rfl _ _ (w.heap.size+1+1) 0 (fw B8 (fN blk key false)) rfl (HR.o.all (fN blk key false)).r) rfl ⟨rfl,aa Hb.o om _ _⟩
theorem Fk(key blk:RW)(w:World):Calls prog 236 #[.agg (fw B8 key),.agg (fw B8 blk)] w fun e w'=>e = .returned (.agg (fw B8 (enc key blk)))∧Below w.heap.size w w':=by
 go_in
 go_upto_region 1 with fail
 obtain⟨hA,hN,hR,hb,hs⟩:=mT w 22 22 22 B8 key B8 blk B8 dq;generalize ((w.alloc (.cells (fw B8 key) 22)).alloc (.cells (fw B8 blk) 22)).alloc (.cells (fw B8 dq) 22)=w2 at *;have q1:=hA.r;have HN:=SM hN;have HR:=SM hR;have Hb:=SM hb;have l2:w.heap.size+3≤w2.heap.size:=om;clear hA hN hR hb hs
 go_wp2_with fail
 refine (Gr key w2).mono ?_;rintro _ w3 ⟨rfl,hb3⟩;clear q1;replace HR:=SM (HR.o.below hb3);replace HN:=SM (HN.o.below hb3);replace Hb:=SM (bt Hb.o hb3);have l3:w.heap.size+3≤w3.heap.size:=Nat.le_trans l2 hb3.size;clear hb3 l2
 go_upto_region 2 with fail
 obtain⟨hK,hb4,hs4⟩:=dU w3 333 B8 (SQ key 176);generalize w3.alloc (.cells (fw B8 (SQ key 176)) 333)=w4 at *;have HK:=SM hK;replace HR:=SM (HR.o.below hb4);replace HN:=SM (HN.o.below hb4);replace Hb:=SM (bt Hb.o hb4);clear hK hb4 hs4;generalize w3.heap.size=K at *;have q1:=HN.o.r;have q2:=HK.o.sub 0 16 om;rw[show (0:Nat)=0 * 16 from rfl,qh key 176 0 om om] at q2
 have q2':readAt w4 K 0 16=some (fw B8 (rk key 0)):=q2;clear q2
 go_wp2_with fail
 refine (pZ blk (rk key 0) w4).mono ?_;rintro _ w5 ⟨rfl,hb5⟩;clear q1 q2';replace HK:=SM (HK.o.below hb5);replace HR:=SM (HR.o.below hb5);replace HN:=SM (HN.o.below hb5);replace Hb:=SM (bt Hb.o hb5);clear hb5;have q1:=HN.o.k
 go_wp2_with fail
 clear q1;replace HK:=SM (HK.o.apart (w.heap.size+1) 0 (fw B8 (yj blk (rk key 0))) om);replace HR:=SM (HR.o.apart (w.heap.size+1) 0 (fw B8 (yj blk (rk key 0))) om);replace Hb:=SM (aa Hb.o (b:=w.heap.size+1) om 0 (fw B8 (yj blk (rk key 0))));replace HN:=SM (HN.o.all (yj blk (rk key 0)));generalize setAt w5 (w.heap.size+1) 0 (fw B8 (yj blk (rk key 0)))=w6 at *
 go_loopw [6] (fun i wr=>∃ k:Nat,k≤10∧i = .int .i64 ((k:Int)+1)∧Row B8 wr K (SQ key 176)∧Row B8 wr (w.heap.size+1) (rx key blk k)∧Row B8 wr (w.heap.size+1+1) dq∧Below w.heap.size w wr) (fun i _=>11 - (intOf i).toNat)
 case atStart=>exact⟨0,om,rfl,HK.o,HN.o,HR.o,Hb.o⟩
 case round =>
  clear HK HN HR Hb;obtain⟨k,hk,rfl,hK,hN,hR,hb⟩:=hrel;have HK:=SM hK;have HN:=SM hN;have HR:=SM hR;have Hb:=SM hb;clear hK hN hR hb
  by_cases hlt:k < 10
  ·have i1:(0:Int)≤(k:Int):=om;have i2:(k:Int)+1 < 11:=om;have i3:(k:Int)+1≤10:=om;have i4:(0:Int)≤(k:Int)+1:=om;have i5:((k:Int)+1).toNat=k+1:=om
   go_upto_region 6 with fail
   refine yW (tk 0 6 (.run 6 (.brk 7 .done))) (fun u=>Row B8 u K (SQ key 176)∧Row B8 u (w.heap.size+1) (rx key blk k)) ⟨HK.o.drew,HN.o.drew⟩ ?_;replace HK:=SM HK.o.drew;replace HN:=SM HN.o.drew;replace HR:=SM HR.o.drew;replace Hb:=SM Hb.o.drew;generalize wr.drew=wr at *
   repeat((first|refine yO ?_|refine yM ?_|refine yF rfl rfl (fun w' hC'=>by have c1:=hC'.2.r;have c2:=hC'.1.sub ((k+1) * 16) 16 om;rw[qh key 176 (k+1) om om] at c2;go_simp;first|done|exact rfl) ?_);walk_nrm)
   refine yR ?_;refine (yu (rx key blk k) (rk key (k+1)) ((k:Int)+1 == 10) wr).mono ?_;rintro _ w7 ⟨rfl,hb7⟩;have hd:fN (rx key blk k) (rk key (k+1)) ((k:Int)+1 == 10)=rx key blk (k+1):=by
    rw[rx];congr 1
    by_cases e:k+1=10
    ·rw[decide_eq_true e];simp;omega
    ·rw[decide_eq_false e];simp;omega
   rw[hd];replace HK:=SM (HK.o.below hb7);replace HN:=SM (HN.o.below hb7);replace HR:=SM (HR.o.below hb7);replace Hb:=SM (bt Hb.o hb7);clear hb7 hd;refine kS ⟨HK.o,HN.o⟩ ?_;walk_nrm;have q1:=HN.o.k;refine et rfl rfl (fun K hK=>?_);go_simp;refine hK _ _ (fun _=>True) trivial (al ?_);clear q1;generalize hy:rx key blk (k+1)=y at *;replace HK:=SM (HK.o.apart (w.heap.size+1) 0 (fw B8 y) om);replace HR:=SM (HR.o.apart (w.heap.size+1) 0 (fw B8 y) om)
   replace Hb:=SM (aa Hb.o (b:=w.heap.size+1) om 0 (fw B8 y));replace HN:=SM (HN.o.all y);generalize setAt w7 (w.heap.size+1) 0 (fw B8 y)=w8 at *
   go_wp2
   go_roundw
   case rel=>exact⟨k+1,om,by go_num,HK.o,by rw[hy];exact HN.o,HR.o,Hb.o⟩
   case measure=>simp only[intOf];omega
  ·obtain rfl:k=10:=om;have q1:=HN.o.r;have q2:=HR.o.k
   go_wp2
   refine bodyPost_ret (cq rfl _ _ (w.heap.size+1+1) 0 (fw B8 (enc key blk)) rfl (HR.o.all (enc key blk)).r) rfl ⟨rfl,aa Hb.o om _ _⟩
end
section
def Tu(nonce:N8)(i c:Nat):RW:=Vector.ofFn fun t=>if t.val < 8 then gd nonce t.val else if 16≤t.val+c then UInt8.ofNat (i / 256 ^ (15 - t.val)) else 0
theorem Ca(nonce:N8)(i:Nat):lh dq 0 nonce=Tu nonce i 0:=by
 apply Vector.ext;intro t ht
 simp only[lh,Tu,Vector.getElem_ofFn]
 by_cases h:t < 8
 ·rw[if_pos om,if_pos h,Nat.sub_zero]
 ·rw[if_neg om,if_neg h,if_neg om];simp[dq]
theorem FQ(nonce:N8)(i:Nat):Tu nonce i 8=rR nonce i:=by
 apply Vector.ext;intro t ht
 simp only[rR,Tu,Vector.getElem_ofFn]
 by_cases h:t < 8
 ·rw[if_pos h,if_pos h]
 ·rw[if_neg h,if_neg h,if_pos om]
theorem B7(nonce:N8)(i c q:Nat)(hc:c < 8)(hq:q+c=15)(h:q < 16):(Tu nonce i c).set q (UInt8.ofNat (i / 256 ^ c))=Tu nonce i (c+1):=by
 apply Vector.ext;intro t ht
 by_cases e:t=q
 ·subst e;simp only[Vector.getElem_set_self,Tu,Vector.getElem_ofFn];rw[if_neg om,if_pos om,show 15 - t=c by omega]
 ·rw[Vector.getElem_set_ne _ _ (Ne.symm e)];simp only[Tu,Vector.getElem_ofFn]
  by_cases h1:t < 8
  ·rw[if_pos h1,if_pos h1]
  ·rw[if_neg h1,if_neg h1]
   by_cases h2:16≤t+c
   ·rw[if_pos h2,if_pos om]
   ·rw[if_neg h2,if_neg om]
theorem y5(key:RW)(nonce:N8)(i:Nat)(w:World)(hi:i < 18446744073709551616):Calls prog 235 #[.agg (fw B8 key),.agg (fw B8 nonce),.int .u64 (i:Int)] w fun e w'=>e = .returned (.agg (fw B8 (cI key nonce i)))∧Below w.heap.size w w':=by
 go_in
 go_upto_region 1 with fail
 obtain⟨hA,hN,hR,hb,hs⟩:=mT w 22 107 22 B8 key B8 nonce B8 dq;generalize ((w.alloc (.cells (fw B8 key) 22)).alloc (.cells (fw B8 nonce) 107)).alloc (.cells (fw B8 dq) 22)=w2 at *;have HA:=SM hA;have HN:=SM hN;have HR:=SM hR;have Hb:=SM hb;have Hs:=SM hs;clear hA hN hR hb hs
 go_upto_region 2 with fail
 obtain⟨hM,hb2,hs2⟩:=dU w2 22 B8 dq;generalize w2.alloc (.cells (fw B8 dq) 22)=w3 at *;have HM:=SM hM;replace HA:=SM (HA.o.below hb2);replace HN:=SM (HN.o.below hb2);replace HR:=SM (HR.o.below hb2);replace Hb:=SM (bt Hb.o hb2);clear hM hb2 hs2;generalize w2.heap.size=M at *;have lM:w.heap.size+3=M:=Hs.o.symm;clear Hs;refine yW (tk 0 2 (.run 2 (.take 3 .done))) (fun u=>True) trivial ?_;replace HA:=SM HA.o.drew
 replace HN:=SM HN.o.drew;replace HR:=SM HR.o.drew;replace HM:=SM HM.o.drew;replace Hb:=SM Hb.o.drew;generalize w3.drew=w3 at *
 repeat(refine yA ?_;walk_nrm)
 have hcp:=dP w3 3 M 0 16 16 (w.heap.size+1) 0 8 8 8 rfl (fw B8 nonce) (aC HM.o.k 0 8 om) HN.o.r (ep _ _ ff);refine fJ rfl rfl ?_;apply Exists.intro;apply Exists.intro;refine⟨?_,?_⟩;(go_simp;exact⟨rfl,rfl⟩);clear hcp;have hM:=HM.o.paste 0 nonce om;rw[Ca nonce i] at hM;replace HA:=SM (HA.o.apart M 0 (fw B8 nonce) om);replace HR:=SM (HR.o.apart M 0 (fw B8 nonce) om);replace Hb:=SM (aa Hb.o (b:=M) om 0 (fw B8 nonce))
 replace HM:=SM hM;clear hM HN;generalize setAt w3 M 0 (fw B8 nonce)=w4 at *;refine kC trivial ?_;walk_nrm
 repeat(refine yA ?_;walk_nrm)
 refine al ?_
 go_wp2
 go_loopw [2,9] (fun x j wr=>∃ (c q:Nat),Hd (q+c=15)∧c≤8∧j = .int .i64 q∧x = .int .u64 (i / 256 ^ c:Nat)∧Row B8 wr M (Tu nonce i c)∧Row B8 wr w.heap.size key∧Row B8 wr (w.heap.size+1+1) dq∧Below w.heap.size w wr) (fun _ j _=>(intOf j+1).toNat)
 case atStart=>exact⟨0,15,rfl,om,rfl,sm,HM.o,HA.o,HR.o,Hb.o⟩
 case round =>
  clear HM HA HR Hb;obtain⟨c,q,hq,hc,rfl,rfl,hM,hA,hR,hb⟩:=hrel;have HM:=SM hM;have HA:=SM hA;have HR:=SM hR;have Hb:=SM hb;clear hM hA hR hb;have hdd:i / 256 ^ (c+1)=i / 256 ^ c / 256:=by rw[Nat.pow_succ,Nat.div_div_eq_div_mul]
  have Hdd:=SM hdd;clear hdd;have hyx:i / 256 ^ c < 18446744073709551616:=Nat.lt_of_le_of_lt (Nat.div_le_self _ _) hi;have hset:=B7 nonce i c q;generalize hY:i / 256 ^ c=Y at *
  by_cases hlt:c < 8
  ·have hq8:8≤q:=by have:=hq.o;omega
   have hq16:q < 16:=by have:=hq.o;omega
   have i1:(8:Int)≤(q:Int):=om;have i2:(q:Int) < 16:=om;have q1:=HM.o.cell q hq16;have q2:=HM.o.free q;have hst:=HM.o.set q hq16 (UInt8.ofNat Y);rw[hset hlt hq.o hq16] at hst;have HB:Hd (B8 (UInt8.ofNat Y) = .int .u8 ((Y:Int) % 256)):=by
    show _=_
    simp only[B8,Value.int.injEq,true_and,UInt8.toNat_ofNat'];omega
   rw[HB.o] at hst;replace HA:=SM (HA.o.other ⟨M,q,none⟩ (.int .u8 ((Y:Int) % 256)) (by show M≠_;omega))
   replace HR:=SM (HR.o.other ⟨M,q,none⟩ (.int .u8 ((Y:Int) % 256)) (by show M≠_;omega))
   replace Hb:=SM (Hb.o.setCell (p:=⟨M,q,none⟩) (by show _≤M;omega) (.int .u8 ((Y:Int) % 256)))
   replace HM:=SM hst;clear hst hset;have d1:((q:Int) - 1:Int)=((q - 1:Nat):Int):=om
   go_wp2
   go_roundw
   case rel=>exact⟨c+1,q - 1,by have:=hq.o;show _=_;omega,om,iE om,by rw[Hdd.o];exact iE om,HM.o,HA.o,HR.o,Hb.o⟩
   case measure=>simp only[intOf];omega
  ·obtain rfl:c=8:=om;obtain rfl:q=7:=by have:=hq.o;omega
   clear hset;rw[FQ] at HM;have q1:=HM.o.r;have q2:=HA.o.r
   go_wp2_with fail
   refine (Fk key (rR nonce i) wr).mono ?_;rintro _ w5 ⟨rfl,hb5⟩;replace HR:=SM (HR.o.below hb5);replace Hb:=SM (bt Hb.o hb5);have q4:=HR.o.k
   go_wp2
   refine bodyPost_ret (cq rfl _ _ (w.heap.size+1+1) 0 (fw B8 (cI key nonce i)) rfl (HR.o.all (cI key nonce i)).r) rfl ⟨rfl,aa Hb.o om _ _⟩
end
section
open Go.RowKit Go.Shelf
attribute [local go_sem] Oper.semAt_some
def Qu(w:World)(B:Nat):Nat:=match w.cell? ⟨B,0,none⟩ with | some (.int _ x)=>x.toNat | _=>0
theorem BC{w:World}{B n:Nat}{k:IntKind}(h:w.cell? ⟨B,0,none⟩=some (.int k (n:Int))):Qu w B=n:=by simp[Qu,h]
theorem yy(key:RW)(nonce:N8)(i:Int)(w:World):
  Calls prog 231 #[.agg (fw B8 key),.agg (fw B8 nonce),.int .u64 i] w fun e w'=>e = .returned (.func (.func 234) #[] #[.pointer (some ⟨w.heap.size,0,none⟩),.pointer (some ⟨w.heap.size+1,0,none⟩),.pointer (some ⟨w.heap.size+1+1,0,none⟩)])∧w'=((w.alloc (.cells (fw B8 key) 22)).alloc (.cells (fw B8 nonce) 107)).alloc (.cells #[.int .u64 i] 195):=by
 go_in
 go_wp2
 go_ret
 exact⟨rfl,rfl⟩
set_option maxRecDepth 100000 in
theorem yx(n:Nat)(hn:1≤n)(l Bk Bn Bi:Nat)(key:RW)(nonce:N8)(i0 N:Nat)(hN:i0+N < 18446744073709551616)(J J':Nat→World→Prop)(Jx:World→Prop)
  (hJb:∀ k A B,J k A→Below A.heap.size A B→J k B)
  (hJf:∀ k A,J k A→k < N∧Row B8 A Bk key∧Row B8 A Bn nonce∧A.cell? ⟨Bi,0,none⟩=some (.int .u64 ((i0+k:Nat):Int))∧A.frozen? ⟨Bi,0,none⟩=false)
  (hJs:∀ k A,J' k A→A.cell? ⟨Bi,0,none⟩=some (.int .u64 ((i0+k:Nat):Int))∧A.frozen? ⟨Bi,0,none⟩=false∧J (k+1) (A.setCell ⟨Bi,0,none⟩ (.int .u64 ((i0+(k+1):Nat):Int))))
  (hY:∀ k A,J k A→YieldAt Fence.wide (n - 1) prog l #[.agg (fw B8 (cI key nonce (i0+k)))] A fun e B=>(e = .returned (.bool true)∧J' k B)∨(e = .returned (.bool false)∧Jx B))
  (W:World) (h0:J 0 W) :
  CallsIn Fence.wide n prog 234 #[.func (.yield l) #[] #[],.pointer (some ⟨Bk,0,none⟩),.pointer (some ⟨Bn,0,none⟩),.pointer (some ⟨Bi,0,none⟩)] W fun e B=>(∃ v,e = .returned v)∧Jx B:=by
 refine callsIn_of_wp func234 rfl trivial ?_ rfl;simp only[ntmps234,List.size_toArray,List.length_cons,List.length_nil,Nat.reduceAdd,Nat.reduceSub,Array.replicate_succ,Array.replicate_zero,List.push_toArray,List.append_toArray,List.nil_append,List.cons_append]
 gi_wp2
 gi_loopw [5] (fun _ wr=>∃ k:Nat,J k wr) (fun _ wr=>i0+N - Qu wr Bi)
 case atStart=>exact⟨0,h0⟩
 case round =>
  obtain⟨k,hJ⟩:=hrel;obtain⟨hk,hK,hNn,hc,hf⟩:=hJf k wr hJ;have q1:=hK.r;have q2:=hNn.r;have hm:=BC hc;have hB:=y5 key nonce (i0+k) wr om;rw[Int.natCast_add] at hB;have HB:=SM hB;clear hB
  gi_wp2
  refine⟨trivial,(callsIn_wide.2 HB.o).mono ?_⟩;rintro _ w3 ⟨rfl,hb3⟩;obtain⟨fn,tmps,assign,body,hy,hR⟩:=hY k w3 (hJb _ _ _ hJ hb3);clear q1 q2 HB
  gi_wp2
  refine hR.mono ?_;rintro e W3 (⟨rfl,hJ3⟩ | ⟨rfl,hJx3⟩)
  ·obtain⟨hc3,hf3,hJ4⟩:=hJs k W3 hJ3;have hw:IntKind.u64.wrap ((i0:Int)+(k:Int)+1)=(i0:Int)+(k:Int)+1:=wu;rw[Int.natCast_add] at hc3;have HJ:=SM hJ4;clear hJ4
   gi_wp2
   go_roundw
   case rel=>exact⟨k+1,by have:=HJ.o;simpa [Int.add_assoc] using this⟩
   case measure =>
    have h1:=BC (hJf (k+1) _ HJ.o).2.2.2.1;have e:(i0:Int)+(k:Int)+1=((i0+(k+1):Nat):Int):=om;rw[e,h1,hm];omega
  ·gi_wp2
   go_end0
   exact⟨⟨_,rfl⟩,hJx3⟩
end
section
section
variable {P:Program} {ops:Array Oper} {Q:Exit→Act→World→Prop} {l n:Nat}
def NO(Q:Exit→Act→World→Prop):Exit→Act→World→Prop
 | .panic _,_,_=>False
 | .outgrown,_,_=>False
 | e,a,w=>Q e a w
theorem NO.imp:∀ (e:Exit) (a:Act) (w:World),NO Q e a w→Q e a w:=fun e a w h=>by
 cases e <;> first | exact h | exact (h:False).elim
theorem NO.lets : ¬ LetsOut (NO Q):=fun ⟨_,_,h⟩=>h
theorem zY{row:String}{args:Array Value}{w:World}{R:Value→World→Prop}(h:Rows P row args w R):RowsIn (Fence.wide.inRound l) n P row args w R :=
 fun c cs _=>let ⟨v,w',r,s⟩:=h c cs;⟨v,w',r,stepsIn_wide.2 s⟩
theorem uG{f:FuncId}{args:Array Value}{w:World}{R:Ending→World→Prop}(h:Calls P f args w R):CallsIn (Fence.wide.inRound l) n P f args w R :=
 callsIn_wide (n:=n).2 h
theorem pB(h:(Fence.wide.inRound l).depth.isSome=true):1≤n:=by cases h
theorem zB{o:Oper}{a:Act}{w:World}{K:Act→World→Prop}(hd:∀ c,o.op≠.defer c)(h:o.wp P a w K (NO Q)):o.wpIn (Fence.wide.inRound l) n P a w K (NO Q):=by
 refine⟨fun _ _=>trivial,?_⟩;rw[Oper.semAt_eq _ _ _ hd];unfold Oper.wp at h;cases hr:(execOp a.eval o).run P w with
 | ok x w' =>
  rw[hr] at h;cases x <;> simp only[Oper.upon,Oper.uponIn] at h ⊢
  case value v=>exact h
  case skip=>exact h
  case defer d=>exact h
  case enter f args =>
   refine⟨pB,uG (h.mono fun e w'' he=>?_)⟩;cases e with
   | returned v=>exact he
   | panicked c=>exact he
   | outgrown=>exact he
  case row row args=>exact⟨pB,zY h⟩
 | halt x w' =>
  rw[hr] at h;cases x <;> simp only[Oper.upon,Oper.uponIn] at h ⊢
  case panic v=>exact h
theorem jT(hd:∀ (i:Nat) (o:Oper) (c:Call),ops[i]? = some o→o.op≠.defer c):∀ (is:List Nat) (a:Act) (w:World),wpOps P ops (NO Q) is a w→wpOpsIn (Fence.wide.inRound l) n P ops (NO Q) is a w
 | [],_,_,h=>h
 | i :: rest,a,w,h=>by
  simp only[wpOps,wpOpsIn] at h ⊢;cases ho:ops[i]? with
  | none=>simp only[ho] at h ⊢;exact jT hd rest a w h
  | some o =>
   simp only[ho] at h ⊢
   by_cases hw:Region.wanted o (yielded ops a.tmps)=true
   ·simp only[hw,if_true] at h ⊢
    rcases h with h | h
    ·exact zB (fun c=>hd i o c ho) (Oper.wp_mono (fun a w hk=>jT hd rest a w hk) h)
    ·exact absurd h.2 NO.lets
   ·simp only[hw,if_false,Bool.false_eq_true] at h ⊢;exact⟨fun _ _=>trivial,jT hd rest _ w h⟩
def Da(ops:Array Oper):Bool:=ops.all fun o=>match o.op with | .defer _=>false | _=>true
theorem sJ(h:Da ops=true)(i:Nat)(o:Oper)(c:Call)(ho:ops[i]? = some o):o.op≠.defer c:=by
 obtain⟨hi,rfl⟩:=Array.getElem?_eq_some_iff.1 ho;have:=(Array.all_eq_true.1 h) i hi;intro hc;rw[hc] at this;cases this
theorem ov{id:Nat}{a:Act}{w:World}(t:Tr)(S:World→Prop)(hm:P.follows .mixedOrders=true)(hs:Region.noSelect ops=true)(hd:Da ops=true)
  (hl:ops.size=t.len) (hb:Tl .any ops t (Array.replicate ops.size false)=true) (hS:S w.drew) (h:Tp P ops (NO Q) t S a w.drew):(Code.region id ops true).wpIn (Fence.wide.inRound l) n P Q a w:=by
 refine wpIn_mono ?_ NO.imp;have h1:=gQ _ _ _ _ (bD (md:=.any) hs (fun c a d v w h=>h) t S _ _ _ hb (fun m o _ hm=>(by simp[Array.getD] at hm)) hS h)
 rw[← hl] at h1;refine wpIn_region_draw fun t=>?_;simp only[Region.schedule,hm,Bool.true_or,if_true];exact jT (sJ hd) _ a _ (wpAny_sound ops.size t _ a _ h1)
theorem My{S:World→Prop}{a:Act}{w:World}(h:Q .normal a w):Tp P ops (NO Q) .done S a w:=h
end
end
section
open Go Go.RowKit
def LB(B:Nat)(I':World→Prop)(Ix:Code→World→Prop)(W:World):Exit→Act→World→Prop
 | .normal,_,W'=>KeepsFrom B W W'∧I' W'
 | .ret,_,W'=>KeepsFrom B W W'∧Ix .ret W'
 | .exit id,_,W'=>KeepsFrom B W W'∧Ix (.exit id) W'
 | .goto t,_,W'=>KeepsFrom B W W'∧Ix (.goto t) W'
 | .panic _,_,_=>False
 | .outgrown,_,_=>False
variable {F:Fence} {n:Nat} {P:Program} {w:World}
theorem zR{g:Operand}{ps:Array Tmp}{assign body:Code}{Q:Exit→Act→World→Prop}{a:Act}
  (hro:F.round=none) (h1:1≤n) {gf:Nat} {lb:Array Value} (hg:a.eval g = .func (.func gf) #[] lb) (hFg:F.fn gf) (eg:∀ args w,(callFunc gf args).run P w = .ok (.enter gf args) w)
  (encs:Nat→Array Value) (hps:∀ k,(encs k).size=ps.size) (I I':Nat→World→Prop) (Ix:Code→World→Prop) (nxt:Nat→World→World)
  (hnx:∀ k A,KeepsOthers A (nxt k A)) (hI:OwnFrom w.heap.size I) (hI':OwnFrom w.heap.size I') (hIx:OwnFrom w.heap.size Ix) (hIb:∀ k A B,I k A→Below A.heap.size A B→I k B) (hIn:∀ k A,I' k A→I (k+1) (nxt k A))
  (hit:∀ (l:Nat) (J J':Nat→World→Prop) (Jx:World→Prop) (W:World),(∀ k A B,J k A→Below A.heap.size A B→J k B)→(∀ k A,J k A→I k A)→(∀ k A,J' k A→I' k A∧J (k+1) (nxt k A)) →
   (∀ k A,J k A→YieldAt F (n - 1 - 1) P l (encs k) A fun e B=>(e = .returned (.bool true)∧J' k B)∨(e = .returned (.bool false)∧Jx B))→J 0 W →
   CallsIn F (n - 1) P gf (#[.func (.yield l) #[] #[]] ++ lb) W fun e B=>(∃ v,e = .returned v)∧Jx B)
  (h0:I 0 w) (Ax:Nat→Act→World→Prop) (hAx:∀ k a',OwnFrom w.heap.size (fun (_:Unit) W=>Ax k a' W))
  (hassign:∀ (l k:Nat) (W:World) (K:Act→World→Prop),I k W→(∀ a' W',KeepsFrom w.heap.size W W'→I k W'→Ax k a' W'→K a' W') →
   assign.wpIn (F.inRound l) (n - 1 - 1) P (Exit.then K (fun _ _ _=>False)) { tmps:=(ps.zip (encs k)).foldl (fun t (p,v)=>t.setIfInBounds p v) a.tmps,defers:=[] } W)
  (hbody:∀ (l k:Nat) (a':Act) (W:World),w.heap.size≤l→I k W→Ax k a' W→body.wpIn (F.inRound l) (n - 1 - 1) P (LB w.heap.size (I' k) Ix W) a' W)
  (hstop:∀ (D:Nat) (c:Code) (W:World),w.heap.size≤D→Ix c W→W.heap[D]? = some (.deferred (some []))→c.wpIn F n P Q { a with defers:={ target:=.collected D,args:=#[] } :: a.defers } W) :
  (Code.rangeFunc g ps assign body).wpIn F n P Q a w:=by
 refine wpIn_rangeFunc fun fn hfn=>?_;rw[hro]
 let rec':LoopState→Option Code→Loop:=fun st pe=>{ state:=st,pending:=pe,fn,tmps:=a.tmps,params:=ps,assign,body,defers:=w.heap.size }
 let W1:=(w.alloc (.deferred (some []))).alloc (.loop (rec' .ready none))
 have hL1:W1.heap[w.heap.size+1]? = some (.loop (rec' .ready none)):=by
  have:=World.alloc_heap_new (w.alloc (.deferred (some []))) (.loop (rec' .ready none));rwa [World.size_alloc] at this
 have hK1:W1.heap[w.heap.size]? = some (.deferred (some [])):=(Below.heap_alloc _ _ _ sm).trans (World.alloc_heap_new w _);have hI1:I 0 W1:=hI.alloc _ (hI.alloc _ h0);refine⟨w.heap.size+1,[{ target:=.collected w.heap.size,args:=#[] }],W1,{ target:=.fn (.func gf) lb,args:=#[.func (.yield (w.heap.size+1)) #[] #[]] },W1,gf,
  #[.func (.yield (w.heap.size+1)) #[] #[]] ++ lb,W1,run_enterLoop_outer _ _ _ _ _,?_,?_,?_,fun _=>h1,?_⟩
 ·simp only[resolve,hg];simp[go_sem]
 ·intro f' hf';simp[Target.leads] at hf';subst hf';exact hFg
 ·simp[invoke,go_sem,eg]
 let J:Nat→World→Prop:=fun k W=>I k W∧W.heap[w.heap.size+1]? = some (.loop (rec' .ready none))∧W.heap[w.heap.size]? = some (.deferred (some []))
 let J':Nat→World→Prop:=fun k W=>I' k W∧W.heap[w.heap.size+1]? = some (.loop (rec' .ready none))∧W.heap[w.heap.size]? = some (.deferred (some []))
 let Jx:World→Prop:=fun W=>∃ c,Ix c W∧W.heap[w.heap.size+1]? = some (.loop (rec' .done (some c)))∧W.heap[w.heap.size]? = some (.deferred (some []))
 have lt_of:∀ {W:World} {j:Nat} {o:Obj},W.heap[j]? = some o→j < W.heap.size:=fun h=>(Array.getElem?_eq_some_iff.1 h).1;refine (hit (w.heap.size+1) J J' Jx W1 (fun k A B hJ hb=>⟨hIb k A B hJ.1 hb,(hb.block _ (lt_of hJ.2.1)).trans hJ.2.1,(hb.block _ (lt_of hJ.2.2)).trans hJ.2.2⟩) (fun k A hJ=>hJ.1)
  (fun k A hJ=>⟨hJ.1,hIn k A hJ.1,(hnx k A).same _ _ hJ.2.1 rfl,(hnx k A).same _ _ hJ.2.2 rfl⟩) ?_ ⟨hI1,hL1,hK1⟩).mono ?_
 ·rintro k W ⟨hi,hl,hk⟩;have hy:=run_yield (P:=P) (args:=encs k) hl (hps k);refine⟨fn,_,assign,body,hy,roundIn_of_wpIn hfn (hassign _ k W _ hi ?_)⟩;intro a' Wa hka hia hax;have hla:=hka.same _ _ om hl rfl;have hda:=hka.same _ _ (Nat.le_refl _) hk rfl;refine⟨_,run_beginRound hla rfl,?_⟩;have hl2:(Wa.putObj (w.heap.size+1) (.loop { rec' .ready none with state:=.busy })).heap[w.heap.size+1]? = some (.loop { rec' .ready none with state:=.busy }):=World.putObj_heap_same (lt_of hla)
  have hk2:(Wa.putObj (w.heap.size+1) (.loop { rec' .ready none with state:=.busy })).heap[w.heap.size]? = some (.deferred (some [])):=(World.putObj_heap_other om).trans hda
  refine wpIn_mono (hbody _ k a' _ om (hI.putObj _ hia om hla rfl) ((hAx k a').putObj (s:=()) _ hax om hla rfl)) ?_;have fin:∀ (jump:Option Code) (W3:World),KeepsFrom w.heap.size (Wa.putObj (w.heap.size+1) (.loop { rec' .ready none with state:=.busy })) W3 →
    (Instr.endRound (w.heap.size+1) jump).run P W3 = .ok (.bool jump.isNone) (W3.putObj (w.heap.size+1) (.loop (rec' (if jump.isNone then .ready else .done) jump))) ∧
    W3.heap[w.heap.size+1]? = some (.loop { rec' .ready none with state:=.busy }) ∧
    (W3.putObj (w.heap.size+1) (.loop (rec' (if jump.isNone then .ready else .done) jump))).heap[w.heap.size+1]? = some (.loop (rec' (if jump.isNone then .ready else .done) jump)) ∧
    (W3.putObj (w.heap.size+1) (.loop (rec' (if jump.isNone then .ready else .done) jump))).heap[w.heap.size]? = some (.deferred (some [])):=fun jump W3 hk3=>by
   have hl3:=hk3.same _ _ om hl2 rfl;exact⟨run_endRound (P:=P) jump hl3,hl3,World.putObj_heap_same (lt_of hl3),(World.putObj_heap_other om).trans (hk3.same _ _ (Nat.le_refl _) hk2 rfl)⟩
  have leave:∀ (c:Code) (W3:World),KeepsFrom w.heap.size (Wa.putObj (w.heap.size+1) (.loop { rec' .ready none with state:=.busy })) W3→Ix c W3 →
    Jx (W3.putObj (w.heap.size+1) (.loop (rec' .done (some c)))):=fun c W3 hk3 hx=>by
   obtain⟨_,hl3,hl4,hk4⟩:=fin (some c) W3 hk3;exact⟨c,hIx.putObj _ hx om hl3 rfl,hl4,hk4⟩
  rintro e a3 W3 hp;cases e with
  | normal =>
   obtain⟨hk3,hi3⟩:=hp;obtain⟨hr,hl3,hl4,hk4⟩:=fin none W3 hk3;exact⟨_,_,hr,.inl ⟨rfl,hI'.putObj _ hi3 om hl3 rfl,hl4,hk4⟩⟩
  | ret=>exact⟨_,_,(fin (some .ret) W3 hp.1).1,.inr ⟨rfl,leave _ W3 hp.1 hp.2⟩⟩
  | exit id=>exact⟨_,_,(fin (some (.exit id)) W3 hp.1).1,.inr ⟨rfl,leave _ W3 hp.1 hp.2⟩⟩
  | goto t=>exact⟨_,_,(fin (some (.goto t)) W3 hp.1).1,.inr ⟨rfl,leave _ W3 hp.1 hp.2⟩⟩
  | panic ch=>exact hp.elim
  | outgrown=>exact hp.elim
 ·rintro e W2 ⟨⟨v,rfl⟩,c,hi,hl,hk⟩;exact⟨some c,_,run_endLoop (P:=P) hl (by simp[rec']),hstop _ c _ (Nat.le_refl _) (hIx.putObj _ hi om hl rfl) ((World.putObj_heap_other om).trans hk)⟩
end
end Go.Proofs.YtlcfaaodmickbaaGreatDoor
