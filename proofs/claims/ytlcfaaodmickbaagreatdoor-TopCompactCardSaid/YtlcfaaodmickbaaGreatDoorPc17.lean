/- Part 17 of the proof: texts merged and shortened by a program. No conditions. -/
import Derived.Test.YtlcfaaodmickbaaGreatDoorPc16
set_option linter.unusedSimpArgs false
set_option linter.unusedVariables false
set_option maxRecDepth 100000
set_option maxHeartbeats 8000000
namespace Go.Proofs.YtlcfaaodmickbaaGreatDoor
open Go.RowKit Go.Proofs.Tryz
section
abbrev RQ:=RP × Nat
def SK(e:RQ):Array Value:=ev e.1 (e.2:Int)
theorem eL(e:RQ):(SK e).size=33:=Eh _ _
def il(g:Nat)(e:RQ):Sj:=dH g (ry e.1 e.2)
def fillW(s:Int)(g:Nat):Nat→List RQ→DM→DM × Int
 | _,[],D=>(D,0)
 | i,e :: r,D=>if (bE D (s+1+(i:Nat)) (il g e)).2=0 then fillW s g (i+1) r (bE D (s+1+(i:Nat)) (il g e)).1 else bE D (s+1+(i:Nat)) (il g e)
def fillD(D:DM)(s len:Int)(g:Nat)(L:List RQ):DM × Int :=
 if bp len < L.length then (D,13) else
 if (fillW s g 0 L D).2=0 then bz (fillW s g 0 L D).1 else fillW s g 0 L D
def zV(g:Nat)(L:List RQ)(j:Nat):List Sj:=(L.take j).map (il g) ++ List.replicate (L.length - j) cB
theorem GY(g:Nat)(L:List RQ)(j:Nat)(hj:j≤L.length):(zV g L j).length=L.length:=by simp[zV];omega
theorem DO(g:Nat)(L:List RQ):zV g L 0=List.replicate L.length cB:=by simp[zV]
theorem GX(g:Nat)(L:List RQ):zV g L L.length=L.map (il g):=by simp[zV]
theorem DN(g:Nat)(L:List RQ)(j:Nat)(hj:j < L.length):(zV g L j).set j (il g L[j])=zV g L (j+1):=by
 have hl:((L.take j).map (il g)).length=j:=sO;unfold zV;rw[List.set_append_right _ _ om,hl,Nat.sub_self,show L.length - j=(L.length - (j+1))+1 by omega,List.replicate_succ,List.set_cons_zero,List.take_succ_eq_append_getElem hj]
 simp only[List.map_append,List.map_cons,List.map_nil,List.append_assoc,List.cons_append,List.nil_append]
theorem Cm(p:DP)(base n m:Nat)(D:DM)(s len:Int)(g k c:Nat)(ad:Option Addr)(L:List RQ)(w:World)(h:RM w base p n D)(hD:R0 D n m)(hm:m+2 * k+4≤100000)(hn:n≤5000)(hbase:base≤w.heap.size)
  (hs:0≤s∧s≤5000) (hl:0≤len∧len≤5000) (hg:g < 4294967296) (hL:L.length=k) (hk:k≤5000) (hx:∀ e ∈ L,e.2≤4611686018427387904) (hR:Se w (.slice ad k c) k 33 (aZ SK L)) :
  Calls prog 77 #[.pointer (some ⟨p.B,0,none⟩),.agg #[.int .i64 s,.int .i64 len],.int .u32 g,.slice ad k c] w fun e w'=>(∃ j,e = .returned (fg (fillD D s len g L).2 j))∧bm w base p n (fillD D s len g L).1 w':=by
 have H:=SM h;have HD:=SM hD;have HRd:=SM hR;have HL:=SM hL;have Hx:=SM hx;clear h hD hR hL hx;obtain⟨R,hR⟩:=eY (fillD D s len g L);rw[hR];have HR:=SM hR;clear hR;have hrm : -1≤bp len∧bp len≤5000:=by unfold bp;split <;> omega
 have hP:=P2.made w 153 (.int .i64 s) (.int .i64 len);have hb0:=ba (.cells #[.int .i64 s,.int .i64 len] 153) (Sy w);obtain⟨i0,hi0,hz0,hs0,hby0⟩:=info_parts ko
 go_in
 go_upto_region 1 with fail
 generalize w.alloc (.cells #[.int .i64 s,.int .i64 len] 153)=w0 at *;have q0:=hP.c0;have q1:=hP.c1
 go_wp2_with fail
 refine (qP s len w0 om om).mono ?_;rintro _ w1 ⟨rfl,hb1⟩;have HP:=SM (hP.below hb1);have Hb1:=SM (bt hb0 hb1);clear hP hb0 hb1 q0 q1
 by_cases h2:bp len < k
 ·have hRn:R=(D,13):=by rw[← HR.o];unfold fillD;rw[if_pos (by rw[HL.o];exact h2)]
  have d2:decide (bp len < (k:Int))=true:=decide_eq_true h2;subst hRn;clear h2
  go_wp2
  go_ret
  exact⟨⟨0,rfl⟩,H.o.next Hb1.o⟩
 have d2:decide (bp len < (k:Int))=false:=decide_eq_false h2;have hRn:R=if (fillW s g 0 L D).2=0 then bz (fillW s g 0 L D).1 else fillW s g 0 L D:=by rw[← HR.o];unfold fillD;rw[if_neg (by rw[HL.o];exact h2)]
 have HRn:=SM hRn;have hkr:(k:Int)≤bp len:=om;clear h2 hRn HR;have hmk:=run_make (P:=prog) w1 80 201 i0 _ underlying80 hi0 hz0 .i64 .i64 (k:Int) (k:Int) om om (by rw[hby0];omega) om
 rw[hs0] at hmk;simp only[Int.toNat_natCast,Value.cells,mU] at hmk;rw[← sg] at hmk;have hF:readAt (w1.alloc (.cells (aZ av (List.replicate k cB)).toArray 201)) w1.heap.size 0 (k * 64)=some (aZ av (List.replicate k cB)).toArray:=by
  have hfl:(aZ av (List.replicate k cB)).toArray.size=k * 64:=by simp[bH av 64 cU]
  rw[aj _ _ _ _ _ _ _ rfl om];refine congrArg some ?_
  apply Array.ext'
  simp only[Array.toList_extract,List.extract_eq_take_drop,List.drop_zero];exact List.take_of_length_le (by simp at hfl ⊢;omega)
 have hFk:canAt (w1.alloc (.cells (aZ av (List.replicate k cB)).toArray 201)) w1.heap.size 0 (k * 64)=true:=by
  have hfl:(aZ av (List.replicate k cB)).toArray.size=k * 64:=by simp[bH av 64 cU]
  rw[aq _ _ _ _ _ _ rfl om]
 have hbF:=ba (.cells (aZ av (List.replicate k cB)).toArray 201) (Sy w1);have hsF:(w1.alloc (.cells (aZ av (List.replicate k cB)).toArray 201)).heap.size=w1.heap.size+1:=sm
 go_wp2_with fail
 generalize w1.alloc (.cells (aZ av (List.replicate k cB)).toArray 201)=w2 at *;rw[show List.replicate k cB=zV g L 0 by rw[DO,HL.o]] at hF
 have HF:=SM hF;have HFk:=SM hFk;clear hmk hF hFk;obtain⟨F,hFe⟩:=eY w1.heap.size;rw[hFe] at HF HFk hbF hsF ⊢;have hFlt:w.heap.size < F:=by rw[← hFe];have:=HP.o.lt;omega
 have Hbw2:=SM (bt Hb1.o (by rw[hFe];exact hbF))
 have HP2:=SM (HP.o.below (by rw[hFe];exact hbF))
 clear hbF HP hFe
 go_loopw [28] (fun i wr=>∃ j:Nat,j≤k∧i = .int .i64 j∧readAt wr F 0 (k * 64)=some (aZ av (zV g L j)).toArray∧canAt wr F 0 (k * 64)=true∧Below F w2 wr) (fun i _=>k - (intOf i).toNat)
 case atStart=>exact⟨0,Nat.zero_le _,rfl,HF.o,HFk.o,Below.refl _ _⟩
 case round =>
  clear HF HFk;obtain⟨j,hj,rfl,hf,hfk,hbw⟩:=hrel;have Hf:=SM hf;have Hfk:=SM hfk;have Hbw:=SM hbw;clear hf hfk hbw;have hwF:w2.heap.size≤wr.heap.size:=Hbw.o.size
  by_cases hlt:j < k
  ·have hbwr:Below w.heap.size w wr:=Hbw2.o.trans (Hbw.o.mono om);obtain⟨b1,o1,c1,e1,_,_,hr1⟩:=(HRd.o.below hbwr).at j hlt;simp only[Value.slice.injEq,true_and] at e1;obtain⟨rfl,rfl⟩:=e1;have hjL:j < L.length:=by rw[HL.o];exact hlt
   rw[dC SK 33 eL L j hjL] at hr1;have hst:=DN g L j hjL;have hxj:=Hx.o L[j] (List.getElem_mem hjL);obtain⟨e,he⟩:=eY (L[j]);rw[he] at hr1 hst hxj;obtain⟨d,x⟩:=e;have Hst:=SM hst;have hMl:=GY g L j om;rw[HL.o] at hMl;obtain⟨M,hM⟩:=eY (zV g L j);rw[hM] at Hf Hst hMl;have hr1':readAt wr b1 (o1+j * 33) 33=some (ev d (x:Int)):=hr1;have q3:readAt (wr.alloc (.cells (ev d (x:Int)) 89)) wr.heap.size 0 33=some (ev d (x:Int)):=lx wr d x
   have hb3:=ba (.cells (ev d (x:Int)) 89) (Sy wr);clear hst he hM hr1 hbwr
   go_wp2_with fail
   generalize wr.alloc (.cells (ev d (x:Int)) 89)=w3 at *;refine (oP g d x w3 hg hxj).mono ?_;rintro _ w4 ⟨rfl,hb4⟩;have hb34:=bt hb3 hb4;have Hb4:=SM (Hbw.o.trans (hb34.mono om));have Hf4:=SM ((ak hb34 om 0 (k * 64)).trans Hf.o);have Hfk4:=SM ((ay hb34 om 0 (k * 64)).trans Hfk.o);have hz4:F < w4.heap.size:=by have:=hb34.size;omega
   obtain⟨z,hz⟩:=eY (dH g (ry d x));have Hst2:Hd (M.set j z=zV g L (j+1)):=by rw[← hz];exact Hst.o
   rw[hz];clear hz Hst q3 hb3 hb4 hb34 Hf Hfk Hbw hr1';have q4:readAt (w4.alloc (.cells (av z) 201)) w4.heap.size 0 64=some (av z):=by simp[go_sem]
   have hb5:=ba (.cells (av z) 201) (Sy w4);have Hb5:=SM (Hb4.o.trans (hb5.mono om));have Hf5:=SM ((ak hb5 om 0 (k * 64)).trans Hf4.o);have hfk5:=(ay hb5 om 0 (k * 64)).trans Hfk4.o;have q5:canAt (w4.alloc (.cells (av z) 201)) F (j * 64) 64=true:=aC hfk5 (j * 64) 64 om;have Hfk5:=SM hfk5;have hz5:(w4.alloc (.cells (av z) 201)).heap.size=w4.heap.size+1:=sm;have hj0:(0:Int)≤(j:Int):=om;have hjk:(j:Int) < (k:Int):=om
   clear Hb4 Hf4 Hfk4 hb5 hfk5
   go_wp2
   go_roundw
   case rel =>
    refine⟨j+1,om,by go_num,?_,?_,aa Hb5.o (Nat.le_refl _) _ _⟩
    ·rw[ae _ _ 0 (k * 64) _ Hf5.o Hfk5.o (j * 64) _ (Nat.zero_le _) sO,Nat.sub_zero,qs av 64 cU M j om,Hst2.o]
    ·rw[ap _ _ _ _ _ _ _ (by simpa using q5)];exact Hfk5.o
   case measure=>simp[intOf];omega
  ·obtain rfl:j=k:=om
   go_wp2_with fail
   have hbL:Below w.heap.size w wr:=Hbw2.o.trans (Hbw.o.mono om);have HbL:=SM hbL;have HPL:=SM (HP2.o.same (Hbw.o.block _ om));have hfM:Hd (readAt wr F 0 (j * 64)=some (aZ av (L.map (il g))).toArray):=by rw[← GX,HL.o];exact Hf.o
   obtain⟨RF,hRF⟩:=eY (fillW s g 0 L D);rw[hRF] at HRn;have hN0:Hd (bm wr base p n D wr):=(H.o.below hbL).next (Below.refl _ _);have HDh:=SM (fun b (hb:p.has b)=>H.o.has_lt b hb);clear Hf Hfk Hbw HP2 Hbw2 hbL H;generalize wr=wL at *
   go_loopw [49] (fun i wr=>∃ (q:Nat) (Dq:DM),q≤j∧i = .int .i64 q∧bm wL base p n Dq wr∧R0 Dq n (m+2 * q)∧Hd (fillW s g q (L.drop q) Dq=RF)) (fun i _=>j - (intOf i).toNat)
   case atStart=>exact⟨0,D,Nat.zero_le _,rfl,hN0.o,HD.o,hRF⟩
   case round =>
    clear hN0 HD hRF;obtain⟨q,Dq,hq,rfl,hN,hD,hF⟩:=hrel;have HN:=SM hN;have HD:=SM hD;obtain⟨p',hpB,hA,hk',hh⟩:=hN;have HA:=SM hA;have hsz:wL.heap.size≤wr.heap.size:=hk'.size;have hnF : ¬ p.has F:=fun hb=>by have:=HDh.o _ hb;omega
    have hnS : ¬ p.has w.heap.size:=fun hb=>by have:=HDh.o _ hb;omega
    have hfq:=(show readAt wr F 0 (j * 64)=readAt wL F 0 (j * 64) by simp[readAt,hk'.block F om hnF]).trans hfM.o
    have HPq:=SM (HPL.o.same (hk'.block _ om hnS));have hp'F : ¬ p'.has F:=fun hb=>by rcases hh F hb with h | h;exact hnF h;omega
    have HKK:=SM (And.intro hk' hh);clear hD hA hk' hh
    by_cases hlt:q < j
    ·have hqL:q < L.length:=by rw[HL.o];exact hlt
     have hrq:=aB hfq (q * 64) 64 om om;rw[Nat.sub_zero,dC av 64 cU _ q (by simp;exact hqL),List.getElem_map] at hrq
     have hstep:=hF.o;rw[List.drop_eq_getElem_cons hqL] at hstep;unfold fillW at hstep;obtain⟨z,hz⟩:=eY (il g L[q]);rw[hz] at hrq hstep;have Hstep:=SM hstep;have q0:=(HPq.o.below (ba (.cells (av z) 201) (Below.refl _ _))).c0;have q4:readAt (wr.alloc (.cells (av z) 201)) wr.heap.size 0 64=some (av z):=by simp[go_sem]
     have hb3:=ba (.cells (av z) 201) (Sy wr);have w1':IntKind.i64.wrap (s+1)=s+1:=wi;have w2':IntKind.i64.wrap (s+1+(q:Int))=s+1+(q:Int):=wi;have hj0:(0:Int)≤(q:Int):=om;have hjk:(q:Int) < (j:Int):=om;clear hfq hstep hF hz
     go_wp2_with fail
     rw[← hpB];have hb4:=HA.o.below hb3;generalize wr.alloc (.cells (av z) 201)=w3 at *;refine (kz w3 (s+1+(q:Nat)) z (m+2 * q) hb4 HD.o om hn (by have:=hb3.size;omega)).mono ?_
     rintro e w4 ⟨he,hN4⟩;have HN4:=SM (bm.trans hpB HKK.o.1 HKK.o.2 (hN4.pre hb3));have HD4:=SM (HD.o.write (s+1+(q:Nat)) z);obtain⟨D4,hD4⟩:=eY ((bE Dq (s+1+(q:Nat)) z).1);obtain⟨c4,hc4⟩:=eY ((bE Dq (s+1+(q:Nat)) z).2);have hpr:bE Dq (s+1+(q:Nat)) z=(D4,c4):=by rw[← hD4,← hc4]
     rw[hpr] at Hstep;rw[hD4] at HN4 HD4;rw[hc4] at he;subst he;rw[hpB];clear hN4 hpr hD4 hc4 q0 q4 hb3 hb4 hrq HA HN HKK HPq
     by_cases h0:c4=0
     ·subst h0;have hst:Hd (fillW s g (q+1) (L.drop (q+1)) D4=RF):=SM (by have:=Hstep.o;simpa using this)
      rw[dM];clear Hstep
      go_wp2
      go_roundw
      case rel=>exact⟨q+1,D4,om,by go_num,HN4.o,HD4.o.more om,hst⟩
      case measure=>simp[intOf];omega
     ·have hst:RF=(D4,c4):=by have:=Hstep.o;rw[← this];simp only;rw[if_neg h0]
      have hRn:R=(D4,c4):=by rw[HRn.o,hst];simp only;rw[if_neg h0]
      subst hRn;obtain⟨T,u,he⟩:=cG (k:=s+1+(q:Nat)) h0;rw[he];have Hhe:=SM he;clear he hst Hstep
      go_wp2
      go_ret
      exact⟨⟨s+1+(q:Nat),congrArg Ending.returned Hhe.o.symm⟩,HN4.o.pre HbL.o⟩
    ·obtain rfl:q=j:=om;have hst:RF=(Dq,0):=by
      have:=hF.o;rw[List.drop_of_length_le (by rw[HL.o];exact Nat.le_refl _)] at this
      rw[← this];unfold fillW;rfl
     have hRn:R=bz Dq:=by rw[HRn.o,hst];simp
     subst hRn;clear hst hF
     go_wp2_with fail
     rw[← hpB];refine (jD wr (m+2 * q) HA.o HD.o om hn (by have:=HbL.o.size;omega)).mono ?_
     rintro e w5 ⟨rfl,hN5⟩;have HN5:=SM (bm.trans hpB HKK.o.1 HKK.o.2 hN5);obtain⟨vv,hvv⟩:=eY (fg (bz Dq).2 0);rw[hvv];have Hvv:=SM hvv;clear hvv
     go_wp2
     go_ret
     exact⟨⟨0,congrArg Ending.returned Hvv.o.symm⟩,HN5.o.pre HbL.o⟩
end
section
open Go.RowKit Go.Shelf
attribute [local go_sem] Oper.semAt_some
def RY(n₀ S Dp:Nat)(A B:World):Prop:=Below n₀ A B∧∀ b c t f,(b=S∨b=Dp)→A.heap[b]? = some (.cells c t f)→B.heap[b]? = some (.cells c t f)
theorem Qz{n₀ S Dp:Nat}{A B C:World}(h:RY n₀ S Dp A B)(k:RY n₀ S Dp B C):RY n₀ S Dp A C:=⟨h.1.trans k.1,fun b c t f hb e=>k.2 b c t f hb (h.2 b c t f hb e)⟩
theorem Qy{n₀ S Dp:Nat}{w:World}(hm:n₀≤w.heap.size)(W:World)(l:Nat)(o o':Obj)(hl:w.heap.size≤l)(ho:W.heap[l]? = some o)(hc:o.isCells=false)(hw:o.isWalk=false):RY n₀ S Dp W (W.putObj l o') :=
 ⟨belowK_b hm W l o o' hl ho hc hw,fun b c t f _ e=>by
  rw[World.putObj_heap_other (fun e2=>by subst e2;rw[e] at ho;cases ho;cases hc)];exact e⟩
abbrev SE:=Sj × Int × Int
def PY(x:SE):Array Value:=#[.agg (av x.1),fg x.2.1 x.2.2]
def SI(D:DM)(s:Int)(k:Nat):SE:=((eD D (s+(k:Nat))).1,(eD D (s+(k:Nat))).2,s+(k:Nat))
def Tn{α:Type}(f:Nat→α)(k:Nat):List α:=(List.range k).map f
theorem eM{α:Type}(f:Nat→α)(k:Nat):Tn f (k+1)=Tn f k ++ [f k]:=by simp[Tn,List.range_succ]
theorem jd{α:Type}(f:Nat→α)(k:Nat):(Tn f k).length=k:=by simp[Tn]
theorem gp{A B:World}(h:Below A.heap.size A B):A.grownBy B none:=⟨h.os,h.tape,h.output,h.size,fun k hk _=>h.block k hk⟩
set_option maxRecDepth 100000 in
theorem vO(n:Nat)(hn:1≤n)(l S Dp:Nat)(p:DP)(base N m:Nat)(D:DM)(s:Int)(len:Nat)(w0:World)(hA:RM w0 base p N D)(hD:R0 D N m)(hm:m≤100000)(hN:N≤5000)(hs:0≤s∧s≤5000)(hl:len≤5000)(hS:w0.heap.size≤S)(hDp:w0.heap.size≤Dp)(J Jx:List SE→World→Prop)
  (hJ:∀ pre A B,J pre A→Below A.heap.size A B→J pre B)
  (hY:∀ pre x W,J pre W→pre.length < len→YieldAt Fence.wide (n - 1) prog l (PY x) W fun e W' =>
   (e = .returned (.bool true)∧J (pre ++ [x]) W'∧RY w0.heap.size S Dp W W')∨(e = .returned (.bool false)∧Jx (pre ++ [x]) W'))
  (W:World) (hB:Below w0.heap.size w0 W) (cS:W.heap[S]? = some (.cells #[.int .i64 s,.int .i64 len] 153 (0,0))) (cD:W.heap[Dp]? = some (.cells #[.pointer (some ⟨p.B,0,none⟩)] 45 (0,0))) (h0:J [] W) :
  CallsIn Fence.wide n prog 205 #[.func (.yield l) #[] #[],.pointer (some ⟨S,0,none⟩),.pointer (some ⟨Dp,0,none⟩)] W fun e W'=>(∃ v,e = .returned v) ∧
   ((∃ ys,((∃ k,k≤len∧ys=Tn (SI D s) k∧(k=len∨∃ y ∈ ys,y.2.1≠0))∧J ys W'))∨(∃ pre,(∃ k,k≤len∧pre=Tn (SI D s) k)∧Jx pre W')):=by
 have HA:=SM hA;have HD:=SM hD;have HJ:=SM hJ;clear hA hD hJ;refine callsIn_of_wp func205 rfl trivial ?_ rfl;simp only[ntmps205,List.size_toArray,List.length_cons,List.length_nil,Nat.reduceAdd,Nat.reduceSub,Array.replicate_succ,Array.replicate_zero,List.push_toArray,List.append_toArray,List.nil_append,List.cons_append];have c1:W.cell? ⟨S,1,none⟩=some (.int .i64 len):=by simp[World.cell?,cS]
 gi_wp2
 clear c1
 gi_loopw [9] (fun i wr=>∃ k:Nat,k≤len∧i = .int .i64 k∧J (Tn (SI D s) k) wr∧Below w0.heap.size w0 wr∧wr.heap[S]? = some (.cells #[.int .i64 s,.int .i64 len] 153 (0,0))∧wr.heap[Dp]? = some (.cells #[.pointer (some ⟨p.B,0,none⟩)] 45 (0,0)))
  (fun i _=>len - (intOf i).toNat)
 case atStart=>exact⟨0,Nat.zero_le _,rfl,h0,hB,cS,cD⟩
 case round =>
  clear h0 hB cS cD;obtain⟨k,hk,rfl,hJs,hB,cS,cD⟩:=hrel
  by_cases hlt:k < len
  ·have c0:wr.cell? ⟨S,0,none⟩=some (.int .i64 s):=by simp[World.cell?,cS]
   have c2:wr.cell? ⟨Dp,0,none⟩=some (.pointer (some ⟨p.B,0,none⟩)):=by simp[World.cell?,cD]
   have w1':IntKind.i64.wrap (s+(k:Int))=s+(k:Int):=wi
   gi_wp2
   refine⟨trivial,(callsIn_wide.2 (mD wr (s+(k:Int)) m (HA.o.below hB) HD.o hm hN)).mono ?_⟩;rintro _ w2 ⟨rfl,hb2⟩;have hb3:=bt hb2 (ba (.cells (av (eD D (s+(k:Int))).1) 201) (Sy w2));have hJ3:=HJ.o _ _ _ hJs hb3;have hB3:=hB.trans (hb3.mono hB.size);have cS3:=(hb3.block S (Array.getElem?_eq_some_iff.1 cS).1).trans cS;have cD3:=(hb3.block Dp (Array.getElem?_eq_some_iff.1 cD).1).trans cD;have q4:readAt (w2.alloc (.cells (av (eD D (s+(k:Int))).1) 201)) w2.heap.size 0 64=some (av (eD D (s+(k:Int))).1):=by simp[go_sem]
   clear c0 c2 hb2 hb3 cS cD hB hJs;have hel:SI D s k=((eD D (s+(k:Int))).1,(eD D (s+(k:Int))).2,s+(k:Int)):=rfl;have Hel:=SM hel;obtain⟨x,hx⟩:=eY ((eD D (s+(k:Int))).1);obtain⟨c,hc⟩:=eY ((eD D (s+(k:Int))).2);rw[hx] at hJ3 hB3 cS3 cD3 q4 Hel ⊢;rw[hc] at Hel ⊢;clear hel hx hc;obtain⟨fn,tmps,assign,body,hy,hR⟩:=hY _ (x,c,s+(k:Int)) _ hJ3 (by rw[jd];exact hlt)
   simp only[PY] at hy;clear hJ3
   rcases kD c (s+(k:Int)) with ⟨hc0,he⟩ | ⟨hc0,he⟩ | ⟨hc0,hc1,he⟩
   ·rw[he] at hy ⊢
    gi_wp2
    refine hR.mono ?_;rintro e W3 (⟨rfl,hJ4,hk3⟩ | ⟨rfl,hJx3⟩)
    ·have cS4:=hk3.2 S _ _ _ (.inl rfl) cS3;have cD4:=hk3.2 Dp _ _ _ (.inr rfl) cD3
     gi_wp2
     go_roundw
     case rel=>exact⟨k+1,om,by go_num,by rw[eM,Hel.o];exact hJ4,hB3.trans hk3.1,cS4,cD4⟩
     case measure=>simp[intOf];omega
    ·gi_wp2
     refine bodyPost_ret (results_none rfl _ _ _) rfl ?_;exact⟨⟨_,rfl⟩,.inr ⟨_,⟨k+1,om,by rw[eM,Hel.o]⟩,hJx3⟩⟩
   ·rw[he] at hy ⊢;unfold lf at hy ⊢
    gi_wp2
    refine hR.mono ?_;rintro e W3 (⟨rfl,hJ4,hk3⟩ | ⟨rfl,hJx3⟩)
    ·gi_wp2
     refine bodyPost_ret (results_none rfl _ _ _) rfl ?_;exact⟨⟨_,rfl⟩,.inl ⟨_,⟨k+1,om,by rw[eM,Hel.o],.inr ⟨_,List.mem_append_right _ (List.mem_singleton.2 rfl),by show c≠0;omega⟩⟩,hJ4⟩⟩
    ·gi_wp2
     refine bodyPost_ret (results_none rfl _ _ _) rfl ?_;exact⟨⟨_,rfl⟩,.inr ⟨_,⟨k+1,om,by rw[eM,Hel.o]⟩,hJx3⟩⟩
   ·rw[he] at hy ⊢;unfold mA at hy ⊢
    gi_wp2
    refine hR.mono ?_;rintro e W3 (⟨rfl,hJ4,hk3⟩ | ⟨rfl,hJx3⟩)
    ·gi_wp2
     refine bodyPost_ret (results_none rfl _ _ _) rfl ?_;exact⟨⟨_,rfl⟩,.inl ⟨_,⟨k+1,om,by rw[eM,Hel.o],.inr ⟨_,List.mem_append_right _ (List.mem_singleton.2 rfl),hc0⟩⟩,hJ4⟩⟩
    ·gi_wp2
     refine bodyPost_ret (results_none rfl _ _ _) rfl ?_;exact⟨⟨_,rfl⟩,.inr ⟨_,⟨k+1,om,by rw[eM,Hel.o]⟩,hJx3⟩⟩
  ·obtain rfl:k=len:=om
   gi_wp2
   go_end0
   exact⟨⟨_,rfl⟩,.inl ⟨_,⟨k,Nat.le_refl _,rfl,.inl rfl⟩,hJs⟩⟩
end
section
open Go.RowKit Go.Shelf
attribute [local go_sem] Oper.semAt_some
abbrev Si:=Bool × Nat × List RQ
def jq(st:Si)(x:SE):Option Si :=
 if st.1=false then (if Tb x.1=true then some (true,ej x.1,st.2.2) else none)
 else if S9 x.1=true∧aX x.1=st.2.1 then some (true,st.2.1,st.2.2 ++ [(ei x.1,dF x.1)]) else none
def fQ(o:Option Si)(x:SE):Option Si:=o.bind fun st=>if x.2.1=0 then jq st x else none
def mI(L:List SE):Option Si:=L.foldl fQ (some (false,0,[]))
theorem iZ(L:List SE)(x:SE):mI (L ++ [x])=fQ (mI L) x:=by simp[mI]
def gv(st:Si):List SE→Si × Int
 | []=>(st,0)
 | x :: r=>if x.2.1=0 then (match jq st x with | some st'=>gv st' r | none=>(st,0)) else ((false,0,[]),x.2.1)
def dh(D:DM)(s:Int)(len:Nat):Si × Int:=gv (false,0,[]) (Tn (SI D s) len)
theorem fy(L:List SE):L.foldl fQ none=none:=by induction L with
 | nil=>rfl
 | cons x L ih=>simpa [fQ] using ih
theorem nv(st:Si)(L R:List SE)(st':Si)(h:L.foldl fQ (some st)=some st'):gv st (L ++ R)=gv st' R:=by
 induction L generalizing st with
 | nil=>simp at h;subst h;rfl
 | cons x L ih =>
  rw[List.foldl_cons] at h
  by_cases hc:x.2.1=0
  ·have e:fQ (some st) x=jq st x:=by simp[fQ,hc]
   rw[e] at h;cases hg:jq st x with
   | none=>rw[hg,fy] at h;cases h
   | some st2 =>
    rw[hg] at h;rw[List.cons_append,gv,if_pos hc,hg];exact ih st2 h
  ·have e:fQ (some st) x=none:=by simp[fQ,hc]
   rw[e,fy] at h;cases h
theorem tS{α:Type}(f:Nat→α)(k n:Nat)(h:k≤n):∃ R,Tn f n=Tn f k ++ R:=by
 induction n with
 | zero =>
  obtain rfl:k=0:=om;exact⟨[],sm⟩
 | succ n ih =>
  by_cases e:k=n+1
  ·subst e;exact⟨[],sm⟩
  ·obtain⟨R,hR⟩:=ih om;exact⟨R ++ [f n],by rw[eM,hR,List.append_assoc]⟩
theorem xV(D:DM)(s:Int)(len:Nat)(st:Si)(h:mI (Tn (SI D s) len)=some st):dh D s len=(st,0):=by
 have:=nv _ _ [] st h;rw[List.append_nil] at this;exact this
theorem tw(D:DM)(s:Int)(len k:Nat)(hk:k≤len)(ini:List SE)(last:SE)(st:Si)(e:Tn (SI D s) k=ini ++ [last])(h:mI ini=some st)(hc:last.2.1=0)(hg:jq st last=none):dh D s len=(st,0):=by
 obtain⟨R,hR⟩:=tS (SI D s) k len hk;unfold dh;rw[hR,e,List.append_assoc,nv _ ini _ st h]
 show gv st (last :: R)=_
 rw[gv,if_pos hc,hg]
theorem Io(D:DM)(s:Int)(len k:Nat)(hk:k≤len)(ini:List SE)(last:SE)(st:Si)(e:Tn (SI D s) k=ini ++ [last])(h:mI ini=some st)(hc:last.2.1≠0):dh D s len=((false,0,[]),last.2.1):=by
 obtain⟨R,hR⟩:=tS (SI D s) k len hk;unfold dh;rw[hR,e,List.append_assoc,nv _ ini _ st h]
 show gv st (last :: R)=_
 rw[gv,if_neg hc]
theorem zf(L:List SE)(st:Si)(h:mI L=some st): ¬ ∃ y ∈ L,y.2.1≠0:=by
 have:∀ (L:List SE) (st0:Si),L.foldl fQ (some st0)=some st→¬ ∃ y ∈ L,y.2.1≠0:=by
  intro L
  induction L with
  | nil=>intro _ _ ⟨y,hy,_⟩;cases hy
  | cons x L ih =>
   intro st0 h;rw[List.foldl_cons] at h
   by_cases hc:x.2.1=0
   ·have e:fQ (some st0) x=jq st0 x:=by simp[fQ,hc]
    rw[e] at h;cases hg:jq st0 x with
    | none=>rw[hg,fy] at h;cases h
    | some st2 =>
     rw[hg] at h;rintro ⟨y,hy,hne⟩
     rcases List.mem_cons.1 hy with rfl | hy
     ·exact hne hc
     ·exact ih st2 h ⟨y,hy,hne⟩
   ·have e:fQ (some st0) x=none:=by simp[fQ,hc]
    rw[e,fy] at h;cases h
 exact this L _ h
theorem Gc(L:List SE)(st0 st:Si)(h:L.foldl fQ (some st0)=some st):st.2.2.length≤st0.2.2.length+L.length:=by
 induction L generalizing st0 with
 | nil=>simp at h;subst h;simp
 | cons x L ih =>
  rw[List.foldl_cons] at h
  by_cases hc:x.2.1=0
  ·have e:fQ (some st0) x=jq st0 x:=by simp[fQ,hc]
   rw[e] at h;cases hg:jq st0 x with
   | none=>rw[hg,fy] at h;cases h
   | some st2 =>
    rw[hg] at h;have h1:=ih st2 h;have h2:st2.2.2.length≤st0.2.2.length+1:=by
     unfold jq at hg
     split at hg
     ·split at hg
      ·cases hg;simp
      ·cases hg
     ·split at hg
      ·cases hg;simp
      ·cases hg
    simp only[List.length_cons];omega
  ·have e:fQ (some st0) x=none:=by simp[fQ,hc]
   rw[e,fy] at h;cases h
theorem eh{X Y:World}{b:Nat}{cs:Array Value}{row:Option Nat}(h:Bk X b cs)(hg:X.grownBy Y row)(hr:∀ r,row=some r→∃ o:Obj,X.heap[r]? = some o∧o.isCells=false):Bk Y b cs :=
 h.same (hg.block b h.lt (fun e=>by
  obtain⟨o,ho,hc⟩:=hr b e.symm;obtain⟨c,t,hb,_⟩:=cg h.k;rw[hb] at ho;cases ho;cases hc))
theorem m7{X Y:World}{base e size n:Nat}{v:Value}{xs:List Value}{row:Option Nat}(h:X.ownsRow base e size v n xs)(hg:X.grownBy Y row)(hr:∀ r,row=some r→∃ o:Obj,X.heap[r]? = some o∧o.isCells=false):Y.ownsRow base e size v n xs :=
 bu h (fun g hg' hlt=>hg.block g hlt (fun e2=>by
  obtain⟨o,ho,hc⟩:=hr g e2.symm
  rcases h.2 with ⟨rfl,_⟩ | ⟨g1,c1,u1,rfl,_,a1,_⟩
  ·cases hg'
  simp only[Value.ownBlock] at hg';cases hg';rw[a1] at ho;cases ho;cases hc))
theorem vP(p:Nat)(s len:Int)(w:World):
  Calls prog 174 #[.pointer (some ⟨p,0,none⟩),.agg #[.int .i64 s,.int .i64 len]] w fun e w'=>e = .returned (.func (.func 205) #[] #[.pointer (some ⟨w.heap.size+1,0,none⟩),.pointer (some ⟨w.heap.size,0,none⟩)])∧w'=(w.alloc (.cells #[.pointer (some ⟨p,0,none⟩)] 45)).alloc (.cells #[.int .i64 s,.int .i64 len] 153):=by
 go_in
 go_wp2
 go_ret
 exact⟨rfl,rfl⟩
def I4(n:Nat)(parts:Array (Nat × Value)):Sem Value:=Instr.buildSlice 50 n parts
@[go_sem ↓] theorem QJ(n:Nat)(parts:Array (Nat × Value)):Instr.buildSlice 50 n parts=I4 n parts:=rfl
@[go_sem] theorem LW(w:World)(d:RP)(x:Int):(I4 1 #[(0,.agg (ev d x))]).run prog w = .ok (.slice (some ⟨w.heap.size,0,none⟩) 1 1) (w.alloc (.cells (ev d x) 89)):=by
 obtain⟨i,hi,hz,hs,_⟩:=info_parts tU;exact eo w _ _ i _ (.agg (ev d x)) underlying50 hi hz (by simp[hs,Value.cells]) (by simp[Value.cells]) (by simp[Value.cells]) (by simp[Value.cells])
theorem KW:(prog.info? 222).map (·.size)=some 3:=kr
theorem PA:prog.underlying 222=some (.struct (prog.fieldsOf 222)):=kr
theorem Lb{w:World}{b:Nat}{x y z:Value}(h:Bk w b #[x,y,z]):(loadVar 222 ⟨b,0,none⟩).run prog w = .ok (.agg #[x,y,z]) w:=az w b 0 3 222 _ _ h.r PA rfl KW
theorem Gw{w:World}{b:Nat}{x:Value}(h:Bk w b #[x]):(loadVar 30 ⟨b,0,none⟩).run prog w = .ok x w:=by
 have hc:=h.cell 0 x rfl;simp[go_sem,hc]
theorem Sx{W:World}{b:Nat}{x y z:Value}(h:Bk W b #[x,y,z])(x' y' z':Value):Bk (((W.setCell ⟨b,0,none⟩ x').setCell ⟨b,1,none⟩ y').setCell ⟨b,2,none⟩ z') b #[x',y',z']:=by
 have:=((h.set 0 sm x').set 1 sm y').set 2 sm z'
 simpa using this
theorem Sw{W:World}{b:Nat}{x:Value}(h:Bk W b #[x])(x':Value):Bk (W.setCell ⟨b,0,none⟩ x') b #[x']:=by
 have:=h.set 0 sm x'
 simpa using this
def Sh(w:World)(E:Nat)(pre:List SE)(W:World):Prop :=
 (∃ (live:Bool) (g:Nat) (es:List RQ) (v:Value),mI pre=some (live,g,es)∧Bk W (w.heap.size+3) #[.bool live,.int .u32 g,v]∧W.ownsRow E 89 33 v es.length (aZ SK es)) ∧
 Bk W (w.heap.size+1) #[.bool false,.int .u32 0,.slice none 0 0]∧Bk W (w.heap.size+2) #[.nilIface]∧Below w.heap.size w W∧E≤W.heap.size
theorem Bk.new(u:World)(cs:Array Value)(t:TypeId):Bk (u.alloc (.cells cs t)) u.heap.size cs:=⟨by rw[aj _ _ _ _ _ _ _ rfl om];simp,by rw[aq _ _ _ _ _ _ rfl om]⟩
theorem Ac(w W0:World)(B:Nat)(s len:Int)(hW0:W0=(((((w.alloc (.cells #[.int .i64 s,.int .i64 len] 153)).alloc (.cells #[.bool false,.int .u32 0,.slice none 0 0] 222)).alloc (.cells #[.nilIface] 30)).alloc (.cells #[.bool false,.int .u32 0,.slice none 0 0] 222)).alloc (.cells #[.pointer (some ⟨B,0,none⟩)] 45)).alloc (.cells #[.int .i64 s,.int .i64 len] 153)):
  W0.heap.size=w.heap.size+6∧Below w.heap.size w W0∧W0.heap[w.heap.size+5]? = some (.cells #[.int .i64 s,.int .i64 len] 153 (0,0))∧W0.heap[w.heap.size+4]? = some (.cells #[.pointer (some ⟨B,0,none⟩)] 45 (0,0)) ∧
  Bk W0 (w.heap.size+1) #[.bool false,.int .u32 0,.slice none 0 0]∧Bk W0 (w.heap.size+2) #[.nilIface]∧Bk W0 (w.heap.size+3) #[.bool false,.int .u32 0,.slice none 0 0]:=by
 subst hW0;obtain⟨w1,h1⟩:=eY (w.alloc (.cells #[.int .i64 s,.int .i64 len] 153));have s1:w1.heap.size=w.heap.size+1:=by rw[← h1];simp
 have b1:Below w.heap.size w w1:=by rw[← h1];exact ba _ (Below.refl _ _)
 rw[h1];have k1:=Bk.new w1 #[.bool false,.int .u32 0,.slice none 0 0] 222;have b2:=ba (.cells #[.bool false,.int .u32 0,.slice none 0 0] 222) (Sy w1);obtain⟨w2,h2⟩:=eY (w1.alloc (.cells #[.bool false,.int .u32 0,.slice none 0 0] 222));have s2:w2.heap.size=w1.heap.size+1:=by rw[← h2];simp
 rw[h2] at k1 b2 ⊢;have k2:=Bk.new w2 #[.nilIface] 30;have b3:=ba (.cells #[.nilIface] 30) (Sy w2);obtain⟨w3,h3⟩:=eY (w2.alloc (.cells #[.nilIface] 30));have s3:w3.heap.size=w2.heap.size+1:=by rw[← h3];simp
 rw[h3] at k2 b3 ⊢;have k3:=Bk.new w3 #[.bool false,.int .u32 0,.slice none 0 0] 222;have b4:=ba (.cells #[.bool false,.int .u32 0,.slice none 0 0] 222) (Sy w3);obtain⟨w4,h4⟩:=eY (w3.alloc (.cells #[.bool false,.int .u32 0,.slice none 0 0] 222));have s4:w4.heap.size=w3.heap.size+1:=by rw[← h4];simp
 rw[h4] at k3 b4 ⊢;have k4:=jJ w4 (.cells #[.pointer (some ⟨B,0,none⟩)] 45);have b5:=ba (.cells #[.pointer (some ⟨B,0,none⟩)] 45) (Sy w4);obtain⟨w5,h5⟩:=eY (w4.alloc (.cells #[.pointer (some ⟨B,0,none⟩)] 45));have s5:w5.heap.size=w4.heap.size+1:=by rw[← h5];simp
 rw[h5] at k4 b5 ⊢;have k5:=jJ w5 (.cells #[.int .i64 s,.int .i64 len] 153);have b6:=ba (.cells #[.int .i64 s,.int .i64 len] 153) (Sy w5);have s6:(w5.alloc (.cells #[.int .i64 s,.int .i64 len] 153)).heap.size=w5.heap.size+1:=sm;have z1:w1.heap.size=w.heap.size+1:=s1;have z2:w2.heap.size=w.heap.size+2:=om;have z3:w3.heap.size=w.heap.size+3:=om;have z4:w4.heap.size=w.heap.size+4:=om;have z5:w5.heap.size=w.heap.size+5:=om
 rw[z1] at k1;rw[z2] at k2;rw[z3] at k3;rw[z4] at k4;rw[z5] at k5;exact⟨om,bt (bt (bt (bt (bt b1 b2) b3) b4) b5) b6,k5,(b6.block _ om).trans k4,(((k1.below b3).below b4).below b5).below b6,((k2.below b4).below b5).below b6,(k3.below b5).below b6⟩
def Kg(r:Si × Int)(base:Nat)(e:Ending)(W:World):Prop :=
 ∃ v k,e = .returned (.tuple #[.agg #[.bool r.1.1,.int .u32 (r.1.2.1:Nat),v],fg r.2 k])∧W.ownsRow base 89 33 v r.1.2.2.length (aZ SK r.1.2.2)
theorem qV(w U:World)(Dd E:Nat)(tmps:Array Value)(ht4:tmps.getD 4 undef = .pointer (some ⟨w.heap.size+1,0,none⟩))(ht5:tmps.getD 5 undef = .pointer (some ⟨w.heap.size+2,0,none⟩))(r:Si × Int)(v e:Value)(k:Int)(he:e=fg r.2 k)(hDe:U.heap[Dd]? = some (.deferred (some [])))(hlo:w.heap.size≤Dd)
  (K4:Bk U (w.heap.size+1) #[.bool r.1.1,.int .u32 (r.1.2.1:Nat),v]) (K5:Bk U (w.heap.size+2) #[e]) (K3:U.ownsRow E 89 33 v r.1.2.2.length (aZ SK r.1.2.2)) (hE:w.heap.size≤E) (K6:Below w.heap.size w U) :
  bodyPostM Fence.wide 5 prog Tryz.f123 (fun e W=>Kg r w.heap.size e W∧Below w.heap.size w W) Exit.ret { tmps:=tmps,defers:=[{ target:=.collected Dd,args:=#[] }] } U:=by
 have hg:=grownBy_putObj' U Dd (.deferred none);have hr:∀ rr,some Dd=some rr→∃ o:Obj,U.heap[rr]? = some o∧o.isCells=false:=fun rr e=>by cases e;exact⟨_,hDe,rfl⟩
 refine⟨sm,.inl ⟨_,_,rfl,run_takeDeferred hDe,?_⟩⟩;refine⟨_,i9 _ _ _ _ _ _ rfl ht4 ht5 (Lb (eh K4 hg hr)) (Gw (eh K5 hg hr)),⟨v,k,by rw[he],bj (m7 K3 hg hr) hE⟩,K6.grown hg K6.size (fun rr e=>by cases e;exact hlo)⟩
theorem QY{W:World}{Dd:Nat}(h:W.heap[Dd]? = some (.deferred (some [])))(p q r s:Addr)(a b c d:Value):((((W.setCell p a).setCell q b).setCell r c).setCell s d).heap[Dd]? = some (.deferred (some [])) :=
 ((((KeepsOthers.setCell _ _ _).trans (KeepsOthers.setCell _ _ _)).trans (KeepsOthers.setCell _ _ _)).trans (KeepsOthers.setCell _ _ _)).same Dd _ h rfl
set_option maxRecDepth 100000 in
theorem Mi(p:DP)(base N m:Nat)(D:DM)(s:Int)(len:Nat)(w:World)(hA:RM w base p N D)(hD:R0 D N m)(hm:m≤100000)(hN:N≤5000)(hs:0≤s∧s≤5000)(hl:len≤5000):
  CallsIn Fence.wide 5 prog 123 #[.pointer (some ⟨p.B,0,none⟩),.agg #[.int .i64 s,.int .i64 len]] w fun e W=>Kg (dh D s len) w.heap.size e W∧Below w.heap.size w W:=by
 refine callsIn_of_wp_marks func123 rfl trivial ?_ rfl;simp only[ntmps123,List.size_toArray,List.length_cons,List.length_nil,Nat.reduceAdd,Nat.reduceSub,Array.replicate_succ,Array.replicate_zero,List.push_toArray,List.append_toArray,List.nil_append,List.cons_append];have HA:=SM hA;have HD:=SM hD;clear hA hD
 gi_wp2
 refine⟨trivial,(callsIn_wide.2 (vP _ _ _ _)).mono ?_⟩;rintro _ W0 ⟨rfl,hW0⟩;simp only[World.size_alloc] at hW0 ⊢
 gi_wp2
 have e2:w.heap.size+1+1=w.heap.size+2:=rfl;have e3:w.heap.size+1+1+1=w.heap.size+3:=rfl;have e4:w.heap.size+1+1+1+1=w.heap.size+4:=rfl;have e5:w.heap.size+1+1+1+1+1=w.heap.size+5:=rfl;rw[e5,e4,e3,e2];clear e5 e4 e3 e2;obtain⟨hsz,hbel,cS,cD,k1,k2,k3⟩:=Ac w W0 p.B s len hW0;clear hW0;refine wpIn_rangeFunc_ownH (α:=SE) rfl dc (gf:=205) (lb:=#[.pointer (some ⟨w.heap.size+5,0,none⟩),.pointer (some ⟨w.heap.size+4,0,none⟩)]) rfl trivial (enters_of func205 kr rfl)
  (encs:=PY) (Kp:=RY w.heap.size (w.heap.size+5) (w.heap.size+4)) (S:=fun ys=>∃ k,k≤len∧ys=Tn (SI D s) k∧(k=len∨∃ y ∈ ys,y.2.1≠0)) (Sp:=fun pre=>∃ k,k≤len∧pre=Tn (SI D s) k) (N:=len) (w0:=W0)
  ?seq Qz (Qy om) (Below.refl _ _) (fun _=>rfl)
  (Sh w (w.heap.size+6))
  (fun co pre W=>(∃ ini last,pre=ini ++ [last]∧∃ (live:Bool) (g:Nat) (es:List RQ) (v:Value),mI ini=some (live,g,es) ∧
   ((co = .ret∧last.2.1≠0∧Bk W (w.heap.size+1) #[.bool false,.int .u32 0,.slice none 0 0]∧Bk W (w.heap.size+2) #[fg last.2.1 last.2.2]) ∨
   (co = .exit 0∧last.2.1=0∧jq (live,g,es) last=none∧Bk W (w.heap.size+3) #[.bool live,.int .u32 g,v]∧W.ownsRow (w.heap.size+6) 89 33 v es.length (aZ SK es)∧Bk W (w.heap.size+1) #[.bool false,.int .u32 0,.slice none 0 0]∧Bk W (w.heap.size+2) #[.nilIface])))∧Below w.heap.size w W)
  ?own ?ownx ?start (fun x a' W=>∃ Bx,w.heap.size+6≤Bx∧Bk W Bx (av x.1)∧a'={ tmps:=#[.pointer (some ⟨p.B,0,none⟩),.agg #[.int .i64 s,.int .i64 len],undef,.pointer (some ⟨w.heap.size,0,none⟩),.pointer (some ⟨w.heap.size+1,0,none⟩),.pointer (some ⟨w.heap.size+2,0,none⟩),.pointer (some ⟨w.heap.size+3,0,none⟩),.pointer (some ⟨Bx,0,none⟩),fg x.2.1 x.2.2,undef,undef,undef,undef,undef,.pointer (some ⟨p.B,0,none⟩),.agg #[.int .i64 s,.int .i64 len],.func (.func 205) #[] #[.pointer (some ⟨w.heap.size+5,0,none⟩),.pointer (some ⟨w.heap.size+4,0,none⟩)],.agg (av x.1),fg x.2.1 x.2.2,undef,undef,undef,undef,undef,undef,undef,undef,undef,undef,undef,undef,undef,undef,undef,undef,undef,undef,undef,undef,undef,undef,undef,undef,undef,undef,undef,undef,undef,undef,undef,undef,undef,undef,undef,undef,undef,undef],defers:=[] }) ?ownax ?assign ?body ?done ?stop
 case seq =>
  intro l J Jx W hW hJ _ hY h0;exact vO 4 dc l (w.heap.size+5) (w.heap.size+4) p base N m D s len w HA.o HD.o hm hN hs hl om om J Jx (fun pre A B h hb=>hJ pre A B none h (gp hb) (fun r e=>by cases e)) hY W (bt hbel hW) ((hW.block _ om).trans cS) ((hW.block _ om).trans cD) h0
 case own =>
  rintro pre X Y row ⟨⟨live,g,es,v,h1,h2,h3⟩,h4,h5,h6,h7⟩ hg hr;have hc:=fun r e=>(hr r e).2;exact⟨⟨live,g,es,v,h1,eh h2 hg hc,m7 h3 hg hc⟩,eh h4 hg hc,eh h5 hg hc,h6.grown hg om (fun r e=>by have:=(hr r e).1;omega),Nat.le_trans h7 hg.size⟩
 case ownx =>
  rintro co pre X Y row ⟨⟨ini,last,e,live,g,es,v,h1,h⟩,h6⟩ hg hr;have hc:=fun r e=>(hr r e).2;refine⟨⟨ini,last,e,live,g,es,v,h1,?_⟩,h6.grown hg h6.size (fun r e=>by have:=(hr r e).1;omega)⟩
  rcases h with ⟨a1,a2,a3,a4⟩ | ⟨a1,a2,a3,a4,a5,a6,a7⟩
  ·exact .inl ⟨a1,a2,eh a3 hg hc,eh a4 hg hc⟩
  ·exact .inr ⟨a1,a2,a3,eh a4 hg hc,m7 a5 hg hc,eh a6 hg hc,eh a7 hg hc⟩
 case start=>exact⟨⟨false,0,[],_,rfl,k3,World.ownsRow_nil _ _ _ _⟩,k1,k2,hbel,om⟩
 case ownax =>
  rintro x a' _ X Y row ⟨Bx,h1,h2,h3⟩ hg hr;exact⟨Bx,h1,eh h2 hg (fun r e=>(hr r e).2),h3⟩
 case assign =>
  rintro l pre ⟨x,c,k⟩ W K hI hK;simp only[PY]
  gi_wp2
  have hbA:=ba (.cells (av x) 201) (Sy W);obtain⟨⟨live,g,es,v,h1,h2,h3⟩,h4,h5,h6,h7⟩:=hI;refine hK _ _ ((KeepsOthers.alloc _ _).from _) ⟨hbA.mono h6.size,fun b cs t f _ e=>(hbA.block b (Array.getElem?_eq_some_iff.1 e).1).trans e⟩ ⟨⟨live,g,es,v,h1,h2.below hbA,ah h3 hbA⟩,h4.below hbA,h5.below hbA,bt h6 hbA,Nat.le_trans h7 hbA.size⟩ ⟨W.heap.size,h7,Bk.new W _ _,rfl⟩
 case done =>
  rintro Dd ys W hDd ⟨k,hk,rfl,hor⟩ ⟨⟨live,g,es,v,h1,h2,h3⟩,h4,h5,h6,h7⟩ hDe;have hkl:k=len:=by
   rcases hor with h | h
   ·exact h
   ·exact absurd h (zf _ _ h1)
  subst hkl;have hR:=xV D s k _ h1;have HR:=SM hR;clear hor h1 hR;obtain⟨ad',c',rfl,_⟩:=aG h3;have a0:=h2.cell 0 _ rfl;have a1:=h2.cell 1 _ rfl;have a2:=h2.cell 2 _ rfl;have f0:=h4.free 0;have f1:=h4.free 1;have f2:=h4.free 2;have b0:=h4.cell 0 _ rfl;have b1:=h4.cell 1 _ rfl;have b2:=h4.cell 2 _ rfl;have e0:=h5.free 0;have d0:=h5.cell 0 _ rfl;have n1:w.heap.size+1≠w.heap.size+2:=om;have n2:w.heap.size+1≠w.heap.size+3:=om
  gi_wp2
  have K4:=(Sx h4 (.bool live) (.int .u32 g) (.slice ad' es.length c')).other ⟨w.heap.size+2,0,none⟩ .nilIface (by show w.heap.size+2≠_;omega)
  have K5:=Sw (((h5.other ⟨w.heap.size+1,0,none⟩ (.bool live) (by show w.heap.size+1≠_;omega)).other ⟨w.heap.size+1,1,none⟩ (.int .u32 g) (by show w.heap.size+1≠_;omega)).other ⟨w.heap.size+1,2,none⟩ (.slice ad' es.length c') (by show w.heap.size+1≠_;omega)) .nilIface
  have K6:=(((h6.setCell (p:=⟨w.heap.size+1,0,none⟩) (by show _≤w.heap.size+1;omega) (.bool live)).setCell (p:=⟨w.heap.size+1,1,none⟩) (by show _≤w.heap.size+1;omega) (.int .u32 g)).setCell (p:=⟨w.heap.size+1,2,none⟩) (by show _≤w.heap.size+1;omega) (.slice ad' es.length c')).setCell (p:=⟨w.heap.size+2,0,none⟩) (by show _≤w.heap.size+2;omega) .nilIface
  have K3:=bu (w':=(((W.setCell ⟨w.heap.size+1,0,none⟩ (.bool live)).setCell ⟨w.heap.size+1,1,none⟩ (.int .u32 g)).setCell ⟨w.heap.size+1,2,none⟩ (.slice ad' es.length c')).setCell ⟨w.heap.size+2,0,none⟩ .nilIface) h3 (fun gg hgg hlt=>by
   have:=(h3.lt gg hgg).1;rw[Below.heap_setCell _ _ _ _ (by show gg≠w.heap.size+2;omega),Below.heap_setCell _ _ _ _ (by show gg≠w.heap.size+1;omega),Below.heap_setCell _ _ _ _ (by show gg≠w.heap.size+1;omega),Below.heap_setCell _ _ _ _ (by show gg≠w.heap.size+1;omega)])
  rw[HR.o];exact qV w _ Dd (w.heap.size+6) _ rfl rfl ((live,g,es),0) _ _ 0 rfl (QY hDe _ _ _ _ _ _ _ _) om K4 K5 K3 om K6
 case stop =>
  rintro Dd co pre W hDd ⟨k,hk,rfl⟩ ⟨⟨ini,last,e,live,g,es,v,h1,h⟩,h6⟩ hDe
  rcases h with ⟨rfl,hc,k1',k2'⟩ | ⟨rfl,hc,hg,h2,h3,h4,h5⟩
  ·have hR:=Io D s len k hk ini last _ e h1 hc
   gi_wp2
   rw[hR];exact qV w W Dd (w.heap.size+6) _ rfl rfl ((false,0,[]),last.2.1) _ _ last.2.2 rfl hDe om k1' k2' (World.ownsRow_nil _ _ _ _) om h6
  ·have hR:=tw D s len k hk ini last _ e h1 hc hg;have HR:=SM hR;clear h1 hR hg e;obtain⟨ad',c',rfl,_⟩:=aG h3;have a0:=h2.cell 0 _ rfl;have a1:=h2.cell 1 _ rfl;have a2:=h2.cell 2 _ rfl;have f0:=h4.free 0;have f1:=h4.free 1;have f2:=h4.free 2;have b0:=h4.cell 0 _ rfl;have b1:=h4.cell 1 _ rfl;have b2:=h4.cell 2 _ rfl;have e0:=h5.free 0;have d0:=h5.cell 0 _ rfl;have n1:w.heap.size+1≠w.heap.size+2:=om
   have n2:w.heap.size+1≠w.heap.size+3:=om
   gi_wp2
   have K4:=(Sx h4 (.bool live) (.int .u32 g) (.slice ad' es.length c')).other ⟨w.heap.size+2,0,none⟩ .nilIface (by show w.heap.size+2≠_;omega)
   have K5:=Sw (((h5.other ⟨w.heap.size+1,0,none⟩ (.bool live) (by show w.heap.size+1≠_;omega)).other ⟨w.heap.size+1,1,none⟩ (.int .u32 g) (by show w.heap.size+1≠_;omega)).other ⟨w.heap.size+1,2,none⟩ (.slice ad' es.length c') (by show w.heap.size+1≠_;omega)) .nilIface
   have K6:=(((h6.setCell (p:=⟨w.heap.size+1,0,none⟩) (by show _≤w.heap.size+1;omega) (.bool live)).setCell (p:=⟨w.heap.size+1,1,none⟩) (by show _≤w.heap.size+1;omega) (.int .u32 g)).setCell (p:=⟨w.heap.size+1,2,none⟩) (by show _≤w.heap.size+1;omega) (.slice ad' es.length c')).setCell (p:=⟨w.heap.size+2,0,none⟩) (by show _≤w.heap.size+2;omega) .nilIface
   have K3:=bu (w':=(((W.setCell ⟨w.heap.size+1,0,none⟩ (.bool live)).setCell ⟨w.heap.size+1,1,none⟩ (.int .u32 g)).setCell ⟨w.heap.size+1,2,none⟩ (.slice ad' es.length c')).setCell ⟨w.heap.size+2,0,none⟩ .nilIface) h3 (fun gg hgg hlt=>by
    have:=(h3.lt gg hgg).1;rw[Below.heap_setCell _ _ _ _ (by show gg≠w.heap.size+2;omega),Below.heap_setCell _ _ _ _ (by show gg≠w.heap.size+1;omega),Below.heap_setCell _ _ _ _ (by show gg≠w.heap.size+1;omega),Below.heap_setCell _ _ _ _ (by show gg≠w.heap.size+1;omega)])
   rw[HR.o];exact qV w _ Dd (w.heap.size+6) _ rfl rfl ((live,g,es),0) _ _ 0 rfl (QY hDe _ _ _ _ _ _ _ _) om K4 K5 K3 om K6
 case body =>
  rintro l pre ⟨x,c,k⟩ a' W hlw hrec hI ⟨Bx,hBx,bX,rfl⟩ hpl;obtain⟨⟨live,g,es,v,h1,h2,h3⟩,h4,h5,h6,h7⟩:=hI;simp only at bX ⊢;have H1:=SM h1;have H2:=SM h2;have H3:=SM h3;have H4:=SM h4;have H5:=SM h5;have H6:=SM h6;have HX:=SM bX;have n1:w.heap.size+1≠w.heap.size+2:=om;have a40:=h4.free 0;have a41:=h4.free 1;have a42:=h4.free 2;have b40:=h4.cell 0 _ rfl;have b41:=h4.cell 1 _ rfl;have b42:=h4.cell 2 _ rfl
  have a50:=h5.free 0;have b50:=h5.cell 0 _ rfl;clear h1 h2 h3 h4 h5 h6 bX
  by_cases hc:c=0
  case neg =>
   obtain⟨T,u,he⟩:=cG (k:=k) hc;rw[he];have Hhe:=SM he;clear he
   gi_wp2
   refine⟨((((KeepsOthers.setCell _ _ _).trans (KeepsOthers.setCell _ _ _)).trans (KeepsOthers.setCell _ _ _)).trans (KeepsOthers.setCell _ _ _)).from _,⟨pre,(x,c,k),rfl,live,g,es,v,H1.o,.inl ⟨rfl,hc,?_,?_⟩⟩,?_⟩
   ·exact (((H4.o.set 0 dc (.bool false)).set 1 sm (.int .u32 0)).set 2 sm (.slice none 0 0)).other ⟨w.heap.size+2,0,none⟩ (.iface T u) (by show w.heap.size+2≠_;omega)
   ·have hq:=(((H5.o.other ⟨w.heap.size+1,0,none⟩ (.bool false) (by show w.heap.size+1≠_;omega)).other ⟨w.heap.size+1,1,none⟩ (.int .u32 0) (by show w.heap.size+1≠_;omega)).other ⟨w.heap.size+1,2,none⟩ (.slice none 0 0) (by show w.heap.size+1≠_;omega)).set 0 dc (.iface T u)
    rw[Hhe.o];exact hq
   ·exact (((H6.o.setCell (p:=⟨w.heap.size+1,0,none⟩) (by show _≤w.heap.size+1;omega) _).setCell (p:=⟨w.heap.size+1,1,none⟩) (by show _≤w.heap.size+1;omega) _).setCell (p:=⟨w.heap.size+1,2,none⟩) (by show _≤w.heap.size+1;omega) _).setCell (p:=⟨w.heap.size+2,0,none⟩) (by show _≤w.heap.size+2;omega) _
  subst hc;rw[dM];clear a40 a41 a42 b40 b41 b42 a50 b50 n1;have a0:=H2.o.cell 0 _ rfl;have a1:=H2.o.cell 1 _ rfl;have a2:=H2.o.cell 2 _ rfl;have f0:=H2.o.free 0;have f1:=H2.o.free 1;have f2:=H2.o.free 2;have qx:=HX.o.r;rw[cU] at qx;have hz:=H6.o.size;cases live with
  | false =>
   gi_wp2
   refine⟨trivial,(CallsIn.inRound l (callsIn_wide.2 (Cj x W))).mono ?_⟩;rintro _ W1 ⟨rfl,hb1⟩;have hk1:KeepsFrom W0.heap.size W W1:=(KeepsOthers.of_grownBy (gp hb1) (fun j o e=>by cases e)).from _
   have H2':=SM (H2.o.below hb1);have H3':=SM (ah H3.o hb1);have H4':=SM (H4.o.below hb1);have H5':=SM (H5.o.below hb1);have H6':=SM (bt H6.o hb1);have hz1:=hb1.size;have Hb1:=SM hb1;clear H2 H3 H4 H5 H6 a0 a1 a2 f0 f1 f2 hb1 qx HX;have a0:=H2'.o.cell 0 _ rfl;have a1:=H2'.o.cell 1 _ rfl;have f0:=H2'.o.free 0;have f1:=H2'.o.free 1;cases hok:Tb x with
   | false =>
    have Hok:=SM hok;clear hok
    gi_wp2
    exact⟨hk1,⟨pre,(x,0,k),rfl,false,g,es,v,H1.o,.inr ⟨rfl,rfl,by simp[jq,Hok.o],H2'.o,H3'.o,H4'.o,H5'.o⟩⟩,H6'.o⟩
   | true =>
    have Hok:=SM hok;clear hok
    gi_wp2
    refine⟨hk1.trans (((KeepsOthers.setCell _ _ _).trans (KeepsOthers.setCell _ _ _)).from _),⟨(Hb1.o.mono hz).trans (((Below.refl w.heap.size W1).setCell (p:=⟨w.heap.size+3,0,none⟩) (by show _≤w.heap.size+3;omega) _).setCell (p:=⟨w.heap.size+3,1,none⟩) (by show _≤w.heap.size+3;omega) _),fun b cs t f hb e=>?_⟩,?_⟩
    ·have hbn:b≠w.heap.size+3:=om;rw[Below.heap_setCell _ _ _ _ (by simpa using hbn),Below.heap_setCell _ _ _ _ (by simpa using hbn),Hb1.o.block b (Array.getElem?_eq_some_iff.1 e).1]
     exact e
    ·refine⟨⟨true,ej x,es,v,?_,(H2'.o.set 0 sm (.bool true)).set 1 sm (.int .u32 (ej x:Nat)),?_⟩,?_,?_,?_,?_⟩
     ·rw[iZ,H1.o];simp[fQ,jq,Hok.o]
     ·exact bu H3'.o (fun gg hg hlt=>by
       have:=(H3'.o.lt gg hg).1;rw[Below.heap_setCell _ _ _ _ (by show gg≠w.heap.size+3;omega),Below.heap_setCell _ _ _ _ (by show gg≠w.heap.size+3;omega)])
     ·exact (H4'.o.other ⟨w.heap.size+3,0,none⟩ _ (by show w.heap.size+3≠_;omega)).other ⟨w.heap.size+3,1,none⟩ _ (by show w.heap.size+3≠_;omega)
     ·exact (H5'.o.other ⟨w.heap.size+3,0,none⟩ _ (by show w.heap.size+3≠_;omega)).other ⟨w.heap.size+3,1,none⟩ _ (by show w.heap.size+3≠_;omega)
     ·exact (H6'.o.setCell (p:=⟨w.heap.size+3,0,none⟩) (by show _≤w.heap.size+3;omega) _).setCell (p:=⟨w.heap.size+3,1,none⟩) (by show _≤w.heap.size+3;omega) _
     ·simpa using Nat.le_trans h7 hz1
  | true =>
   gi_wp2
   refine⟨trivial,(CallsIn.inRound l (callsIn_wide.2 (uS x W))).mono ?_⟩;rintro e W1 ⟨hpe,hb1⟩;have hk1:KeepsFrom W0.heap.size W W1:=(KeepsOthers.of_grownBy (gp hb1) (fun j o e=>by cases e)).from _
   have H2':=SM (H2.o.below hb1);have H3':=SM (ah H3.o hb1);have H4':=SM (H4.o.below hb1);have H5':=SM (H5.o.below hb1);have H6':=SM (bt H6.o hb1);have hz1:=hb1.size;have Hb1:=SM hb1;clear H2 H3 H4 H5 H6 a0 a1 a2 f0 f1 f2 hb1 qx HX;cases hok:S9 x with
   | false =>
    have Hok:=SM hok;unfold ux at hpe;rw[if_neg (by rw[hok];decide)] at hpe
    subst hpe;clear hok
    gi_wp2
    have hb2:=ba (.cells (ev kZ 0) 89) (Sy W1);exact⟨hk1.trans ((KeepsOthers.alloc _ _).from _),⟨pre,(x,0,k),rfl,true,g,es,v,H1.o,.inr ⟨rfl,rfl,by simp[jq,Hok.o],H2'.o.below hb2,ah H3'.o hb2,H4'.o.below hb2,H5'.o.below hb2⟩⟩,bt H6'.o hb2⟩
   | true =>
    have Hok:=SM hok;unfold ux at hpe;rw[if_pos hok] at hpe;subst hpe;clear hok;have hb2:=ba (.cells (ev (ei x) (dF x:Nat)) 89) (Sy W1);have q2:=lx W1 (ei x) (dF x:Nat);have hk2:=hk1.trans ((KeepsOthers.alloc W1 (.cells (ev (ei x) (dF x:Nat)) 89)).from W0.heap.size)
    have Hb2:=SM (bt Hb1.o hb2);have J2:=SM (H2'.o.below hb2);have J3:=SM (ah H3'.o hb2);have J4:=SM (H4'.o.below hb2);have J5:=SM (H5'.o.below hb2);have J6:=SM (bt H6'.o hb2);have hs2:(W1.alloc (.cells (ev (ei x) (dF x:Nat)) 89)).heap.size=W1.heap.size+1:=sm;clear H2' H3' H4' H5' H6' Hb1 hk1 hb2;have a1:=J2.o.cell 1 _ rfl;have a2:=J2.o.cell 2 _ rfl;have f2:=J2.o.free 2
    by_cases htg:aX x=g
    case neg =>
     have hne:((aX x:Int) != (g:Int))=true:=bne_iff_ne.2 om;have Htg:=SM htg;clear htg
     gi_wp2
     exact⟨hk2,⟨pre,(x,0,k),rfl,true,g,es,v,H1.o,.inr ⟨rfl,rfl,by simp[jq,Htg.o],J2.o,J3.o,J4.o,J5.o⟩⟩,J6.o⟩
    have hne:((aX x:Int) != (g:Int))=false:=by rw[htg];simp
    have Htg:=SM htg;clear htg;have hlen:es.length≤5000:=by have:=Gc _ _ _ H1.o;simp at this;omega
    obtain⟨i0,hi,hz0,hsz0,hby⟩:=info_parts tU;have hb3:=ba (.cells (ev (ei x) (dF x:Nat)) 89) (Below.refl (W1.alloc (.cells (ev (ei x) (dF x:Nat)) 89)).heap.size (W1.alloc (.cells (ev (ei x) (dF x:Nat)) 89)));have J3':=SM (ah J3.o hb3);have Jb:=SM hb3;have hsrc:∀ j u,(ev (ei x) (dF x:Nat)).toList[j]? = some u→((W1.alloc (.cells (ev (ei x) (dF x:Nat)) 89)).alloc (.cells (ev (ei x) (dF x:Nat)) 89)).cell? ((⟨W1.heap.size+1,0,none⟩ : Addr).add j)=some u:=by
     refine fv (n:=33) ?_;have:=lx (W1.alloc (.cells (ev (ei x) (dF x:Nat)) 89)) (ei x) (dF x:Nat)
     rwa [hs2] at this
    have Hsrc:=SM hsrc;clear hsrc hb3 f2
    gi_wp2_with (gi_at_builtin;refine wpListIn_append_own _ rfl _ _ 50 rfl (w.heap.size+6) 89 i0 _ 33 40 underlying50 hi hz0 hsz0 hby (by simp[Value.cells]) dc _ es.length _ rfl J3'.o ⟨W1.heap.size+1,0,none⟩ 1 1 (ev (ei x) (dF x:Nat)).toList rfl ?c1 Hsrc.o ?c3 ?c4 ?c5 ?c6 ?_)
    case c1=>simp
    case c3=>intro u hu;exact xo _ _ u (Array.mem_toList_iff.1 hu)
    case c4=>simp only[maxLen];omega
    case c5=>omega
    case c6=>simp;omega
    intro v' W4 hown hgr hnil;obtain⟨ad',c',rfl,_⟩:=aG hown;have hb34:=Jb.o;have K2:=J2.o.below hb34;have K4:=J4.o.below hb34;have K5:=J5.o.below hb34;have hvr:∀ r,v.ownBlock=some r→w.heap.size+6≤r:=fun r e=>(J3'.o.lt r e).1;have L2:=SM (K2.same (hgr.block _ K2.lt (fun e=>by have:=hvr _ e.symm;omega)))
    have L4:=SM (K4.same (hgr.block _ K4.lt (fun e=>by have:=hvr _ e.symm;omega)))
    have L5:=SM (K5.same (hgr.block _ K5.lt (fun e=>by have:=hvr _ e.symm;omega)))
    have hbg:Below (w.heap.size+6) _ W4:=(Below.refl (w.heap.size+6) _).grown hgr sO hvr;have L6:=SM ((bt J6.o hb34).trans (hbg.mono om));have L3:Hd (W4.ownsRow (w.heap.size+6) 89 33 (.slice ad' (es ++ [(ei x,dF x)]).length c') (es ++ [(ei x,dF x)]).length (aZ SK (es ++ [(ei x,dF x)]))):=by
     show World.ownsRow _ _ _ _ _ _ _
     rw[iB,List.length_append];exact hown
    have hk4:KeepsFrom W0.heap.size W W4:=(hk2.trans ((KeepsOthers.alloc _ _).from _)).trans ((KeepsOthers.of_grownBy hgr (fun j o e ho=>by
     rcases J3'.o.2 with ⟨rfl,_⟩ | ⟨g1,c1,u1,rfl,_,a1,_⟩
     ·cases e
     simp only[Value.ownBlock] at e;cases e;rw[a1] at ho;cases ho;rfl)).from _)
    have hkp:RY w.heap.size (w.heap.size+5) (w.heap.size+4) W W4:=⟨((Hb2.o.trans (hb34.mono (by have:=Hb2.o.size;omega))).mono hz).trans (hbg.mono om),fun b cs t f hb e=>by
     have h1:=(Hb2.o.block b (Array.getElem?_eq_some_iff.1 e).1).trans e;have h2:=(hb34.block b (Array.getElem?_eq_some_iff.1 h1).1).trans h1;exact (hbg.block b om).trans h2⟩
    have hsz4:w.heap.size+6≤W4.heap.size:=by have:=hgr.size;simp at this;omega
    have HK:=SM (And.intro hk4 (And.intro hkp hsz4));clear hown hgr hnil hb34 K2 K4 K5 hvr hbg hk4 hkp hk2 a1 a2 J2 J3 J4 J5 J6 Jb J3' Hsrc q2 Hb2;have f2:=L2.o.free 2;have a2:=L2.o.cell 2 _ rfl
    gi_wp2
    refine⟨HK.o.1.trans ((KeepsOthers.setCell _ _ _).from _),⟨HK.o.2.1.1.setCell (p:=⟨w.heap.size+3,2,none⟩) (by show _≤w.heap.size+3;omega) _,fun b cs t f hb e=>?_⟩,?_⟩
    ·rw[Below.heap_setCell _ _ _ _ (by show b≠w.heap.size+3;omega)]
     exact HK.o.2.1.2 b cs t f hb e
    ·refine⟨⟨true,g,es ++ [(ei x,dF x)],.slice ad' (es ++ [(ei x,dF x)]).length c',?_,?_,?_⟩,?_,?_,?_,?_⟩
     ·rw[iZ,H1.o];simp[fQ,jq,Hok.o,Htg.o]
     ·have:=L2.o.set 2 sm (.slice ad' (es ++ [(ei x,dF x)]).length c')
      simpa using this
     ·have:=bu (w':=W4.setCell ⟨w.heap.size+3,2,none⟩ (.slice ad' (es ++ [(ei x,dF x)]).length c')) L3.o (fun gg hg hlt=>by
       have:=(L3.o.lt gg hg).1;rw[Below.heap_setCell _ _ _ _ (by show gg≠w.heap.size+3;omega)])
      simpa using this
     ·exact L4.o.other ⟨w.heap.size+3,2,none⟩ _ (by show w.heap.size+3≠_;omega)
     ·exact L5.o.other ⟨w.heap.size+3,2,none⟩ _ (by show w.heap.size+3≠_;omega)
     ·exact L6.o.setCell (p:=⟨w.heap.size+3,2,none⟩) (by show _≤w.heap.size+3;omega) _
     ·simpa using HK.o.2.2
theorem Im(p:DP)(base N m:Nat)(D:DM)(s:Int)(len:Nat)(w:World)(hA:RM w base p N D)(hD:R0 D N m)(hm:m≤100000)(hN:N≤5000)(hs:0≤s∧s≤5000)(hl:len≤5000):
  Calls prog 123 #[.pointer (some ⟨p.B,0,none⟩),.agg #[.int .i64 s,.int .i64 len]] w fun e W=>Kg (dh D s len) w.heap.size e W∧Below w.heap.size w W :=
 callsIn_wide.1 (Mi p base N m D s len w hA hD hm hN hs hl)
end
section
structure LM where
 half:Nat
 side:Nat
 last:Nat
 gen:Nat
 count:Nat
 broken:Bool
def aR(half side:Nat):Nat:=if side=0 then 0 else half
def SX(B:Nat)(M:LM):Array Value:=#[.pointer (some ⟨B,0,none⟩),.int .i64 0,.int .i64 M.half,.int .i64 M.half,.int .i64 M.half,.int .i64 M.side,.int .u32 M.last,.int .u32 M.gen,.int .i64 M.count,.bool M.broken]
structure Fc (M:LM):Prop where
 h:M.half≤5000
 s:M.side≤1
 l:M.last < 4294967296
 g:M.gen < 4294967296
 c:M.count≤5000
section
variable {w:World} {l B:Nat} {M:LM}
theorem SR(h:Bk w l (SX B M)):w.cell? ⟨l,0,none⟩=some (.pointer (some ⟨B,0,none⟩)):=h.cell 0 _ rfl
theorem SS(h:Bk w l (SX B M)):w.cell? ⟨l,5,none⟩=some (.int .i64 M.side):=h.cell 5 _ rfl
theorem ST(h:Bk w l (SX B M)):w.cell? ⟨l,6,none⟩=some (.int .u32 M.last):=h.cell 6 _ rfl
theorem SU(h:Bk w l (SX B M)):w.cell? ⟨l,7,none⟩=some (.int .u32 M.gen):=h.cell 7 _ rfl
theorem SV(h:Bk w l (SX B M)):w.cell? ⟨l,8,none⟩=some (.int .i64 M.count):=h.cell 8 _ rfl
theorem SW(h:Bk w l (SX B M)):w.cell? ⟨l,9,none⟩=some (.bool M.broken):=h.cell 9 _ rfl
theorem PZ(h:Bk w l (SX B M))(s:Nat):Bk (w.setCell ⟨l,5,none⟩ (.int .i64 s)) l (SX B { M with side:=s }):=by have:=h.set 5 (by simp[SX]) (.int .i64 s);simpa [SX] using this
theorem Rp(h:Bk w l (SX B M))(s:Nat):Bk (w.setCell ⟨l,6,none⟩ (.int .u32 s)) l (SX B { M with last:=s }):=by have:=h.set 6 (by simp[SX]) (.int .u32 s);simpa [SX] using this
theorem P0(h:Bk w l (SX B M))(s:Nat):Bk (w.setCell ⟨l,7,none⟩ (.int .u32 s)) l (SX B { M with gen:=s }):=by have:=h.set 7 (by simp[SX]) (.int .u32 s);simpa [SX] using this
theorem P4(h:Bk w l (SX B M))(s:Nat):Bk (w.setCell ⟨l,8,none⟩ (.int .i64 s)) l (SX B { M with count:=s }):=by have:=h.set 8 (by simp[SX]) (.int .i64 s);simpa [SX] using this
theorem QZ(h:Bk w l (SX B M))(s:Bool):Bk (w.setCell ⟨l,9,none⟩ (.bool s)) l (SX B { M with broken:=s }):=by have:=h.set 9 (by simp[SX]) (.bool s);simpa [SX] using this
end
theorem yE(l B:Nat)(M:LM)(w:World)(h:Bk w l (SX B M)):
  Calls prog 150 #[.pointer (some ⟨l,0,none⟩)] w fun e w'=>e = .returned (.bool M.broken)∧w=w':=by
 have c9:=SW h;clear h
 go_in
 go_wp2
 go_ret
 exact⟨rfl,rfl⟩
theorem BZ(l B:Nat)(M:LM)(w:World)(h:Bk w l (SX B M)):
  Calls prog 151 #[.pointer (some ⟨l,0,none⟩)] w fun e w'=>e = .returned (.int .i64 M.count)∧w=w':=by
 have c8:=SV h;clear h
 go_in
 go_wp2
 go_ret
 exact⟨rfl,rfl⟩
theorem py{w:World}{l B:Nat}{M:LM}(h:Bk w l (SX B M))(hs:M.side≤1):w.cell? ⟨l,1+M.side * 2,none⟩=some (.int .i64 (aR M.half M.side:Nat))∧w.cell? ⟨l,1+M.side * 2+1,none⟩=some (.int .i64 M.half):=by
 have c1:=h.cell 1 _ rfl;have c2:=h.cell 2 _ rfl;have c3:=h.cell 3 _ rfl;have c4:=h.cell 4 _ rfl;have hs2:M.side=0∨M.side=1:=om
 rcases hs2 with h0 | h0
 ·rw[h0];exact⟨c1,c2⟩
 ·rw[h0];exact⟨c3,c4⟩
theorem CT(l B:Nat)(M:LM)(w:World)(h:Bk w l (SX B M))(hk:Fc M):
  Calls prog 152 #[.pointer (some ⟨l,0,none⟩)] w fun e w'=>e = .returned (.int .i64 (bp M.half))∧Below w.heap.size w w':=by
 have H:=SM h;have Hk:=SM hk;clear h hk
 go_in
 go_wp2_with fail
 have hz:=(Sy w).drew;replace H:=SM H.o.drew;refine yW (tk 0 9 (.run 9 (.take 10 .done))) (fun u=>Bk u l (SX B M)) H.o ?_;generalize w.drew=w at *;have i0:(0:Int)≤(M.side:Int):=om;have i1:(M.side:Int) < 2:=by have:=Hk.o.s;omega
 repeat((first|refine yO ?_|refine yM ?_|refine yF rfl rfl (fun w' hC'=>by have c5:=SS hC';obtain⟨s0,s1⟩:=py hC' Hk.o.s;go_simp;first|done|exact rfl) ?_);walk_nrm)
 refine yR ?_;refine (qP _ _ w om (by have:=Hk.o.h;omega)).mono ?_
 rintro _ w2 ⟨rfl,hb2⟩;refine kS (H.o.below hb2) ?_;walk_nrm
 repeat(refine yA ?_;walk_nrm)
 refine al ?_
 go_wp2
 go_ret
 exact⟨rfl,bt hz hb2⟩
def eA(M:LM)(c:Int):LM:={ M with broken:=M.broken || (decide (c=11) || decide (c=12)) }
theorem qH(l B:Nat)(M:LM)(c k:Int)(w:World)(h:Bk w l (SX B M)):
  Calls prog 78 #[.pointer (some ⟨l,0,none⟩),fg c k] w fun e w'=>e = .returned (fg c k)∧Bk w' l (SX B (eA M c))∧Kb (fun b=>b=l) w w':=by
 have H:=SM h;clear h;obtain⟨v,hv⟩:=eY (fg c k);rw[hv];have Hv:=SM hv;clear hv
 go_in
 go_wp2_with fail
 rw[← Hv.o];refine (jF c k w).mono ?_;rintro _ w1 ⟨rfl,hb1⟩;rw[Hv.o];have H1:=SM (H.o.below hb1);have f9:=H1.o.free 9;have c9:=SW H1.o
 by_cases h1:c=11
 ·subst h1;have e1:eA M 11={ M with broken:=true }:=by simp[eA]
  have E1:=SM e1;clear e1;have hk:=(Kb.of_below (X:=fun b=>b=l) hb1).cell1 ⟨l,9,none⟩ (.bool true) rfl;have h9:=QZ H1.o true
  go_wp2
  go_ret
  exact⟨rfl,by rw[E1.o];exact h9,hk⟩
 have d1:(c == 11)=false:=by simpa using h1
 by_cases h2:c=12
 ·subst h2;have e1:eA M 12={ M with broken:=true }:=by simp[eA]
  have E1:=SM e1;clear e1;have hk:=(Kb.of_below (X:=fun b=>b=l) hb1).cell1 ⟨l,9,none⟩ (.bool true) rfl;have h9:=QZ H1.o true
  go_wp2
  go_ret
  exact⟨rfl,by rw[E1.o];exact h9,hk⟩
 have d2:(c == 12)=false:=by simpa using h2
 have e1:eA M c=M:=by simp[eA,h1,h2]
 have E1:=SM e1;clear e1;have hk:=Kb.of_below (X:=fun b=>b=l) hb1;clear h1 h2 f9 c9
 go_wp2
 go_ret
 exact⟨rfl,by rw[E1.o];exact H1.o,hk⟩
end
section
def iv(w:World)(base:Nat)(p:DP)(n l:Nat)(D:DM)(M:LM)(w':World):Prop :=
 ∃ p',p'.B=p.B∧RM w' base p' n D∧Kb (fun b=>p.has b∨b=l) w w'∧(∀ b,p'.has b→p.has b∨w.heap.size≤b)∧Bk w' l (SX p.B M)
theorem Kb.wide{X Y:Nat→Prop}{a b:World}(h:Kb X a b)(hXY:∀ i,X i→Y i):Kb Y a b:=⟨h.os,h.tape,h.output,h.size,fun k hk hy=>h.block k hk (fun hx=>hy (hXY k hx))⟩
theorem iv.pre{w w1 w2:World}{base n l:Nat}{p:DP}{D:DM}{M:LM}(hb:Below w.heap.size w w1)(h:iv w1 base p n l D M w2):iv w base p n l D M w2:=by
 obtain⟨p',h1,h2,h3,h4,h5⟩:=h;exact⟨p',h1,h2,(Kb.of_below (X:=fun b=>p.has b∨b=l) hb).trans h3 (fun i hi=>.inl hi),fun b hb'=>by
  rcases h4 b hb' with h | h
  ·exact .inl h
  ·exact .inr (Nat.le_trans hb.size h),h5⟩
theorem bm.log{w w':World}{base n l:Nat}{p:DP}{D:DM}{M:LM}(h:bm w base p n D w')(hL:Bk w l (SX p.B M))(hl : ¬ p.has l):iv w base p n l D M w':=by
 obtain⟨p',h1,h2,h3,h4⟩:=h;exact⟨p',h1,h2,h3.wide (fun i hi=>.inl hi),h4,hL.same (h3.block l hL.lt hl)⟩
theorem iv.mod{w w1 w2:World}{base n l:Nat}{p:DP}{D:DM}{M M':LM}(h:iv w base p n l D M w1)(hk:Kb (fun b=>b=l) w1 w2)(hM:Bk w2 l (SX p.B M'))(hl : ¬ p.has l)(hlt:l < w.heap.size):iv w base p n l D M' w2:=by
 obtain⟨p',h1,h2,h3,h4,h5⟩:=h;have hn : ¬ p'.has l:=fun hh=>by
  rcases h4 l hh with h | h
  ·exact hl h
  ·omega
 exact⟨p',h1,h2.kb hk (fun b hb e=>hn (e ▸ hb)),h3.trans hk (fun i hi=>.inl (.inr hi)),h4,hM⟩
def appendL(D:DM)(M:LM)(d:RP)(x:Nat):DM × LM × Int :=
 if M.broken=true then (D,M,11) else
 if (putD D (aR M.half M.side:Nat) M.half ((M.count:Int)+1) M.gen d x).2=0 then ((putD D (aR M.half M.side:Nat) M.half ((M.count:Int)+1) M.gen d x).1,{ M with count:=M.count+1 },0)
 else ((putD D (aR M.half M.side:Nat) M.half ((M.count:Int)+1) M.gen d x).1,eA M (putD D (aR M.half M.side:Nat) M.half ((M.count:Int)+1) M.gen d x).2,(putD D (aR M.half M.side:Nat) M.half ((M.count:Int)+1) M.gen d x).2)
theorem mP(l:Nat)(p:DP)(base n m:Nat)(D:DM)(M:LM)(d:RP)(x:Nat)(w:World)(hL:Bk w l (SX p.B M))(hk:Fc M)(h:RM w base p n D)(hD:R0 D n m)(hm:m+4≤100000)(hn:n≤5000)(hbase:base≤w.heap.size)(hl : ¬ p.has l)(hx:x≤4611686018427387904):
  Calls prog 99 #[.pointer (some ⟨l,0,none⟩),.agg (ev d (x:Int))] w fun e w'=>(∃ k,e = .returned (fg (appendL D M d x).2.2 k))∧iv w base p n l (appendL D M d x).1 (appendL D M d x).2.1 w':=by
 have H:=SM h;have HD:=SM hD;have HL:=SM hL;have Hk:=SM hk;have Hl:=SM hl;clear h hD hL hk hl;obtain⟨R,hR⟩:=eY (appendL D M d x);rw[hR];have HR:=SM hR;clear hR;have hE:=lx w d (x:Int);have hb0:=ba (.cells (ev d (x:Int)) 89) (Sy w)
 go_in
 go_upto_region 1 with fail
 generalize w.alloc (.cells (ev d (x:Int)) 89)=w0 at *;have HL0:=SM (HL.o.below hb0);have c9:=SW HL0.o;have hlw:=HL.o.lt;obtain⟨br,hbr⟩:=eY M.broken;rw[hbr] at c9;cases br with
 | true =>
  have hRn:R=(D,M,11):=by rw[← HR.o];unfold appendL;rw[if_pos hbr]
  subst hRn;clear hbr
  go_wp2
  go_ret
  exact⟨⟨0,rfl⟩,(H.o.next hb0).log HL.o Hl.o⟩
 | false =>
  have hRn:R=if (putD D (aR M.half M.side:Nat) M.half ((M.count:Int)+1) M.gen d x).2=0 then ((putD D (aR M.half M.side:Nat) M.half ((M.count:Int)+1) M.gen d x).1,{ M with count:=M.count+1 },0)
   else ((putD D (aR M.half M.side:Nat) M.half ((M.count:Int)+1) M.gen d x).1,eA M (putD D (aR M.half M.side:Nat) M.half ((M.count:Int)+1) M.gen d x).2,(putD D (aR M.half M.side:Nat) M.half ((M.count:Int)+1) M.gen d x).2):=by
   rw[← HR.o];unfold appendL;rw[if_neg (by rw[hbr];decide)]
  have HRn:=SM hRn;clear hRn hbr HR
  go_wp2_with fail
  clear c9;have hS0:Bk w0.drew l (SX p.B M)∧readAt w0.drew w.heap.size 0 33=some (ev d (x:Int)):=⟨HL0.o.drew,hE⟩;refine yW (tk 0 23 (.run 23 (.take 24 .done))) (fun u=>Bk u l (SX p.B M)∧readAt u w.heap.size 0 33=some (ev d (x:Int))) hS0 ?_;have hb1:=hb0.drew;generalize w0.drew=w1 at *;clear hb0 HL0 hE;have i0:(0:Int)≤(M.side:Int):=om;have i1:(M.side:Int) < 2:=by have:=Hk.o.s;omega
  have wc:IntKind.i64.wrap ((M.count:Int)+1)=(M.count:Int)+1:=by rw[IntKind.wrap_i64];have:=Hk.o.c;omega
  repeat((first|refine yO ?_|refine yM ?_|refine yF rfl rfl (fun w' hC'=>by have c0:=SR hC'.1;have c5:=SS hC'.1;have c7:=SU hC'.1;have c8:=SV hC'.1;have cE:=hC'.2;obtain⟨s0,s1⟩:=py hC'.1 Hk.o.s;go_simp;first|done|exact rfl) ?_);walk_nrm)
  refine yR ?_;have hst:(0:Int)≤(aR M.half M.side:Nat)∧((aR M.half M.side:Nat):Int)≤5000:=by have:=Hk.o.h;unfold aR;split <;> omega
  have hbz:=hb1.size;refine (Lr p base n m D (aR M.half M.side:Nat) M.half ((M.count:Int)+1) M.gen d x w1 (H.o.below hb1) HD.o hm hn om hst (by have:=Hk.o.h;omega) (by have:=Hk.o.c;omega) Hk.o.g hx).mono ?_
  rintro _ w2 ⟨⟨kk,rfl⟩,hN⟩;obtain⟨D2,hD2⟩:=eY ((putD D (aR M.half M.side:Nat) M.half ((M.count:Int)+1) M.gen d x).1);obtain⟨c2,hc2⟩:=eY ((putD D (aR M.half M.side:Nat) M.half ((M.count:Int)+1) M.gen d x).2);rw[hD2,hc2] at HRn;rw[hD2] at hN;rw[hc2];clear hD2 hc2;have hnE : ¬ p.has w.heap.size:=fun hb=>by have:=H.o.has_lt _ hb;omega
  have hE2:readAt w2 w.heap.size 0 33=some (ev d (x:Int)):=by
   obtain⟨_,_,_,hk,_⟩:=hN;rw[← hS0.2];simp[readAt,hk.block w.heap.size (ac hS0.2) hnE]
  have HN:=SM ((hN.log hS0.1 Hl.o).pre hb1);have hL2:Bk w2 l (SX p.B M):=by obtain⟨_,_,_,_,_,h⟩:=HN.o;exact h
  refine kS ⟨hL2,hE2⟩ ?_;walk_nrm
  repeat(refine yA ?_;walk_nrm)
  refine al ?_;clear hN hE2 hS0
  by_cases h0:c2=0
  ·subst h0;have hRn:R=(D2,{ M with count:=M.count+1 },0):=by rw[HRn.o];rfl
   subst hRn;rw[dM];have c8:=SV hL2;have f8:=hL2.free 8;have h8:=P4 hL2 (M.count+1);rw[show ((M.count+1:Nat):Int)=(M.count:Int)+1 from rfl] at h8
   have hkm:=(Kb.refl (fun b=>b=l) w2).cell1 ⟨l,8,none⟩ (.int .i64 ((M.count:Int)+1)) rfl;have HN2:=SM (HN.o.mod hkm h8 Hl.o hlw);clear h8 hkm hL2
   go_wp2
   go_ret
   exact⟨⟨0,rfl⟩,HN2.o⟩
  ·have hRn:R=(D2,eA M c2,c2):=by rw[HRn.o,if_neg h0]
   subst hRn;have hno:=qH l p.B M c2 kk w2 hL2;obtain⟨T,u,he⟩:=cG (k:=kk) h0;rw[he] at hno ⊢;have Hhe:=SM he;clear he hL2
   go_wp2_with fail
   refine hno.mono ?_;rintro _ w3 ⟨rfl,hL3,hk3⟩;have HN2:=SM (HN.o.mod hk3 hL3 Hl.o hlw);clear hL3 hk3 hno
   go_wp2
   go_ret
   exact⟨⟨kk,congrArg Ending.returned Hhe.o.symm⟩,HN2.o⟩
end
end Go.Proofs.YtlcfaaodmickbaaGreatDoor
