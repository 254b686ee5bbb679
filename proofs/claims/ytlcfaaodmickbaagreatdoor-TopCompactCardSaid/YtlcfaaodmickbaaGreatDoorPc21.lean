/- Part 21 of the proof: texts merged and shortened by a program. No conditions. -/
import Derived.Test.YtlcfaaodmickbaaGreatDoorPc20
set_option linter.unusedSimpArgs false
set_option linter.unusedVariables false
set_option maxRecDepth 100000
set_option maxHeartbeats 8000000
namespace Go.Proofs.YtlcfaaodmickbaaGreatDoor
open Go.RowKit Go.Proofs.Tryz
section
def gs(L:List Sj)(i:Nat):Sj:=L.getD i cB
theorem Ek(x:Sj):(sl x).drop 60=[x[60],x[61],x[62],x[63]]:=by
 apply List.ext_getElem
 ·simp
 ·intro i h1 h2;simp only[List.length_cons,List.length_nil] at h2;obtain rfl | rfl | rfl | rfl:i=0∨i=1∨i=2∨i=3:=om
  all_goals simp[sl]
theorem rh(x:Sj):aX x=((x[60].toNat * 256+x[61].toNat) * 256+x[62].toNat) * 256+x[63].toNat:=by
 unfold aX;rw[Ek];simp[nb]
theorem ie(x y:Sj)(c:Int)(i:Nat)(hi:i < 64):(tear x y c)[i]=if (i:Int) < c then y[i] else x[i]:=by simp[tear]
theorem gN(x y:Sj)(c:Int)(h:64≤c):tear x y c=y:=by
 apply Vector.ext;intro i hi;rw[ie x y c i hi,if_pos om]
theorem Ez(x y:Sj)(c:Int)(h:c≤0):tear x y c=x:=by
 apply Vector.ext;intro i hi;rw[ie x y c i hi,if_neg om]
theorem lQ(x y:Sj)(c:Int)(hx:aX x < 256)(hy:aX y < 256):tear x y c=y∨aX (tear x y c)=aX x:=by
 by_cases h:64≤c
 ·exact .inl (gN x y c h)
 ·right
  have e:aX (tear x y c)=(((tear x y c)[60].toNat * 256+(tear x y c)[61].toNat) * 256+(tear x y c)[62].toNat) * 256+(tear x y c)[63].toNat:=rh _;rw[rh] at hx hy;rw[e,rh x,ie x y c 60 dc,ie x y c 61 dc,ie x y c 62 dc,ie x y c 63 dc];rw[if_neg (show ¬ ((63:Nat):Int) < c by omega)]
  split <;> split <;> split <;> omega
theorem jv(x y:Sj)(c:Int){T:Nat}(hT:T < 256)(hx:aX x≤T)(hy:aX y≤T):aX (tear x y c)≤T:=by
 rcases lQ x y c om om with h | h
 ·rw[h];exact hy
 ·rw[h];exact hx
theorem gj:aX cB=0:=by decide +kernel
theorem xL:Tb cB=false:=by decide +kernel
def Kd(x:Sj):Prop:=∃ c:Int,x=tear cB (dH 1 toll) c
theorem GU:Kd cB:=⟨0,(Ez _ _ _ (Int.le_refl _)).symm⟩
theorem EA(x y:Sj)(c d:Int):tear (tear x y c) y d=tear x y (max c d):=by
 apply Vector.ext;intro i hi
 rw[ie _ y d i hi,ie x y c i hi,ie x y _ i hi]
 by_cases h1:(i:Int) < d
 ·rw[if_pos h1,if_pos om]
 ·rw[if_neg h1]
  by_cases h2:(i:Int) < c
  ·rw[if_pos h2,if_pos om]
  ·rw[if_neg h2,if_neg om]
theorem Kd.tear{x:Sj}(h:Kd x)(c:Int):Kd (tear x (dH 1 toll) c):=by
 obtain⟨d,rfl⟩:=h;exact⟨max d c,EA _ _ _ _⟩
theorem Dx:∀ k:Fin 64,Tb (tear cB (dH 1 toll) (k.val:Int))=false:=by decide +kernel
theorem Kd.bad{x:Sj}(h:Kd x)(hn:x≠dH 1 toll):Tb x=false∧aX x=0:=by
 obtain⟨c,rfl⟩:=h
 by_cases h64:64≤c
 ·exact absurd (gN _ _ _ h64) hn
 ·refine⟨?_,?_⟩
  ·by_cases h0:c≤0
   ·rw[Ez _ _ _ h0];exact xL
   ·have:=Dx ⟨c.toNat,om⟩;rw[show ((⟨c.toNat,om⟩ : Fin 64).val:Int)=c by show (c.toNat:Int)=c;omega] at this
    exact this
  ·have h1:aX (dH 1 toll)=1:=nk dc dc
   rcases lQ cB (dH 1 toll) c (by rw[gj];decide) (by rw[h1];decide) with h | h
   ·exact absurd h hn
   ·rw[h,gj]
theorem kF(L:List Sj)(p:Int × Sj)(c:Int)(i:Nat):gs (dI L p c) i=if i=p.1.toNat∧i < L.length then tear (gs L i) p.2 c else gs L i:=by
 unfold gs dI;rw[List.getD_eq_getElem?_getD,List.getElem?_set]
 by_cases h:p.1.toNat=i
 ·subst h
  by_cases hl:p.1.toNat < L.length
  ·rw[if_pos rfl,if_pos hl,if_pos ⟨rfl,hl⟩];rfl
  ·rw[if_pos rfl,if_neg hl,if_neg (by intro hh;exact hl hh.2)]
   rw[List.getD_eq_getElem?_getD,List.getElem?_eq_none om]
 ·rw[if_neg h,if_neg (by intro hh;exact h hh.1.symm)]
  rw[List.getD_eq_getElem?_getD]
theorem OI(L:List Sj)(i:Nat)(h:L.length≤i):gs L i=cB:=by
 unfold gs;rw[List.getD_eq_getElem?_getD,List.getElem?_eq_none h];rfl
theorem oM(L:List Sj)(W V:List (Int × Sj))(C:Nat→Int):∀ k,k≤W.length→bC L (W ++ V) C k=bC L W C k
 | 0,_=>rfl
 | k+1,h=>by
  simp only[bC];rw[oM L W V C k om]
  congr 1
  rw[List.getD_eq_getElem?_getD,List.getD_eq_getElem?_getD,List.getElem?_append_left om]
theorem jm(L:List Sj)(W:List (Int × Sj))(q:Int × Sj)(C:Nat→Int):bC L (W ++ [q]) C (W ++ [q]).length=dI (bC L W C W.length) q (C W.length):=by
 rw[List.length_append]
 show dI (bC L (W ++ [q]) C W.length) _ _=_
 rw[oM L W [q] C W.length (Nat.le_refl _)]
 congr 1
 rw[List.getD_eq_getElem?_getD,List.getElem?_append_right (Nat.le_refl _),Nat.sub_self];rfl
theorem y4(L:List Sj)(C:Nat→Int){T:Nat}(hT:T < 256)(hL:∀ i,aX (gs L i)≤T)(W:List (Int × Sj)):(∀ q ∈ W,aX q.2≤T)→∀ i,aX (gs (bC L W C W.length) i)≤T:=by
 induction W using di with
 | h0=>intro _ i;exact hL i
 | h1 W q ih =>
  intro hW i;have h1:=ih (fun x hx=>hW x (List.mem_append_left _ hx)) i;rw[jm,kF]
  split
  ·exact jv _ _ _ hT h1 (hW q sm)
  ·exact h1
theorem uM(L:List Sj)(C:Nat→Int)(i:Nat)(W:List (Int × Sj)):(∀ q ∈ W,q.1.toNat≠i)→gs (bC L W C W.length) i=gs L i:=by
 induction W using di with
 | h0=>intro _;rfl
 | h1 W q ih =>
  intro hW;rw[jm,kF,if_neg (by intro hh;exact hW q sm hh.1.symm)]
  exact ih (fun x hx=>hW x (List.mem_append_left _ hx))
structure fB (half p G:Nat) (es:List RQ) (L:List Sj):Prop where
 sd:p < 2
 h:Tb (gs L (aR half p))=true
 t:aX (gs L (aR half p))=G
 len:es.length+1≤half
 e:∀ i (hi:i < es.length),S9 (gs L (aR half p+(i+1)))=true∧aX (gs L (aR half p+(i+1)))=G∧ei (gs L (aR half p+(i+1)))=es[i].1∧dF (gs L (aR half p+(i+1)))=es[i].2
 b:∀ i,es.length < i→i < half→aX (gs L (aR half p+i))≠G
 o:aX (gs L (aR half (1 - p))) < G
def pP(L:List Sj):Prop:=Kd (gs L 0)∧gs L 0≠dH 1 toll∧∀ i,0 < i→gs L i=cB
abbrev rt:=Option (Nat × Nat × List RQ)
def Ql(half:Nat)(L:List Sj):rt→Prop
 | none=>pP L
 | some (p,G,es)=>fB half p G es L
structure mj (half T:Nat) (pick:rt) (L:List Sj):Prop where
 t:∀ i,aX (gs L i)≤T
 l:2 * half≤L.length
 h1:1≤half
 k:Ql half L pick
theorem kX{half p i:Nat}(h1:1≤half)(hp:p < 2)(hi:i < half):∀ j,j < half→aR half p+i≠aR half (1 - p)+j:=by
 intro j hj;unfold aR;obtain rfl | rfl:p=0∨p=1:=om
 ·simp;omega
 ·simp;omega
theorem nF{half p i:Nat}(hp:p < 2)(hi:i < half){n:Nat}(hl:2 * half≤n):aR half p+i < n:=by
 unfold aR;split <;> omega
theorem fB.same{half p G:Nat}{es:List RQ}{L L':List Sj}(h:fB half p G es L)(h1:∀ i,i < half→gs L' (aR half p+i)=gs L (aR half p+i))(h2:aX (gs L' (aR half (1 - p))) < G):fB half p G es L':=by
 have h0:gs L' (aR half p)=gs L (aR half p):=h1 0 (by have:=h.len;omega)
 refine⟨h.sd,by rw[h0];exact h.h,by rw[h0];exact h.t,h.len,fun i hi=>?_,fun i hi hi2=>?_,h2⟩
 ·rw[h1 (i+1) (by have:=h.len;omega)];exact h.e i hi
 ·rw[h1 i hi2];exact h.b i hi hi2
theorem qm(g:Nat)(e:RQ)(hg:g < 4294967296)(hx:e.2≤4611686018427387904):S9 (il g e)=true∧aX (il g e)=g∧ei (il g e)=e.1∧dF (il g e)=e.2:=by
 have hl:(ry e.1 e.2).length≤54:=by rw[m8];decide
 have h1:Ta (il g e)=true:=Js hl;have h2:gq (il g e)=ry e.1 e.2:=DQ hl;have h3:dF (il g e)=e.2:=by
  unfold dF;rw[h2,ry,iY (rU _),GH];exact Nat.lt_of_le_of_lt hx dc
 refine⟨?_,nk hl hg,?_,h3⟩
 ·unfold S9;rw[h1,h2,h3,m8];simp[hx]
 ·unfold ei;rw[h2,ry,ri (rU _)]
  apply Vector.ext;intro i hi;simp[y7,dl,hi]
theorem Cu(g:Nat)(hg:g < 4294967296):Tb (dH g toll)=true∧aX (dH g toll)=g:=by
 have hl:toll.length≤54:=dc;refine⟨?_,nk hl hg⟩;unfold Tb;rw[Js hl,DQ hl];simp
theorem fB.put{half p G:Nat}{es:List RQ}{L:List Sj}(h:fB half p G es L){T:Nat}(hT:T < 256)(ht:∀ i,aX (gs L i)≤T)(hG:G≤T)(hl:2 * half≤L.length)(hr:es.length+1 < half)(e:RQ)(hx:e.2≤4611686018427387904)(k:Int)(hk:k.toNat=aR half p+(es.length+1))(c:Int):
  (fB half p G (es ++ [e]) (dI L (k,il G e) c)∨(c < 64∧fB half p G es (dI L (k,il G e) c)))∧∀ i,aX (gs (dI L (k,il G e) c) i)≤T:=by
 obtain⟨e1,e2,e3,e4⟩:=qm G e om hx;have hlt:aR half p+(es.length+1) < L.length:=nF h.sd hr hl;have hst:∀ i,gs (dI L (k,il G e) c) i=if i=aR half p+(es.length+1) then tear (gs L i) (il G e) c else gs L i:=fun i=>by
  rw[kF];simp only[hk]
  by_cases hi:i=aR half p+(es.length+1)
  ·rw[if_pos ⟨hi,om⟩,if_pos hi]
  ·rw[if_neg (by intro hh;exact hi hh.1),if_neg hi]
 have ho:gs (dI L (k,il G e) c) (aR half (1 - p))=gs L (aR half (1 - p)):=by
  rw[hst,if_neg];intro hh;exact kX (half:=half) (p:=p) (i:=es.length+1) om h.sd hr 0 om hh.symm
 refine⟨?_,fun i=>?_⟩
 ·rcases lQ (gs L (aR half p+(es.length+1))) (il G e) c (by have:=ht (aR half p+(es.length+1));omega) om with hh | hh
  ·left
   have h0:gs (dI L (k,il G e) c) (aR half p)=gs L (aR half p):=by rw[hst,if_neg om]
   refine⟨h.sd,by rw[h0];exact h.h,by rw[h0];exact h.t,sO,fun i hi=>?_,fun i hi hi2=>?_,by rw[ho];exact h.o⟩
   ·by_cases hi3:i < es.length
    ·rw[hst,if_neg om,List.getElem_append_left hi3];exact h.e i hi3
    ·simp at hi;obtain rfl:i=es.length:=om;rw[hst,if_pos rfl,hh];simp[e1,e2,e3,e4]
   ·simp at hi;rw[hst,if_neg om];exact h.b i om hi2
  ·by_cases hc:64≤c
   ·exfalso
    rw[gN _ _ _ hc,e2] at hh;exact h.b (es.length+1) om hr hh.symm
   ·right
    refine⟨om,h.sd,?_,?_,h.len,fun i hi=>?_,fun i hi hi2=>?_,by rw[ho];exact h.o⟩
    ·rw[hst,if_neg om];exact h.h
    ·rw[hst,if_neg om];exact h.t
    ·rw[hst,if_neg om];exact h.e i hi
    ·rw[hst]
     split
     ·rename_i hi3
      rw[hi3,hh];exact h.b _ om hr
     ·exact h.b i hi hi2
 ·rw[hst]
  split
  ·exact jv _ _ _ hT (ht i) om
  ·exact ht i
theorem fB.head{half p G:Nat}{es:List RQ}{L:List Sj}(h:fB half p G es L){T G':Nat}(hT:T < 256)(ht:∀ i,aX (gs L i)≤T)(hG:G < G')(hG':G'≤T)(hl:2 * half≤L.length)(N:List RQ)(hN:N.length+1≤half)(hx:∀ e ∈ N,e.2≤4611686018427387904)
  (hw:∀ i (hi:i < N.length),gs L (aR half (1 - p)+(i+1))=il G' N[i]) (hb:∀ i,N.length < i→i < half→aX (gs L (aR half (1 - p)+i))≠G') (k:Int) (hk:k.toNat=aR half (1 - p)) (c:Int) :
  (fB half (1 - p) G' N (dI L (k,dH G' toll) c)∨(c < 64∧fB half p G es (dI L (k,dH G' toll) c)))∧∀ i,aX (gs (dI L (k,dH G' toll) c) i)≤T:=by
 obtain⟨e1,e2⟩:=Cu G' om;have hp:=h.sd;have hq:1 - p < 2:=om;have hqq:1 - (1 - p)=p:=om;have hlt:aR half (1 - p)+0 < L.length:=nF hq om hl;have hst:∀ i,gs (dI L (k,dH G' toll) c) i=if i=aR half (1 - p) then tear (gs L i) (dH G' toll) c else gs L i:=fun i=>by
  rw[kF];simp only[hk]
  by_cases hi:i=aR half (1 - p)
  ·rw[if_pos ⟨hi,om⟩,if_pos hi]
  ·rw[if_neg (by intro hh;exact hi hh.1),if_neg hi]
 have hoth:∀ i,i < half→gs (dI L (k,dH G' toll) c) (aR half p+i)=gs L (aR half p+i):=fun i hi=>by
  rw[hst,if_neg];exact fun hh=>kX om hp hi 0 om hh
 refine⟨?_,fun i=>?_⟩
 ·rcases lQ (gs L (aR half (1 - p))) (dH G' toll) c (by have:=ht (aR half (1 - p));omega) om with hh | hh
  ·left
   refine⟨hq,?_,?_,hN,fun i hi=>?_,fun i hi hi2=>?_,?_⟩
   ·rw[hst,if_pos rfl,hh];exact e1
   ·rw[hst,if_pos rfl,hh];exact e2
   ·rw[hst,if_neg om,hw i hi];exact qm G' N[i] om (hx _ (List.getElem_mem _))
   ·rw[hst,if_neg om];exact hb i hi hi2
   ·rw[hqq];have:=hoth 0 om;rw[Nat.add_zero] at this;rw[this,h.t];exact hG
  ·have ho:=h.o
   by_cases hc:64≤c
   ·exfalso
    rw[gN _ _ _ hc,e2] at hh;omega
   ·right
    exact⟨om,h.same hoth (by rw[hst,if_pos rfl,hh];exact ho)⟩
 ·rw[hst]
  split
  ·exact jv _ _ _ hT (ht i) om
  ·exact ht i
def jo(s:Int)(g:Nat):Nat→List RQ→List (Int × Sj)
 | _,[]=>[]
 | i,e :: r=>(s+1+(i:Nat),il g e) :: jo s g (i+1) r
theorem mF(s:Int)(g:Nat):∀ (L:List RQ) (i:Nat) (q:Int × Sj),q ∈ jo s g i L→∃ j,∃ hj:j < L.length,q=(s+1+((i+j:Nat):Int),il g L[j])
 | [],_,q,h=>by cases h
 | e :: r,i,q,h=>by
  simp only[jo,List.mem_cons] at h
  rcases h with rfl | h
  ·exact⟨0,sm,rfl⟩
  ·obtain⟨j,hj,rfl⟩:=mF s g r (i+1) q h;exact⟨j+1,sO,sO⟩
theorem oQ(s:Int)(g:Nat):∀ (L:List RQ) (i:Nat) (e:RQ),jo s g i (L ++ [e])=jo s g i L ++ [(s+1+((i+L.length:Nat):Int),il g e)]
 | [],i,e=>by simp[jo]
 | a :: r,i,e=>by
  simp only[List.cons_append,jo,oQ s g r (i+1) e,List.length_cons];rw[show i+1+r.length=i+(r.length+1) by omega]
theorem Cn(L:List Sj)(s:Nat)(g:Nat)(N:List RQ):s+1+N.length≤L.length→∀ i (hi:i < N.length),gs (bC L (jo (s:Int) g 0 N) (fun _=>64) (jo (s:Int) g 0 N).length) (s+(i+1))=il g N[i]:=by
 induction N using di with
 | h0=>intro _ i hi;cases hi
 | h1 N e ih =>
  intro hl i hi;simp at hl hi;rw[oQ,jm,kF,bY];simp only[Nat.zero_add];have hk:((s:Int)+1+(N.length:Nat)).toNat=s+1+N.length:=om;rw[hk]
  by_cases hi2:i < N.length
  ·rw[if_neg om,List.getElem_append_left hi2];exact ih om i hi2
  ·obtain rfl:i=N.length:=om;rw[if_pos om,gN _ _ _ (Int.le_refl _)];simp
end
section
def Sr(D:DM)(W:List (Int × Sj))(R:DM × Int):Prop :=
 (R.2=0∧R.1.st=D.st∧R.1.op=D.op ++ W∧R.1.down=false∧R.1.plan=D.plan) ∨
 (R.2=11∧D.plan≠[]∧R.1.down=false∧R.1.plan=D.plan∧R.1.st=D.st∧∃ j,R.1.op=D.op ++ W.take j) ∨
 (R.2=12∧D.plan≠[]∧R.1.down=true∧R.1.plan=D.plan∧R.1.op=[]∧∃ j C,R.1.st=bC D.st (D.op ++ W.take j) C (D.op ++ W.take j).length)
def Sl(D:DM)(W:List (Int × Sj))(R:DM × Int):Prop :=
 (R.2=0∧R.1.st=bC D.st (D.op ++ W) (fun _=>64) (D.op ++ W).length∧R.1.op=[]∧R.1.down=false∧R.1.plan=D.plan) ∨
 (R.2=11∧D.plan≠[]∧R.1.down=false∧R.1.plan=D.plan∧R.1.st=D.st∧∃ j,R.1.op=D.op ++ W.take j) ∨
 (R.2=12∧D.plan≠[]∧R.1.down=true∧R.1.plan=D.plan∧R.1.op=[]∧∃ j C,R.1.st=bC D.st (D.op ++ W.take j) C (D.op ++ W.take j).length)
theorem nQ(D:DM)(k:Int)(x:Sj)(hd:D.down=false)(hk:kH D k=true):Sr D [(k,x)] (bE D k x):=by
 unfold bE;rw[if_neg (by rw[hd];decide)]
 have e:pU (cX D) k x={ cX D with op:=D.op ++ [(k,x)] }:=by unfold pU;rw[mJ,if_pos hk];rfl
 cases hc:SJ D.plan (D.steps+1) with
 | some cuts =>
  right;right
  have hp:D.plan≠[]:=by intro h;rw[h] at hc;cases hc
  refine⟨rfl,hp,rfl,?_,rfl,1,kx cuts,?_⟩
  ·simp[de]
  ·simp only[de,e];rfl
 | none =>
  simp only
  by_cases hf:SL D.plan (D.steps+1)=true
  ·right;left
   rw[if_pos hf];have hp:D.plan≠[]:=by intro h;rw[h] at hf;cases hf
   exact⟨rfl,hp,hd,rfl,rfl,0,sm⟩
  ·left;rw[if_neg hf,if_pos hk,e];exact⟨rfl,rfl,rfl,hd,rfl⟩
theorem yb(D:DM)(hd:D.down=false):Sl D [] (bz D):=by
 unfold bz;rw[if_neg (by rw[hd];decide)]
 cases hc:SJ D.plan (D.steps+1) with
 | some cuts =>
  right;right
  have hp:D.plan≠[]:=by intro h;rw[h] at hc;cases hc
  exact⟨rfl,hp,rfl,rfl,rfl,0,kx cuts,by simp[de]⟩
 | none =>
  simp only
  by_cases hf:SL D.plan (D.steps+1)=true
  ·right;left
   rw[if_pos hf];have hp:D.plan≠[]:=by intro h;rw[h] at hf;cases hf
   exact⟨rfl,hp,hd,rfl,rfl,0,sm⟩
  ·left;rw[if_neg hf];exact⟨rfl,by simp[oS],rfl,hd,rfl⟩
theorem Sr.sync{D:DM}{W:List (Int × Sj)}{R:DM × Int}(h:Sr D W R):Sl D W (if R.2=0 then bz R.1 else R):=by
 rcases h with ⟨h1,h2,h3,h4,h5⟩ | h | h
 ·rw[if_pos h1]
  rcases yb R.1 h4 with ⟨k1,k2,k3,k4,k5⟩ | ⟨k1,k2,k3,k4,k5,j,k6⟩ | ⟨k1,k2,k3,k4,k5,j,C,k6⟩
  ·rw[List.append_nil,h2,h3] at k2;exact .inl ⟨k1,k2,k3,k4,by rw[k5,h5]⟩
  ·rw[List.take_nil,List.append_nil,h3] at k6;exact .inr (.inl ⟨k1,by rw[← h5];exact k2,k3,by rw[k4,h5],by rw[k5,h2],W.length,by rw[List.take_length];exact k6⟩)
  ·rw[List.take_nil,List.append_nil,h2,h3] at k6;exact .inr (.inr ⟨k1,by rw[← h5];exact k2,k3,by rw[k4,h5],k5,W.length,C,by rw[List.take_length];exact k6⟩)
 ·rw[if_neg (by rw[h.1];decide)];exact .inr (.inl h)
 ·rw[if_neg (by rw[h.1];decide)];exact .inr (.inr h)
theorem sa(s:Nat)(g:Nat):∀ (L:List RQ) (i:Nat) (D:DM),D.down=false→s+1+i+L.length≤D.st.length→Sr D (jo (s:Int) g i L) (fillW (s:Int) g i L D)
 | [],i,D,hd,_=>by unfold fillW jo;exact .inl ⟨rfl,rfl,sm,hd,rfl⟩
 | e :: r,i,D,hd,hl=>by
  simp only[List.length_cons] at hl;have hk:kH D ((s:Int)+1+(i:Nat))=true:=by unfold kH;rw[Bool.and_eq_true,decide_eq_true_eq,decide_eq_true_eq];omega
  unfold fillW jo
  rcases nQ D ((s:Int)+1+(i:Nat)) (il g e) hd hk with ⟨h1,h2,h3,h4,h5⟩ | h | h
  ·rw[if_pos h1]
   rcases sa s g r (i+1) _ h4 (by rw[h2];omega) with ⟨k1,k2,k3,k4,k5⟩ | ⟨k1,k2,k3,k4,k5,j,k6⟩ | ⟨k1,k2,k3,k4,k5,j,C,k6⟩
   ·exact .inl ⟨k1,by rw[k2,h2],by rw[k3,h3,List.append_assoc];rfl,k4,by rw[k5,h5]⟩
   ·exact .inr (.inl ⟨k1,by rw[← h5];exact k2,k3,by rw[k4,h5],by rw[k5,h2],j+1,by rw[k6,h3,List.append_assoc];rfl⟩)
   ·exact .inr (.inr ⟨k1,by rw[← h5];exact k2,k3,by rw[k4,h5],k5,j+1,C,by rw[k6,h2,h3,List.append_assoc];rfl⟩)
  ·rw[if_neg (by rw[h.1];decide)]
   obtain⟨h1,h2,h3,h4,h5,j,h6⟩:=h;refine .inr (.inl ⟨h1,h2,h3,h4,h5,min j 1,?_⟩);rw[h6]
   rcases Nat.eq_zero_or_pos j with rfl | hj
   ·simp
   ·rw[Nat.min_eq_right hj,List.take_of_length_le sO];rfl
  ·rw[if_neg (by rw[h.1];decide)]
   obtain⟨h1,h2,h3,h4,h5,j,C,h6⟩:=h;refine .inr (.inr ⟨h1,h2,h3,h4,h5,min j 1,C,?_⟩);rw[h6]
   rcases Nat.eq_zero_or_pos j with rfl | hj
   ·simp
   ·rw[Nat.min_eq_right hj,List.take_of_length_le sO];rfl
def Cr(half T:Nat)(P:rt→Prop)(D:DM):Prop:=∀ C:Nat→Int,∃ pick,P pick∧mj half T pick (bC D.st D.op C D.op.length)
theorem Cr.nil{half T:Nat}{P:rt→Prop}{D:DM}(ho:D.op=[]){pick:rt}(hp:P pick)(h:mj half T pick D.st):Cr half T P D:=fun C=>⟨pick,hp,by rw[ho];exact h⟩
theorem Cr.same{half T:Nat}{P:rt→Prop}{D D':DM}(h:Cr half T P D)(h1:D'.st=D.st)(h2:D'.op=D.op):Cr half T P D':=fun C=>by rw[h1,h2];exact h C
theorem mj.more{half T T':Nat}{pick:rt}{L:List Sj}(h:mj half T pick L)(hT:T≤T'):mj half T' pick L:=⟨fun i=>Nat.le_trans (h.t i) hT,h.l,h.h1,h.k⟩
theorem Cr.more{half T T':Nat}{P Q:rt→Prop}{D:DM}(h:Cr half T P D)(hT:T≤T')(hPQ:∀ p,P p→Q p):Cr half T' Q D:=fun C=>by
 obtain⟨p,h1,h2⟩:=h C;exact⟨p,hPQ p h1,h2.more hT⟩
theorem Cr.crash{half T:Nat}{P:rt→Prop}{D:DM}(h:Cr half T P D)(cuts:List Int):Cr half T P (de D cuts):=by
 obtain⟨p,h1,h2⟩:=h (kx cuts);exact Cr.nil rfl h1 h2
theorem Sl.cr{half T:Nat}{P:rt→Prop}{D:DM}{W:List (Int × Sj)}{R:DM × Int}(h:Sl D W R)(ho:D.op=[])(H:∀ j C,∃ pick,P pick∧mj half T pick (bC D.st (W.take j) C (W.take j).length)):
  (R.2=0∧R.1.st=bC D.st W (fun _=>64) W.length∧R.1.op=[]∧R.1.down=false∧R.1.plan=D.plan) ∨
  (R.2=11∧D.plan≠[]∧R.1.down=false∧R.1.plan=D.plan∧Cr half T P R.1) ∨
  (R.2=12∧D.plan≠[]∧R.1.down=true∧R.1.plan=D.plan∧Cr half T P R.1):=by
 rcases h with ⟨h1,h2,h3,h4,h5⟩ | ⟨h1,h2,h3,h4,h5,j,h6⟩ | ⟨h1,h2,h3,h4,h5,j,C,h6⟩
 ·exact .inl ⟨h1,by rw[h2,ho,List.nil_append],h3,h4,h5⟩
 ·refine .inr (.inl ⟨h1,h2,h3,h4,fun C=>?_⟩);rw[h5,h6,ho,List.nil_append];exact H j C
 ·refine .inr (.inr ⟨h1,h2,h3,h4,?_⟩);rw[ho,List.nil_append] at h6;obtain⟨p,k1,k2⟩:=H j C;exact Cr.nil h5 k1 (by rw[h6];exact k2)
theorem Df{half T:Nat}{P:rt→Prop}{L:List Sj}{q:Int × Sj}(h0:∃ pick,P pick∧mj half T pick L)(h:∀ c,∃ pick,P pick∧mj half T pick (dI L q c)):
  ∀ j C,∃ pick,P pick∧mj half T pick (bC L ([q].take j) C ([q].take j).length):=fun j C=>by
 rcases Nat.eq_zero_or_pos j with rfl | hj
 ·exact h0
 ·rw[List.take_of_length_le sO];exact h (C 0)
theorem mE(D:DM)(s k:Nat)(hd:D.down=false)(ho:D.op=[])(hl:s+k < D.st.length):SI D (s:Int) k=(gs D.st (s+k),0,(s:Int)+(k:Nat)):=by
 have hk:kH D ((s:Int)+(k:Nat))=true:=by unfold kH;rw[Bool.and_eq_true,decide_eq_true_eq,decide_eq_true_eq];omega
 have e:eD D ((s:Int)+(k:Nat))=(gs D.st (s+k),0):=by
  unfold eD;rw[if_neg (by rw[hd];decide),if_neg (by rw[hk];decide),ho]
  show (D.st.getD ((s:Int)+(k:Nat)).toNat cB,(0:Int))=_
  rw[show ((s:Int)+(k:Nat)).toNat=s+k by omega];rfl
 unfold SI;rw[e]
theorem tR(D:DM)(s:Nat)(hd:D.down=false)(ho:D.op=[])(len:Nat)(hl:s+len≤D.st.length):∀ x ∈ Tn (SI D (s:Int)) len,x.2.1=0∧∃ k,k < len∧x.1=gs D.st (s+k):=by
 intro x hx;obtain⟨k,hk,rfl⟩:=List.mem_map.1 hx;rw[List.mem_range] at hk;rw[mE D s k hd ho om];exact⟨rfl,k,hk,rfl⟩
theorem xU:∀ (L:List SE) (st:Si),(∀ x ∈ L,x.2.1=0)→(gv st L).2=0∧(st.1=true→(gv st L).1.1=true∧(gv st L).1.2.1=st.2.1)
 | [],st,_=>⟨rfl,fun h=>⟨h,rfl⟩⟩
 | x :: r,st,h=>by
  rw[gv,if_pos (h x sm)];cases hg:jq st x with
  | none=>exact⟨rfl,fun h=>⟨h,rfl⟩⟩
  | some st' =>
   obtain⟨h1,h2⟩:=xU r st' (fun y hy=>h y (List.mem_cons_of_mem _ hy));refine⟨h1,fun hs=>?_⟩;unfold jq at hg;rw[if_neg (by rw[hs];decide)] at hg
   split at hg
   ·cases hg;exact h2 rfl
   ·cases hg
theorem Ed{half p G:Nat}{es:List RQ}(D:DM)(hd:D.down=false)(ho:D.op=[])(hl:2 * half≤D.st.length)(h:fB half p G es D.st):dh D ((aR half p:Nat):Int) half=((true,G,es),0):=by
 have hlen:=h.len;have hst:aR half p+half≤D.st.length:=by have:=@nF half p (half - 1) h.sd om _ hl;omega
 have hf:∀ i,i≤es.length→mI (Tn (SI D ((aR half p:Nat):Int)) (i+1))=some (true,G,es.take i):=by
  intro i
  induction i with
  | zero =>
   intro _;rw[eM,iZ,mE D _ 0 hd ho om];have e:mI (Tn (SI D ((aR half p:Nat):Int)) 0)=some (false,0,[]):=rfl;rw[e];have h1:ej (gs D.st (aR half p+0))=G:=by unfold ej;rw[Nat.add_zero,if_pos h.h];exact h.t
   have h2:=h.h;simp[fQ,jq,h2,h1];rw[Nat.add_zero] at h1;exact h1
  | succ i ih =>
   intro hi;rw[eM,iZ,ih om,mE D _ (i+1) hd ho om];obtain⟨k1,k2,k3,k4⟩:=h.e i om;have e:es.take (i+1)=es.take i ++ [es[i]]:=by rw[List.take_add_one,List.getElem?_eq_getElem om];rfl
   simp[fQ,jq,k1,k2,k3,k4];exact e.symm
 have hfin:=hf es.length (Nat.le_refl _);rw[List.take_length] at hfin
 by_cases hlast:es.length+1=half
 ·exact xV D _ half _ (by rw[hlast] at hfin;exact hfin)
 ·refine tw D _ half (es.length+2) om _ _ _ (eM _ (es.length+1)) hfin ?_ ?_
  ·rw[mE D _ _ hd ho om]
  ·rw[mE D _ _ hd ho om];have:=h.b (es.length+1) om om;simp[jq,this]
theorem jb{half:Nat}(s:Nat)(D:DM)(hd:D.down=false)(ho:D.op=[])(hl:s+half≤D.st.length)(h1:1≤half):
  (dh D (s:Int) half).2=0∧((dh D (s:Int) half).1.1=false∨((dh D (s:Int) half).1.2.1=aX (gs D.st s)∧Tb (gs D.st s)=true)):=by
 have hc:=tR D s hd ho half hl;obtain⟨m,rfl⟩ : ∃ m,half=m+1:=⟨half - 1,om⟩;unfold dh;have e:Tn (SI D (s:Int)) (m+1)=SI D (s:Int) 0 :: (Tn (SI D (s:Int)) (m+1)).drop 1:=by
  have:=rl (SI D (s:Int)) (m+1) 0 om;rw[List.drop_zero] at this;exact this
 have hx:=mE D s 0 hd ho om;rw[Nat.add_zero] at hx;have hr:∀ x ∈ (Tn (SI D (s:Int)) (m+1)).drop 1,x.2.1=0:=fun x hx=>(hc x (List.drop_subset _ _ hx)).1;rw[e,hx];generalize (Tn (SI D (s:Int)) (m+1)).drop 1=r at hr;rw[gv,if_pos rfl]
 by_cases hh:Tb (gs D.st s)=true
 ·have e2:jq (false,0,[]) (gs D.st s,0,(s:Int)+(0:Nat))=some (true,aX (gs D.st s),[]):=by simp[jq,hh,ej]
  rw[e2];obtain⟨k1,k2⟩:=xU r (true,aX (gs D.st s),[]) hr;exact⟨k1,.inr ⟨(k2 rfl).2,hh⟩⟩
 ·have e2:jq (false,0,[]) (gs D.st s,0,(s:Int)+(0:Nat))=none:=by simp[jq,hh]
  rw[e2];exact⟨rfl,.inl rfl⟩
theorem Cq{half p G:Nat}{es:List RQ}(D:DM)(M:LM)(hd:D.down=false)(ho:D.op=[])(hl:2 * half≤D.st.length)(hM:M.half=half)(h:fB half p G es D.st):
  dm D M 2 = .ok ({ M with side:=p,gen:=G,count:=es.length },true,es):=by
 have hs:=Ed D hd ho hl h;have h1:1≤half:=by have:=h.len;omega
 have hp:=h.sd;obtain rfl | rfl:p=0∨p=1:=om
 ·have hq:=jb (half:=half) (aR half 1) D hd ho (by unfold aR;simp;omega) h1
  have ho2:=h.o;simp only[Nat.sub_zero] at ho2;have e1:dm D M 1 = .ok ({ M with side:=0,gen:=G,count:=es.length },true,es):=by
   simp only[dm,hM,hs];simp
  show dm D M (1+1)=_
  rw[dm,e1];simp only[hM];rw[if_pos hq.1]
  rcases hq.2 with h2 | ⟨h2,_⟩
  ·rw[if_pos (.inl h2)]
  ·rw[if_pos (.inr ⟨trivial,by rw[h2];exact Nat.le_of_lt ho2⟩)]
 ·have hq:=jb (half:=half) (aR half 0) D hd ho (by unfold aR;simp;omega) h1
  have ho2:=h.o;simp only[Nat.sub_self] at ho2
  show dm D M (1+1)=_
  rw[dm];have e1:dm D M 1 = .ok (M,false,[])∨∃ c e,dm D M 1 = .ok ({ M with side:=0,gen:=aX (gs D.st (aR half 0)),count:=c },true,e):=by
   simp only[dm,hM];rw[if_pos hq.1]
   rcases hq.2 with h2 | ⟨h2,_⟩
   ·rw[if_pos (.inl h2)];exact .inl rfl
   ·by_cases h3:(dh D ((aR half 0:Nat):Int) half).1.1=false
    ·rw[if_pos (.inl h3)];exact .inl rfl
    ·rw[if_neg (by rintro (h | ⟨h,_⟩);exact h3 h;cases h)]
     right
     rw[h2];exact⟨_,_,rfl⟩
  rcases e1 with e1 | ⟨c,e,e1⟩
  ·rw[e1];simp only[hM,hs];simp
  ·rw[e1];simp only[hM,hs];simp;omega
theorem zc{half:Nat}(D:DM)(M:LM)(hd:D.down=false)(ho:D.op=[])(hl:2 * half≤D.st.length)(h1:1≤half)(hM:M.half=half)(h:pP D.st):dm D M 2 = .ok (M,false,[]):=by
 have h0:=jb (half:=half) 0 D hd ho om h1;have h2:=jb (half:=half) half D hd ho om h1;have k0:Tb (gs D.st 0)=false:=(h.1.bad h.2.1).1;have k2:Tb (gs D.st half)=false:=by rw[h.2.2 half om];exact xL
 have h0':(dh D ((aR half 0:Nat):Int) half).2=0∧(dh D ((aR half 0:Nat):Int) half).1.1=false:=by
  refine⟨h0.1,?_⟩
  rcases h0.2 with h | ⟨_,h⟩
  ·exact h
  ·rw[k0] at h;cases h
 have h2':(dh D ((aR half 1:Nat):Int) half).2=0∧(dh D ((aR half 1:Nat):Int) half).1.1=false:=by
  refine⟨h2.1,?_⟩
  rcases h2.2 with h | ⟨_,h⟩
  ·exact h
  ·rw[k2] at h;cases h
 simp only[dm,hM];rw[if_pos h0'.1,if_pos (.inl h0'.2)];simp only[hM];rw[if_pos h2'.1,if_pos (.inl h2'.2)]
theorem xH:∀ (L:List SE) (a:Nat),(∀ x ∈ L,x.2.1=0)→(gY L a).2=0∧a≤(gY L a).1∧(∀ x ∈ L,aX x.1≤(gY L a).1)∧∀ T,a≤T→(∀ x ∈ L,aX x.1≤T)→(gY L a).1≤T
 | [],a,_=>⟨rfl,Nat.le_refl _,fun x hx=>(by cases hx),fun T h _=>h⟩
 | x :: r,a,h=>by
  rw[gY,if_pos (h x sm)];obtain⟨h1,h2,h3,h4⟩:=xH r (if a < aX x.1 then aX x.1 else a) (fun y hy=>h y (List.mem_cons_of_mem _ hy));have hle:a≤(if a < aX x.1 then aX x.1 else a)∧aX x.1≤(if a < aX x.1 then aX x.1 else a):=by split <;> omega
  refine⟨h1,om,fun y hy=>?_,fun T hT hall=>h4 T ?_ (fun y hy=>hall y (List.mem_cons_of_mem _ hy))⟩
  ·rcases List.mem_cons.1 hy with rfl | hy
   ·omega
   ·exact h3 y hy
  ·have:=hall x sm;split <;> omega
theorem Gu(D:DM)(n:Nat)(hd:D.down=false)(ho:D.op=[])(hn:D.st.length=n):(dN D n).2=0∧(∀ i,aX (gs D.st i)≤(dN D n).1)∧∀ T,(∀ i,aX (gs D.st i)≤T)→(dN D n).1≤T:=by
 have hc:=tR D 0 hd ho n om;obtain⟨h1,h2,h3,h4⟩:=xH (Tn (SI D ((0:Nat):Int)) n) 0 (fun x hx=>(hc x hx).1);refine⟨h1,fun i=>?_,fun T hT=>h4 T (Nat.zero_le _) fun x hx=>?_⟩
 ·by_cases hi:i < n
  ·have hm:SI D ((0:Nat):Int) i ∈ Tn (SI D ((0:Nat):Int)) n:=List.mem_map.2 ⟨i,List.mem_range.2 hi,rfl⟩;have:=h3 _ hm;rw[mE D 0 i hd ho om,Nat.zero_add] at this;exact this
  ·rw[OI _ _ om,gj];exact Nat.zero_le _
 ·obtain⟨_,k,_,hk⟩:=hc x hx;rw[hk];exact hT _
end
section
theorem gh(L:List Sj)(p:Int × Sj)(c:Int):(dI L p c).length=L.length:=by simp[dI]
theorem Ct(D:DM)(s:Nat)(h:s < D.st.length):kH D (s:Int)=true:=by unfold kH;rw[Bool.and_eq_true,decide_eq_true_eq,decide_eq_true_eq];omega
theorem oL(D:DM)(s:Nat)(g:Nat)(hd:D.down=false)(hs:s < D.st.length):Sl D [((s:Int),dH g toll)] (commitD D (s:Int) g):=by
 unfold commitD;exact (nQ D (s:Int) (dH g toll) hd (Ct D s hs)).sync
theorem Lt(D:DM)(s len place:Nat)(g:Nat)(d:RP)(x:Nat)(hd:D.down=false)(h1:1≤place)(h2:place+1≤len)(hs:s+place < D.st.length):Sl D [((s:Int)+(place:Int),il g (d,x))] (putD D (s:Int) (len:Int) (place:Int) g d x):=by
 unfold putD;have hr:bp (len:Int)=(len:Int) - 1:=by unfold bp;rw[if_neg om]
 rw[if_neg (by rw[hr];omega)]
 have hk:kH D ((s:Int)+(place:Int))=true:=by have:=Ct D (s+place) hs;rw[← this];congr 1
 exact (nQ D _ (il g (d,x)) hd hk).sync
theorem pP.head{half:Nat}{L:List Sj}(h:pP L)(hl:2 * half≤L.length)(h1:1≤half)(c:Int):
  (mj half 1 (some (0,1,[])) (dI L (((0:Nat):Int),dH 1 toll) c)∨(c < 64∧mj half 1 none (dI L (((0:Nat):Int),dH 1 toll) c))):=by
 have hst:∀ i,gs (dI L (((0:Nat):Int),dH 1 toll) c) i=if i=0 then tear (gs L 0) (dH 1 toll) c else cB:=fun i=>by
  rw[kF]
  by_cases hi:i=0
  ·subst hi;rw[if_pos ⟨rfl,om⟩,if_pos rfl]
  ·rw[if_neg (by intro hh;exact hi hh.1),if_neg hi];exact h.2.2 i om
 have hpre:=h.1.tear c;have ht1:aX (dH 1 toll)=1:=nk dc dc;have ht:∀ i,aX (gs (dI L (((0:Nat):Int),dH 1 toll) c) i)≤1:=fun i=>by
  rw[hst]
  split
  ·by_cases hn:tear (gs L 0) (dH 1 toll) c=dH 1 toll
   ·rw[hn,ht1];exact Nat.le_refl _
   ·rw[(hpre.bad hn).2];exact Nat.zero_le _
  ·rw[gj];exact Nat.zero_le _
 by_cases hn:tear (gs L 0) (dH 1 toll) c=dH 1 toll
 ·left
  obtain⟨e1,e2⟩:=Cu 1 dc;refine⟨ht,by rw[gh];exact hl,h1,?_⟩
  show fB half 0 1 [] _
  refine⟨om,?_,?_,by simpa using h1,fun i hi=>(by cases hi),fun i hi hi2=>?_,?_⟩
  ·rw[hst,if_pos (by simp[aR]),hn];exact e1
  ·rw[hst,if_pos (by simp[aR]),hn];exact e2
  ·rw[hst,if_neg (by simp[aR];simp at hi;omega),gj];decide
  ·rw[hst,if_neg (by simp[aR];omega),gj];decide
 ·right
  refine⟨?_,ht,by rw[gh];exact hl,h1,?_⟩
  ·by_cases hc:64≤c
   ·exact absurd (gN _ _ _ hc) hn
   ·omega
  ·show pP _
   refine⟨?_,?_,fun i hi=>?_⟩
   ·rw[hst,if_pos rfl];exact hpre
   ·rw[hst,if_pos rfl];exact hn
   ·rw[hst,if_neg om]
theorem pP.tags{L:List Sj}(h:pP L)(i:Nat):aX (gs L i)=0:=by
 rcases Nat.eq_zero_or_pos i with rfl | hi
 ·exact (h.1.bad h.2.1).2
 ·rw[h.2.2 i hi,gj]
theorem mj.fresh{half T:Nat}{L:List Sj}(h:pP L)(hl:2 * half≤L.length)(h1:1≤half):mj half T none L:=⟨fun i=>by rw[h.tags];exact Nat.zero_le _,hl,h1,h⟩
theorem iJ(n:Nat)(hn:n≤4096)(h2:2≤n)(T:Nat):mj (n / 2) T none (dG (n:Int)).st:=by
 have e:(dG (n:Int)).st=List.replicate n cB:=by
  unfold dG;simp only
  congr 1;omega
 rw[e];have hg:∀ i,gs (List.replicate n cB) i=cB:=fun i=>by
  unfold gs;rw[List.getD_eq_getElem?_getD,List.getElem?_replicate];split <;> rfl
 refine mj.fresh ⟨by rw[hg];exact GU,?_,fun i _=>hg i⟩ sO om
 rw[hg];intro h;have h1:aX (dH 1 toll)=1:=nk dc dc;rw[← h,gj] at h1;cases h1
structure R4 (half:Nat) (P:rt→Prop) (T:Nat) (D D':DM) (M:LM) (es:List RQ):Prop where
 d:D'.down=false
 o:D'.op=[]
 pl:D'.plan=D.plan
 b:M.broken=false
 h:M.half=half
 g:mj half (max M.last M.gen) (some (M.side,M.gen,es)) D'.st
 c:M.count=es.length
 t:max M.last M.gen≤T+1
 p:P (some (M.side,M.gen,es))∨P none∧es=[]
theorem jS(D:DM)(n T:Nat)(P:rt→Prop)(hd:D.down=false)(hl:D.st.length=n)(hT:T+1 < 256)(hC:Cr (n / 2) T P D):
  (∃ M es,(openD D n).2 = .ok (M,es)∧R4 (n / 2) P T D (openD D n).1 M es)∨(∃ c,(openD D n).2 = .error c∧D.plan≠[]∧(openD D n).1.plan=D.plan∧Cr (n / 2) (T+1) (fun _=>True) (openD D n).1):=by
 unfold openD
 rcases yb D hd with ⟨h1,h2,h3,h4,h5⟩ | ⟨h1,h2,h3,h4,h5,j,h6⟩ | ⟨h1,h2,h3,h4,h5,j,C,h6⟩
 ·rw[if_pos h1];rw[List.append_nil] at h2;obtain⟨pick,hp,hg⟩:=hC (fun _=>64);rw[← h2] at hg;have hlen:(bz D).1.st.length=n:=by rw[h2,bY,hl]
  obtain⟨g1,g2,g3⟩:=Gu (bz D).1 n h4 h3 hlen;rw[if_pos g1];have hlast:=g3 T hg.t;generalize (bz D).1=D1 at *;generalize (dN D1 n).1=m at *;cases pick with
  | some q =>
   obtain⟨p,G,es⟩:=q;have hk:fB (n / 2) p G es D1.st:=hg.k;rw[Cq D1 _ h4 h3 hg.l rfl hk];simp only;rw[if_pos trivial];have hG:G≤m:=by have:=g2 (aR (n / 2) p);rw[hk.t] at this;exact this
   refine .inl ⟨_,_,rfl,h4,h3,h5,rfl,rfl,?_,rfl,?_,.inl hp⟩
   ·refine⟨fun i=>?_,hg.l,hg.h1,hk⟩;exact Nat.le_trans (g2 i) (Nat.le_max_left m G)
   ·show max m G≤_;omega
  | none =>
   have hk:pP D1.st:=hg.k;rw[zc D1 _ h4 h3 hg.l hg.h1 rfl hk];simp only;have hm0:m=0:=by have:=g3 0 (fun i=>by rw[hk.tags];exact Nat.le_refl _);omega
   subst hm0;rw[if_neg dc,if_neg dc];have hh:=fun c=>hk.head hg.l hg.h1 c;have hcr:=(oL D1 0 1 h4 (by have:=hg.l;have:=hg.h1;omega)).cr (half:=n / 2) (T:=T+1) (P:=fun _=>True) h3 (Df ⟨none,trivial,mj.fresh hk hg.l hg.h1⟩ (fun c=>by
    rcases hh c with h | ⟨_,h⟩
    ·exact⟨_,trivial,h.more om⟩
    ·exact⟨_,trivial,h.more om⟩))
   rw[show (((0:Nat):Int))=(0:Int) from rfl] at hcr
   simp only[Nat.zero_add]
   rcases hcr with ⟨c1,c2,c3,c4,c5⟩ | ⟨c1,c2,c3,c4,c5⟩ | ⟨c1,c2,c3,c4,c5⟩
   ·rw[if_pos c1];refine .inl ⟨_,_,rfl,c4,c3,by rw[c5,h5],rfl,rfl,?_,rfl,?_,.inr ⟨hp,rfl⟩⟩
    ·have h64:mj (n / 2) 1 (some (0,1,[])) (dI D1.st (((0:Nat):Int),dH 1 toll) 64):=by
      rcases hh 64 with h | ⟨h,_⟩
      ·exact h
      ·omega
     show mj (n / 2) 1 (some (0,1,[])) _
     rw[c2];exact h64
    ·show (1:Nat)≤_;omega
   ·rw[if_neg (by rw[c1];decide)]
    exact .inr ⟨_,rfl,by rw[← h5];exact c2,by rw[c4,h5],c5⟩
   ·rw[if_neg (by rw[c1];decide)]
    exact .inr ⟨_,rfl,by rw[← h5];exact c2,by rw[c4,h5],c5⟩
 ·rw[if_neg (by rw[h1];decide)]
  rw[List.take_nil,List.append_nil] at h6;exact .inr ⟨_,rfl,h2,h4,(hC.same h5 h6).more om (fun _ _=>trivial)⟩
 ·rw[if_neg (by rw[h1];decide)]
  rw[List.take_nil,List.append_nil] at h6;obtain⟨pick,_,hg⟩:=hC C;rw[← h6] at hg;exact .inr ⟨_,rfl,h2,h4,(Cr.nil (P:=fun _=>True) h5 trivial hg).more om (fun _ _=>trivial)⟩
theorem qJ(ix:RP→Option Nat)(d:RP)(n:Nat)(e:RP):(oh ix d n).1 e=if e=d then some (match ix d with | none=>n | some m=>max m n) else ix e:=by
 unfold oh;cases hx:ix d with
 | none =>
  rw[if_neg (by simp[hx])]
 | some m =>
  by_cases h:n≤m
  ·rw[if_pos (by simp[hx,h])]
   by_cases he:e=d
   ·subst he;rw[if_pos rfl];simp only[hx];rw[Nat.max_eq_left h]
   ·rw[if_neg he]
  ·rw[if_neg (by simp[hx];omega)]
   by_cases he:e=d
   ·simp only[if_pos he];rw[Nat.max_eq_right om]
   ·simp only[if_neg he]
theorem cZ{ix:RP→Option Nat}{now:Int}{d:RP}(h:ix d=none):aO ix now d=none:=by unfold aO;rw[h];rfl
theorem cH{ix:RP→Option Nat}{now:Int}{d:RP}{x:Nat}(h:ix d=some x):aO ix now d=if now≤(x:Int) then some x else none:=by
 unfold aO;rw[h]
 by_cases hx:now≤(x:Int)
 ·simp[Option.filter,hx]
 ·simp[Option.filter,hx]
theorem rV(a:RP→Option Nat)(now:Int)(d:RP)(n:Nat)(e:RP):aO (oh a d n).1 now e=if e=d then (match aO a now d with | none=>if now≤(n:Int) then some n else none | some m=>some (max m n)) else aO a now e:=by
 by_cases he:e=d
 ·subst he;rw[if_pos rfl];have h1:=qJ a e n e;rw[if_pos rfl] at h1;rw[cH h1];cases ha:a e with
  | none=>rw[cZ ha]
  | some m =>
   rw[cH ha]
   by_cases hm:now≤(m:Int)
   ·rw[if_pos hm];simp only;rw[if_pos om]
   ·rw[if_neg hm];simp only
    by_cases hn:now≤(n:Int)
    ·rw[if_pos hn,if_pos om,Nat.max_eq_right om]
    ·rw[if_neg hn,if_neg om]
 ·rw[if_neg he];have h1:=qJ a d n e;rw[if_neg he] at h1;cases ha:a e with
  | none=>rw[cZ ha,cZ (h1.trans ha)]
  | some m=>rw[cH ha,cH (h1.trans ha)]
theorem ql{a b:RP→Option Nat}{now:Int}(h:aO a now=aO b now)(d:RP)(n:Nat):aO (oh a d n).1 now=aO (oh b d n).1 now:=by
 funext e
 rw[rV,rV,h]
theorem ky(a:RP→Option Nat){now now':Int}(hn:now≤now'):aO (aO a now) now'=aO a now':=by
 funext e
 cases ha:a e with
 | none=>rw[cZ ha,cZ (cZ ha)]
 | some x =>
  rw[cH ha]
  by_cases hx:now≤(x:Int)
  ·have:=cH (now:=now) ha;rw[if_pos hx] at this;rw[cH this]
  ·have:=cH (now:=now) ha;rw[if_neg hx] at this;rw[cZ this,if_neg om]
theorem oO{a b:RP→Option Nat}{now now':Int}(h:aO a now=aO b now)(hn:now≤now'):aO a now'=aO b now':=by
 rw[← ky a hn,← ky b hn,h]
theorem drop_drop(a:RP→Option Nat)(now:Int):aO (aO a now) now=aO a now:=ky a (Int.le_refl _)
theorem ef.eqv{a b:RP→Option Nat}{now:Int}{L:List RQ}(h:ef a now L)(he:aO a now=aO b now):ef b now L:=by
 have k:∀ (c:RP→Option Nat) (e:RQ),(c e.1=some e.2∧now≤(e.2:Int))↔aO c now e.1=some e.2:=fun c e=>by
  cases hc:c e.1 with
  | none=>rw[cZ hc];simp
  | some x =>
   rw[cH hc];constructor
   ·rintro ⟨h1,h2⟩;cases h1;rw[if_pos h2]
   ·intro h1
    by_cases hx:now≤(x:Int)
    ·rw[if_pos hx] at h1;cases h1;exact⟨rfl,hx⟩
    ·rw[if_neg hx] at h1;cases h1
 exact⟨h.ord,fun e=>by rw[h.mem,k,k,he]⟩
theorem lN{a b:RP→Option Nat}{now:Int}(he:aO a now=aO b now):cy a now=cy b now:=by
 by_cases h:∃ L,ef a now L
 ·obtain⟨L,hL⟩:=h;rw[hL.eq,(hL.eqv he).eq]
 ·have h2 : ¬ ∃ L,ef b now L:=fun ⟨L,hL⟩=>h ⟨L,hL.eqv he.symm⟩;unfold cy;rw[dif_neg h,dif_neg h2]
theorem Gn:∀ (L:List RQ),(∀ a ∈ L,∀ b ∈ L,a.1=b.1→a=b)→∀ d x,gR L d=some x↔(d,x) ∈ L:=by
 intro L
 induction L using di with
 | h0=>intro _ d x;simp[gR]
 | h1 L e ih =>
  intro hu d x;have ih:=ih (fun a ha b hb=>hu a (List.mem_append_left _ ha) b (List.mem_append_left _ hb));rw[jK,qJ];obtain⟨d',x'⟩:=e;simp only[List.mem_append,List.mem_singleton,Prod.mk.injEq]
  by_cases hd:d=d'
  ·subst hd;rw[if_pos rfl];cases hix:gR L d with
   | none =>
    simp only[Option.some.injEq];constructor
    ·intro h;exact .inr ⟨trivial,h.symm⟩
    ·rintro (h | ⟨_,h⟩)
     ·have:=(ih d x).2 h;rw[hix] at this;cases this
     ·exact h.symm
   | some m =>
    have hm:=(ih d m).1 hix;have:=hu (d,m) (by simp[hm]) (d,x') sm rfl
    simp only[Prod.mk.injEq,true_and] at this;subst this;simp only[Nat.max_self,Option.some.injEq];constructor
    ·rintro rfl;exact .inr ⟨trivial,rfl⟩
    ·rintro (h | ⟨_,h⟩)
     ·have:=(ih d x).2 h;rw[hix] at this;cases this;rfl
     ·exact h.symm
  ·rw[if_neg hd,ih];constructor
   ·exact .inl
   ·rintro (h | ⟨h,_⟩)
    ·exact h
    ·exact absurd h hd
theorem CN{ix:RP→Option Nat}{now:Int}{L:List RQ}(h:ef ix now L):∀ a ∈ L,∀ b ∈ L,a.1=b.1→a=b:=by
 intro a ha b hb e;have h1:=((h.mem a).1 ha).1;have h2:=((h.mem b).1 hb).1;rw[e,h2] at h1;obtain⟨a1,a2⟩:=a;obtain⟨b1,b2⟩:=b;simp only[Option.some.injEq] at h1 e;rw[e,h1]
theorem CG{ix:RP→Option Nat}{now:Int}{L:List RQ}(h:ef ix now L):gR L=aO ix now:=by
 funext d
 have hm:=Gn L (CN h) d;cases hx:ix d with
 | none =>
  rw[cZ hx];cases hy:gR L d with
  | none=>rfl
  | some y=>have:=(h.mem (d,y)).1 ((hm y).1 hy);rw[hx] at this;cases this.1
 | some x =>
  rw[cH hx]
  by_cases hn:now≤(x:Int)
  ·rw[if_pos hn];exact (hm x).2 ((h.mem (d,x)).2 ⟨hx,hn⟩)
  ·rw[if_neg hn];cases hy:gR L d with
   | none=>rfl
   | some y =>
    have:=(h.mem (d,y)).1 ((hm y).1 hy);rw[hx] at this;simp only[Option.some.injEq] at this;obtain⟨h1,h2⟩:=this;subst h1;exact absurd h2 hn
end
section
theorem Dj:∀ (L:List RQ) (a:RQ),L.Pairwise SZ→∃ L':List RQ,L'.Pairwise SZ∧∀ e,e ∈ L'↔e=a∨e ∈ L
 | [],a,_=>⟨[a],sm,fun e=>sm⟩
 | b :: L,a,h=>by
  rw[List.pairwise_cons] at h
  rcases vg a b with k | k | k
  ·refine⟨a :: b :: L,?_,fun e=>sm⟩;rw[List.pairwise_cons,List.pairwise_cons];refine⟨fun e he=>?_,h⟩
   rcases List.mem_cons.1 he with rfl | he
   ·exact k
   ·exact jO k (h.1 e he)
  ·subst k;exact⟨a :: L,by rw[List.pairwise_cons];exact h,fun e=>sm⟩
  ·obtain⟨L',h1,h2⟩:=Dj L a h.2;refine⟨b :: L',?_,fun e=>?_⟩
   ·rw[List.pairwise_cons];refine⟨fun e he=>?_,h1⟩
    rcases (h2 e).1 he with rfl | he
    ·exact k
    ·exact h.1 e he
   ·rw[List.mem_cons,List.mem_cons,h2];constructor
    ·rintro (h | h | h)
     ·exact .inr (.inl h)
     ·exact .inl h
     ·exact .inr (.inr h)
    ·rintro (h | h | h)
     ·exact .inr (.inl h)
     ·exact .inl h
     ·exact .inr (.inr h)
theorem Jp:∀ E:List RQ,∃ L:List RQ,L.Pairwise SZ∧∀ e,e ∈ L↔e ∈ E
 | []=>⟨[],.nil,fun _=>Iff.rfl⟩
 | a :: E=>by
  obtain⟨L,h1,h2⟩:=Jp E;obtain⟨L',h3,h4⟩:=Dj L a h1;exact⟨L',h3,fun e=>by rw[h4,h2,List.mem_cons]⟩
theorem K1{ix:RP→Option Nat}{K:List RP}(hK:∀ d,ix d≠none→d ∈ K)(now:Int):ef ix now (cy ix now):=by
 have hx:∃ L,ef ix now L:=by
  obtain⟨L,h1,h2⟩:=Jp (K.filterMap fun d=>(ix d).bind fun x=>if now≤(x:Int) then some (d,x) else none);refine⟨L,h1,fun e=>?_⟩;rw[h2,List.mem_filterMap];constructor
  ·rintro ⟨d,_,hd⟩;obtain⟨x,hx,hd⟩:=Option.bind_eq_some_iff.1 hd
   split at hd
   ·cases hd;exact⟨hx,by assumption⟩
   ·cases hd
  ·rintro ⟨h3,h4⟩;refine⟨e.1,hK _ (by rw[h3];simp),?_⟩
   rw[h3,Option.bind_some,if_pos h4]
 obtain⟨L,hL⟩:=hx;rw[hL.eq];exact hL
theorem CI.live{n:Nat}{c:CM}(h:CI n c)(now:Int):ef c.ix now (cy c.ix now):=by
 obtain⟨K,_,hK⟩:=h.keys;exact K1 hK now
theorem CI.len{n:Nat}{c:CM}(h:CI n c)(now:Int):(cy c.ix now).length≤c.M.count:=by
 obtain⟨K,hK1,hK⟩:=h.keys;exact Nat.le_trans (jM (h.live now) hK) hK1
theorem CI.cnt{n:Nat}{c:CM}(h:CI n c)(hn:n≤100):c.M.count≤50:=by
 have:=h.room;rw[h.half] at this;unfold bp at this
 split at this <;> omega
theorem VI.compact{n m:Nat}{v:VM}(h:VI n m v)(hn:n≤100):VI n (m+120) (aW v).1:=by
 unfold aW;cases hc:(au v).c with
 | none=>exact h.look.more om
 | some c =>
  obtain⟨h1,h2,h3⟩:=gF hc;have hI:=h.c c h1;have hl:=hI.len v.now;have hcn:=hI.cnt hn;refine VI.look ⟨(h.D.compactC c v.now).more om,h.now,h.skew,fun c' hc'=>?_⟩;cases hc';exact hI.compact v.D v.now (hI.live v.now)
theorem VI.boot{n m:Nat}{v:VM}(h:VI n m v)(hn:n≤100)(h2:2≤n):VI n (m+8) (bG n v).1:=by
 unfold bG;have hD:=h.D.start.openC n v.skew v.now;cases hr:(openC (bT v.D) n v.skew v.now).2 with
 | error c=>exact⟨hD,h.now,h.skew,fun c hc=>by cases hc⟩
 | ok c=>exact⟨hD,h.now,h.skew,fun c' hc'=>by cases hc';exact CI.opened hr om h2⟩
theorem VI.verify{n m:Nat}{v:VM}(h:VI n m v)(hn:n≤100)(l:List UInt8):VI n (m+120) (aU v l).1:=by
 unfold aU;cases hq:eC v.key l with
 | error c=>exact h.look.more om
 | ok t =>
  obtain⟨t,a⟩:=t;simp only
  split
  ·cases hc:(au v).c with
   | none=>exact h.look.more om
   | some c =>
    simp only
    split
    ·exact h.look.more om
    ·obtain⟨h1,h2,h3⟩:=gF hc;have hI:=h.c c h1;have hl:=hI.len v.now;have hcn:=hI.cnt hn;refine VI.look ⟨(h.D.insertC c _ _ v.now).more om,h.now,h.skew,fun c' hc'=>?_⟩;cases hc';exact hI.insert v.D _ _ v.now (hI.live v.now)
  ·exact h.look.more om
section
variable {w w1 w2 w':World} {base n V:Nat} {p p1:DP} {q q1:CP} {v v1:VM} {c c1:Option CM}
theorem aF.boot(h:So w base p V q n v){R:DM × Except Int CM}{e:Ending}(hR:Ff w base p n R e w1){cm:CM}(hc:R.2 = .ok cm):
  ∃ q1:CP,e = .returned (.tuple #[.pointer (some ⟨q1.C,0,none⟩),.nilIface])∧aF w base p V q v.c n { v with D:=R.1,c:=some cm } (w1.setCell ⟨V,19,none⟩ (.pointer (some ⟨q1.C,0,none⟩))):=by
 obtain⟨p',h1,h2,h3,h4,h5⟩:=hR;rw[hc] at h5;obtain⟨q1,he,hA,l1,l2,l3,l4⟩:=h5;refine⟨q1,he,?_⟩;have hVl:=h.vf.lt;have hk:Kb (fun i=>i=V) w1 (w1.setCell ⟨V,19,none⟩ (.pointer (some ⟨q1.C,0,none⟩))):=dE _ _ _ _;have nV : ¬ p'.has V:=fun hx=>by
  rcases h4 V hx with h5 | h5
  ·exact h.nV h5
  ·omega
 have hV1:=h.vf.same (h3.block V hVl h.nV);refine⟨p',q1,h1,⟨h2.kb hk (fun b hb e=>nV (e ▸ hb)),?_,h.lo,nV,fun c' hc'=>?_⟩,(h3.wide (fun i hi=>.inl hi)).trans hk (fun i hi=>.inl (.inr (.inl hi))),fun i hi=>?_⟩
 ·rw[h1];exact hV1.set4 (some ⟨q1.C,0,none⟩)
 ·cases hc';refine⟨hA.same hk.size (fun i hi=>?_),om,om,om,om⟩;have hi1:i < w1.heap.size:=by
   rcases hi with hi | rfl | rfl | rfl | rfl
   ·exact h2.has_lt i hi
   ·exact hA.lt.1
   ·exact hA.lt.2.1
   ·exact hA.lt.2.2.1
   ·exact hA.lt.2.2.2
  refine hk.block i hi1 (fun e=>?_)
  rcases hi with hi | hi | hi | hi | hi
  ·exact nV (e ▸ hi)
  ·omega
  ·omega
  ·omega
  ·omega
 ·rcases hi with hi | hi | ⟨_,hi⟩
  ·rcases h4 i hi with h5 | h5
   ·exact .inl (.inl h5)
   ·exact .inr h5
  ·exact .inl (.inr (.inl hi))
  ·right;rcases hi with rfl | rfl | rfl | rfl <;> assumption
end
theorem iV(w:World)(base n m V:Nat)(p:DP)(q:CP)(v:VM)(h:So w base p V q n v)(hI:VI n m v)(hm:m+8≤100000)(hn:n≤100)(h2:2≤n)(hbase:base≤w.heap.size):
  Calls prog 16 #[.pointer (some ⟨V,0,none⟩)] w fun e w'=>(∃ k,e = .returned (fg (bG n v).2 k))∧aF w base p V q v.c n (bG n v).1 w':=by
 have f4:=h.vf.free 19;have c4:=h.vf.f4;have hcm:bW=1099511627776:=rfl;have hnow:=hI.now;rw[hcm] at hnow;have hsk:=hI.skew;have hD:=hI.D;have H:=SM h;have HD:=SM hD;obtain⟨R,hR⟩:=eY (bG n v);rw[hR];have HR:=SM hR;clear h hI hR hcm hD
 go_in
 go_upto_region 4 with fail
 have hN1:aF w base p V q v.c n { v with c:=none } (w.setCell ⟨V,19,none⟩ (.pointer none)):=aF.own (v1:={ v with c:=none }) H.o (H.o.vf.set4 none) (dE _ _ _ _) rfl (.inl rfl)
 generalize w.setCell ⟨V,19,none⟩ (.pointer none)=w1 at *;obtain⟨p1,q1,hB1,hA1,hk1,hx1⟩:=hN1;have c2:=hA1.vf.f2;have HT1:Hd (∀ v2 w2,aF w1 base p1 V q1 none n v2 w2→aF w base p V q v.c n v2 w2):=SM (fun v2 w2 hh=>aF.trans hB1 hk1 hx1 hh);have hz1:=hk1.size;have HA1:=SM hA1;clear hB1 hk1 hx1 hA1 H f4 c4
 go_wp2_with fail
 clear c2;refine (Em w1 HA1.o.D).mono ?_;rintro _ w2 ⟨rfl,hN2⟩;obtain⟨p2,q2,hB2,hA2,hk2,hx2⟩:=bm.ver HA1.o hN2;have HT2:Hd (∀ v2 w3,aF w2 base p2 V q2 none n v2 w3→aF w base p V q v.c n v2 w3):=SM (fun v2 w3 hh=>HT1.o _ _ (aF.trans hB2 hk2 hx2 hh));have hz2:=hk2.size;have HA2:=SM hA2;clear hB2 hk2 hx2 hA2 hN2 HA1 HT1
 go_wp2_with fail
 have hdb:=(Sy w2).drew;have hA3:=HA2.o.below hdb;have hV3:bg w2.drew V v.key v.skew (some ⟨p2.B,0,none⟩) v.now none:=hA3.vf;refine yW (tk 0 12 (.run 12 (tk 13 5 .done))) (fun u=>bg u V v.key v.skew (some ⟨p2.B,0,none⟩) v.now none) hV3 ?_;have HT3:Hd (∀ v2 w3,aF w2.drew base p2 V q2 none n v2 w3→aF w base p V q v.c n v2 w3):=SM (fun v2 w3 hh=>HT2.o _ _ (hh.pre hdb));have hz3:=hdb.size;clear hdb HT2 HA2
 generalize w2.drew=w3 at *
 repeat((first|refine yO ?_|refine yM ?_|refine yF rfl rfl (fun w' hC'=>by have c1:=hC'.f1;have c2:=hC'.f2;have c3:=hC'.f3;go_simp;first|done|exact rfl) ?_);walk_nrm)
 refine yR ?_;refine (DV p2 base n m (bT v.D) v.skew v.now w3 hA3.D HD.o.start om om h2 om om hnow).mono ?_;intro e w4 hRC;have hV4:bg w4 V v.key v.skew (some ⟨p2.B,0,none⟩) v.now none:=by
  obtain⟨_,_,_,hk,_⟩:=hRC;exact hV3.same (hk.block V hV3.lt hA3.nV)
 have hr:=HR.o;unfold bG at hr;cases ho:(openC (bT v.D) n v.skew v.now).2 with
 | error c =>
  rw[ho] at hr;have hN:aF w base p V q v.c n { v with D:=(openC (bT v.D) n v.skew v.now).1,c:=none } w4:=by
   obtain⟨p',g1,g2,g3,g4,_⟩:=hRC;exact HT3.o _ _ (bm.ver hA3 ⟨p',g1,g2,g3,g4⟩)
  obtain⟨p',g1,g2,g3,g4,g5⟩:=hRC;rw[ho] at g5;obtain⟨k,hc0,rfl⟩:=g5;simp only at hr;subst hr;obtain⟨T,u,he⟩:=cG (k:=k) hc0;rw[he];refine kS hV4 ?_;walk_nrm
  repeat(refine yA ?_;walk_nrm)
  refine al ?_;have HN:=SM hN;have He:=SM he;clear hN g2 g3 g4 HT3 hA3 HR hV4 he hV3 ho
  go_wp2
  go_ret
  exact⟨⟨k,congrArg Ending.returned He.o.symm⟩,HN.o⟩
 | ok c =>
  rw[ho] at hr;obtain⟨q4,rfl,hN⟩:=aF.boot hA3 hRC ho;have hN:=HT3.o _ _ hN;simp only at hr;subst hr;refine kS hV4 ?_;walk_nrm
  repeat(refine yA ?_;walk_nrm)
  refine al ?_;have HN:=SM hN;have c4:=hV4.f4;have f4:=hV4.free 19;clear hN hRC HT3 hA3 HR hV4 hV3 ho
  go_wp2
  go_ret
  exact⟨⟨0,(congrArg Ending.returned (dM 0)).symm⟩,HN.o⟩
theorem gk(w:World)(base n m V:Nat)(p:DP)(q:CP)(v:VM)(h:So w base p V q n v)(hI:VI n m v)(hm:m+120≤100000)(hn:n≤100)(hbase:base≤w.heap.size):
  Calls prog 14 #[.pointer (some ⟨V,0,none⟩)] w fun e w'=>(∃ k,e = .returned (fg (aW v).2 k))∧aF w base p V q v.c n (aW v).1 w':=by
 have hl:=eF w base n V p q v h;have HI:=SM hI;obtain⟨R,hR⟩:=eY (aW v);rw[hR];unfold aW at hR;have HR:=SM hR;clear h hI hR
 go_in
 go_wp2_with fail
 refine hl.mono ?_;rintro _ w1 ⟨rfl,hN⟩;obtain⟨c,hc⟩:=eY ((au v).c);have hr:=HR.o;rw[hc] at hr ⊢;cases c with
 | none =>
  simp only at hr;subst hr;have HN:=SM hN;have e12:Value.iface 34 (.int .i64 12)=fg 12 0:=(KJ 0).symm;have He:=SM e12;clear hc hN hl HR e12
  go_wp2
  go_ret
  exact⟨⟨0,congrArg Ending.returned He.o⟩,HN.o⟩
 | some c =>
  obtain⟨g1,g2,g3⟩:=gF hc;simp only at hr;rw[g3] at hN hc;obtain⟨p1,q1,hB1,hA1,hk1,hx1⟩:=hN;have HT1:Hd (∀ v2 w2,aF w1 base p1 V q1 v.c n v2 w2→aF w base p V q v.c n v2 w2):=SM (fun v2 w2 hh=>aF.trans hB1 hk1 hx1 hh);have hz1:=hk1.size;have hIc:=HI.o.c c g1;have hcn:=hIc.cnt hn;have HA1:=SM hA1;have HIc:=SM hIc;have Hg1:=SM g1;clear hB1 hA1 hk1 hx1 hl HR hc g2 g3 hIc g1
  go_wp2_with fail
  have hdb:=(Sy w1).drew;have hA2:=HA1.o.below hdb;have hV2:bg w1.drew V v.key v.skew (some ⟨p1.B,0,none⟩) v.now (some ⟨q1.C,0,none⟩):=by
   have:=hA2.vf;rw[Hg1.o] at this;exact this
  refine yW (tk 0 8 (.run 8 (.take 9 .done))) (fun u=>bg u V v.key v.skew (some ⟨p1.B,0,none⟩) v.now (some ⟨q1.C,0,none⟩)) hV2 ?_;have HT2:Hd (∀ v2 w3,aF w1.drew base p1 V q1 v.c n v2 w3→aF w base p V q v.c n v2 w3):=SM (fun v2 w3 hh=>HT1.o _ _ (hh.pre hdb));have hz2:=hdb.size;clear hdb HT1 HA1;generalize w1.drew=w2 at *
  repeat((first|refine yO ?_|refine yM ?_|refine yF rfl rfl (fun w' hC'=>by have c3:=hC'.f3;have c4:=hC'.f4;go_simp;first|done|exact rfl) ?_);walk_nrm)
  refine yR ?_;obtain⟨hC2,hne⟩:=hA2.c c Hg1.o;refine (li w2 base n m p1 q1 v.D c v.now hC2 HIc.o HI.o.D om om om).mono ?_;rintro _ w3 ⟨⟨k,rfl⟩,_,hN3⟩;have hV3:bg w3 V v.key v.skew (some ⟨p1.B,0,none⟩) v.now (some ⟨q1.C,0,none⟩):=by
   obtain⟨_,_,_,hk,_⟩:=hN3;refine hV2.same (hk.block V hV2.lt (fun hx=>?_))
   rcases hx with hx | hx | hx
   ·exact hA2.nV hx
   ·exact hne.2.1 hx
   ·exact hne.2.2.2 hx
  refine kS hV3 ?_;walk_nrm
  repeat(refine yA ?_;walk_nrm)
  refine al ?_;obtain⟨p3,q3,hB3,hA3,hk3,hx3⟩:=bF.ver hA2 Hg1.o hN3;have hlk:=eI w3 base n V p3 q3 _ hA3;have HT3:Hd (∀ v2 w4,aF w3 base p3 V q3 (some (compactC v.D c v.now).2.1) n v2 w4→aF w base p V q v.c n v2 w4):=SM (fun v2 w4 hh=>HT2.o _ _ (aF.trans hB3 hk3 hx3 hh));obtain⟨c3,hc3⟩:=eY ((compactC v.D c v.now).2.2);rw[hc3] at hr ⊢;subst hr;obtain⟨x,hx⟩:=eY (fg c3 k);rw[hx];have Hx:=SM hx;clear hB3 hN3 hk3 hx3 hA3 HT2 hA2 hV2 hV3 hC2 hc3 hx hne
  go_wp2_with fail
  refine hlk.mono ?_;rintro _ w5 ⟨rfl,hN5⟩;have HN5:=SM (HT3.o _ _ hN5);clear hN5 hlk HT3
  go_wp2
  go_ret
  exact⟨⟨k,congrArg Ending.returned Hx.o.symm⟩,HN5.o⟩
def bN(key:RW)(skew:Int)(D:DM):VM:={ key:=key,skew:=skew,now:=0,D:=D,c:=none }
theorem ro(w:World)(base n:Nat)(p:DP)(key:RW)(skew:Int)(D:DM)(h:RM w base p n D)(hs:1≤skew∧skew≤1073741824)(hbase:base≤w.heap.size):
  Calls prog 27 #[.agg (fw B8 key),.int .i64 skew,.pointer (some ⟨p.B,0,none⟩)] w fun e w'=>(∃ V,e = .returned (.pointer (some ⟨V,0,none⟩))∧w.heap.size≤V∧∀ q,So w' base p V q n (bN key skew D))∧Below w.heap.size w w':=by
 have H:=SM h;have hR:=Row.made (f:=B8) w 22 key;have hb:=ba (.cells (fw B8 key) 22) (Sy w);have d1:decide (skew < 1)=false:=df;have d2:decide (1073741824 < skew)=false:=df;clear h
 go_in
 go_upto_region 1 with fail
 have hz:(w.alloc (.cells (fw B8 key) 22)).heap.size=w.heap.size+1:=sm;generalize w.alloc (.cells (fw B8 key) 22)=w1 at *;have qk:=hR.r
 go_wp2_with fail
 have hM:=bg.made w1 key skew (some ⟨p.B,0,none⟩) 0 none;have hb2:=bt hb (ba (.cells (fU key skew (some ⟨p.B,0,none⟩) 0 none) 77) (Sy w1));rw[hz] at hM
 go_ret
 refine⟨⟨w.heap.size+1,rfl,om,fun q=>⟨H.o.below hb2,hM,om,fun hx=>?_,fun c hc=>by cases hc⟩⟩,hb2⟩
 have:=H.o.has_lt _ hx;omega
end
section
def ki(V:Addr)(bs:Value)(T U:Array Value):Array Value:=#[.pointer (some V),bs] ++ T ++ U
theorem IR:(prog.info? 101).bind (·.zero)=some (.agg (#[.pointer none,.slice none 0 0] ++ tv ⟨#[]⟩ none 0 0 0 0 cM ++ St ⟨#[]⟩ none 0 0 0 0 0)):=kr
theorem MH:prog.underlying 101=some (.struct (prog.fieldsOf 101)):=kr
theorem zE:((prog.fieldsOf 101).toList.mapM fun f=>(prog.info? f.type).map fun i=>(f.offset,i.size))=some [(0,1),(1,1),(2,20),(22,5)]:=kr
def wH(parts:Array (Nat × Value)):Sem Value:=Instr.build 101 parts
@[go_sem ↓] theorem Ok(parts:Array (Nat × Value)):Instr.build 101 parts=wH parts:=rfl
theorem kf(r:ByteArray)(ad:Option Addr)(n c:Nat)(s e:Int)(k:RX):(tv r ad n c s e k).size=20:=by simp[tv,av]
@[go_sem ↓] theorem JA(w:World)(V:Addr)(a:Option Addr)(n c:Nat):(wH #[(0,.pointer (some V)),(1,.slice a n c)]).run prog w = .ok (.agg (ki V (.slice a n c) (tv ⟨#[]⟩ none 0 0 0 0 cM) (St ⟨#[]⟩ none 0 0 0 0 0))) w:=by
 refine run_build w _ _ _ ?_;rw[jC IR MH zE,gC (off:=0) (size:=1) rfl rfl (by simp[kf,St]),gC (off:=1) (size:=1) rfl rfl (by simp[bK,kf,St,Value.cells])]
 rw[Instr.fill];refine congrArg some ?_
 apply Array.ext'
 simp[bK,ki,Value.cells]
structure bB (w:World) (b:Nat) (V:Addr) (bs:Value) (T U:Array Value):Prop where
 r:readAt w b 0 27=some (ki V bs T U)
 k:canAt w b 0 27=true
 t:T.size=20
 u:U.size=5
section
variable {w w':World} {b:Nat} {V:Addr} {bs:Value} {T U T' U':Array Value}
theorem bB.lt(h:bB w b V bs T U):b < w.heap.size:=ac h.r
theorem bB.same(h:bB w b V bs T U)(hb:w'.heap[b]? = w.heap[b]?):bB w' b V bs T U:=⟨by rw[← h.r];simp[readAt,hb],by rw[← h.k];simp[canAt,hb],h.t,h.u⟩
theorem bB.below(h:bB w b V bs T U)(hb:Below w.heap.size w w'):bB w' b V bs T U:=h.same (hb.block b h.lt)
theorem bB.drew(h:bB w b V bs T U):bB w.drew b V bs T U:=h.same rfl
theorem bB.f0(h:bB w b V bs T U):w.cell? ⟨b,0,none⟩=some (.pointer (some V)):=gH (a:=#[]) (c:=#[bs] ++ T ++ U) h.r (by apply Array.ext';simp[ki]) 0 sm om
theorem bB.f1(h:bB w b V bs T U):w.cell? ⟨b,1,none⟩=some bs:=gH (a:=#[.pointer (some V)]) (c:=T ++ U) h.r (by apply Array.ext';simp[ki]) 1 sm om
theorem bB.f2(h:bB w b V bs T U):readAt w b 2 20=some T:=fp (a:=#[.pointer (some V),bs]) (c:=U) h.r (by apply Array.ext';simp[ki]) 2 20 sm h.t.symm om
theorem bB.f3(h:bB w b V bs T U):readAt w b 22 5=some U:=fp (a:=#[.pointer (some V),bs] ++ T) (c:=#[]) h.r (by apply Array.ext';simp[ki]) 22 5 (by simp[h.t]) h.u.symm om
theorem bB.k2(h:bB w b V bs T U):canAt w b 2 20=true:=aC h.k 2 20 om
theorem bB.k3(h:bB w b V bs T U):canAt w b 22 5=true:=aC h.k 22 5 om
theorem bB.setT(h:bB w b V bs T U)(ht:T'.size=20):bB (setAt w b 2 T') b V bs T' U:=by
 refine⟨?_,by rw[ap _ _ _ _ _ _ _ (by rw[ht];exact h.k2)];exact h.k,ht,h.u⟩
 rw[ae w b 0 27 _ h.r h.k 2 _ om om,Nat.sub_zero,ki,jW #[.pointer (some V),bs] T U T' 2 rfl (by rw[ht,h.t])]
 rfl
theorem bB.setU(h:bB w b V bs T U)(hu:U'.size=5):bB (setAt w b 22 U') b V bs T U':=by
 refine⟨?_,by rw[ap _ _ _ _ _ _ _ (by rw[hu];exact h.k3)];exact h.k,h.t,hu⟩
 rw[ae w b 0 27 _ h.r h.k 22 _ om om,Nat.sub_zero,ki,o5 (#[.pointer (some V),bs] ++ T) U U' 22 (by simp[h.t]) (by rw[hu,h.u])]
 rfl
end
theorem bB.made(w:World)(V:Addr)(bs:Value)(T U:Array Value)(ht:T.size=20)(hu:U.size=5):bB (w.alloc (.cells (ki V bs T U) 101)) w.heap.size V bs T U:=by
 have hs:(ki V bs T U).size=27:=by simp[ki,ht,hu]
 refine⟨?_,?_,ht,hu⟩
 ·rw[aj _ _ _ _ _ _ _ rfl om];refine congrArg some (Array.ext' ?_);simp[List.extract_eq_take_drop];exact List.take_of_length_le (by simp[hs])
 ·rw[aq _ _ _ _ _ _ rfl om]
theorem cK(w:World)(b o:Nat)(cs:Array Value):Kb (fun i=>i=b) w (setAt w b o cs):=(Ob.setAt w b o cs).kb rfl
def Ri(o:Except Nat (t6 × iq))(b:Nat)(V:Addr)(bs:Value)(e:Ending)(w':World):Prop :=
 match o with
 | .error c=>e = .returned (.int .i64 (c:Nat))∧bB w' b V bs (tv ⟨#[]⟩ none 0 0 0 0 cM) (St ⟨#[]⟩ none 0 0 0 0 0)
 | .ok ((r,ps,st,en,k),(r',ps',t,m,q))=>e = .returned (.int .i64 0)∧∃ ad c ad2 c2,bB w' b V bs (tv (aY r) ad ps.length c (st:Nat) (en:Nat) k) (St (aY r') ad2 ps'.length c2 (t:Nat) (m:Nat) (q:Nat))∧aM w' ad ps.length c (ps.map aY)∧aM w' ad2 ps'.length c2 (ps'.map aY)∧(∀ a,ad=some a→b < a.block)∧∀ a,ad2=some a→b < a.block
theorem Bo(w:World)(b V:Nat)(ad:Option Addr)(n c:Nat)(T U:Array Value)(key:RW)(skew now:Int)(d cp:Option Addr)(l:List UInt8)(hg:GK w)(hb:0 < b)(h:bB w b ⟨V,0,none⟩ (.slice ad n c) T U)(hV:bg w V key skew d now cp)(hbV:b≠V)(hl:Bs w ad n c l)(hn:n≤1000000):
  Calls prog 36 #[.pointer (some ⟨b,0,none⟩)] w fun e w'=>Ri (eC key l) b ⟨V,0,none⟩ (.slice ad n c) e w'∧Kb (fun i=>i=b) w w':=by
 have H:=SM h;have HV:=SM hV;have HG:=SM hg;have Hl:=SM hl;obtain⟨R,hR⟩:=eY (eC key l);rw[hR];have HR:=SM hR;clear h hV hg hl hR
 go_in
 go_wp2_with fail
 have hdb:=(Sy w).drew;refine yW (tk 0 13 (.run 13 (tk 14 6 (.run 20 (tk 21 2 (.run 23 (.take 24 .done))))))) (fun u=>(∃ T U,bB u b ⟨V,0,none⟩ (.slice ad n c) T U)∧bg u V key skew d now cp) ⟨⟨_,_,H.o.drew⟩,HV.o.drew⟩ ?_;have h1:=H.o.drew;have hV1:=HV.o.drew;have hg1:=HG.o.below HG.o.1 hdb;have hl1:=Hl.o.below hdb;have hz1:=hdb.size;have Hdb:=SM hdb;clear hdb H HV HG Hl;generalize w.drew=w1 at *
 repeat((first|refine yO ?_|refine yM ?_|refine yF rfl rfl (fun w' hC'=>by obtain⟨⟨T',U',hT'⟩,hV'⟩:=hC';have c0:=hT'.f0;have c1:=hT'.f1;have c2:=hV'.f0;go_simp;first|done|exact rfl) ?_);walk_nrm)
 refine yR ?_;refine (sV key ad n c l w1 hg1 hl1 hn).mono ?_;rintro e w2 ⟨hq,hb2⟩;have h2:=h1.below hb2;have hV2:=hV1.below hb2;have hlb:=h1.lt;have Hb2:=SM (bt Hdb.o hb2);rw[HR.o] at hq;clear h1 hV1 hg1 hl1 hb2 HR;cases R with
 | error k =>
  obtain rfl:e = .returned (.tuple #[.agg (tv ⟨#[]⟩ none 0 0 0 0 cM),.agg (St ⟨#[]⟩ none 0 0 0 0 0),.int .i64 k]):=hq;refine kS ⟨⟨_,_,h2⟩,hV2⟩ ?_;walk_nrm
  repeat(refine yA ?_;walk_nrm)
  have k2:=h2.k2;refine dd rfl rfl (fun K hK=>?_);go_simp;have h3:=h2.setT (T':=tv ⟨#[]⟩ none 0 0 0 0 cM) (kf ..);have hV3:=hV2.apart b 2 (tv ⟨#[]⟩ none 0 0 0 0 cM) hbV;refine hK _ _ (fun u=>(∃ T U,bB u b ⟨V,0,none⟩ (.slice ad n c) T U)∧bg u V key skew d now cp) (fun _ h=>h) ⟨⟨_,_,h3⟩,hV3⟩ ?_;have hk3:=cK w2 b 2 (tv ⟨#[]⟩ none 0 0 0 0 cM);clear hK k2 h2 hV2;generalize setAt w2 b 2 (tv ⟨#[]⟩ none 0 0 0 0 cM)=w3 at *
  repeat(refine yA ?_;walk_nrm)
  have k3:=h3.k3;refine dd rfl rfl (fun K hK=>?_);go_simp;have h4:=h3.setU (U':=St ⟨#[]⟩ none 0 0 0 0 0) rfl;have hV4:=hV3.apart b 22 (St ⟨#[]⟩ none 0 0 0 0 0) hbV;refine hK _ _ (fun u=>(∃ T U,bB u b ⟨V,0,none⟩ (.slice ad n c) T U)∧bg u V key skew d now cp) (fun _ h=>h) ⟨⟨_,_,h4⟩,hV4⟩ ?_;have hk4:=cK w3 b 22 (St ⟨#[]⟩ none 0 0 0 0 0);clear hK k3 h3 hV3 hV4;generalize setAt w3 b 22 (St ⟨#[]⟩ none 0 0 0 0 0)=w4 at *
  repeat(refine yA ?_;walk_nrm)
  refine al ?_;have H4:=SM h4;have Hk:=SM (((Kb.of_below (X:=fun i=>i=b) Hb2.o).trans hk3 (fun i hi=>.inl hi)).trans hk4 (fun i hi=>.inl hi));clear h4 hk3 hk4
  go_wp2
  go_ret
  exact⟨⟨rfl,H4.o⟩,Hk.o⟩
 | ok t =>
  obtain⟨⟨r,ps,st,en,k⟩,r',ps',t,m,q⟩:=t;obtain⟨ad1,c1,ad2,c2,rfl,hs1,hf1,hs2,hf2⟩:=hq;refine kS ⟨⟨_,_,h2⟩,hV2⟩ ?_;walk_nrm
  repeat(refine yA ?_;walk_nrm)
  have k2:=h2.k2;refine dd rfl rfl (fun K hK=>?_);go_simp;have h3:=h2.setT (T':=tv (aY r) ad1 ps.length c1 (st:Nat) (en:Nat) k) (kf ..);have hV3:=hV2.apart b 2 (tv (aY r) ad1 ps.length c1 (st:Nat) (en:Nat) k) hbV;refine hK _ _ (fun u=>(∃ T U,bB u b ⟨V,0,none⟩ (.slice ad n c) T U)∧bg u V key skew d now cp) (fun _ h=>h) ⟨⟨_,_,h3⟩,hV3⟩ ?_;have hk3:=cK w2 b 2 (tv (aY r) ad1 ps.length c1 (st:Nat) (en:Nat) k)
  clear hK k2 h2 hV2;generalize setAt w2 b 2 (tv (aY r) ad1 ps.length c1 (st:Nat) (en:Nat) k)=w3 at *
  repeat(refine yA ?_;walk_nrm)
  have k3:=h3.k3;refine dd rfl rfl (fun K hK=>?_);go_simp;have h4:=h3.setU (U':=St (aY r') ad2 ps'.length c2 (t:Nat) (m:Nat) (q:Nat)) rfl;have hV4:=hV3.apart b 22 (St (aY r') ad2 ps'.length c2 (t:Nat) (m:Nat) (q:Nat)) hbV;refine hK _ _ (fun u=>(∃ T U,bB u b ⟨V,0,none⟩ (.slice ad n c) T U)∧bg u V key skew d now cp) (fun _ h=>h) ⟨⟨_,_,h4⟩,hV4⟩ ?_;have hk4:=cK w3 b 22 (St (aY r') ad2 ps'.length c2 (t:Nat) (m:Nat) (q:Nat))
  clear hK k3 h3 hV3 hV4;generalize setAt w3 b 22 (St (aY r') ad2 ps'.length c2 (t:Nat) (m:Nat) (q:Nat))=w4 at *
  repeat(refine yA ?_;walk_nrm)
  refine al ?_;have H4:=SM h4;have hkk:=hk3.trans hk4 (fun i hi=>.inl hi);have Hk:=SM ((Kb.of_below (X:=fun i=>i=b) Hb2.o).trans hkk (fun i hi=>.inl hi));have hs:∀ ad n c L,aM w2 ad n c L→(∀ a,ad=some a→w1.heap.size≤a.block)→aM w4 ad n c L:=fun ad n c L hh hf=>⟨hh.1,hh.2.same (fun g hg hl=>hkk.block g hl (fun e=>by
   subst e;cases ad with
   | none=>cases hg
   | some a =>
    simp only[Value.ownBlock,Option.some.injEq] at hg;have:=hf a rfl;omega))⟩
  have Hs1:=SM (hs _ _ _ _ hs1 hf1);have Hs2:=SM (hs _ _ _ _ hs2 hf2);have Hf1:Hd (∀ a,ad1=some a→b < a.block):=SM (fun a e=>by have:=hf1 a e;omega)
  have Hf2:Hd (∀ a,ad2=some a→b < a.block):=SM (fun a e=>by have:=hf2 a e;omega)
  clear h4 hk3 hk4 hkk hs hs1 hs2 hf1 hf2
  go_wp2
  go_ret
  exact⟨⟨rfl,ad1,c1,ad2,c2,H4.o,Hs1.o,Hs2.o,Hf1.o,Hf2.o⟩,Hk.o⟩
theorem yp(w:World)(b V:Nat)(bs:Value)(t:t6)(a:iq)(ad ad2:Option Addr)(c c2:Nat)(key:RW)(skew now:Int)(d cp:Option Addr)(h:bB w b ⟨V,0,none⟩ bs (tv (aY t.1) ad t.2.1.length c (t.2.2.1:Nat) (t.2.2.2.1:Nat) t.2.2.2.2) (St (aY a.1) ad2 a.2.1.length c2 (a.2.2.1:Nat) (a.2.2.2.1:Nat) (a.2.2.2.2:Nat)))
  (hV:bg w V key skew d now cp) (h1:aM w ad t.2.1.length c (t.2.1.map aY)) (h2:aM w ad2 a.2.1.length c2 (a.2.1.map aY)) (ht:t.2.2.1≤1099511627776∧t.2.2.2.1≤1099511627776∧a.2.2.1≤1099511627776) (hs:0≤skew∧skew≤1073741824) (hw:0≤now∧now≤1099511627776) :
  Calls prog 37 #[.pointer (some ⟨b,0,none⟩)] w fun e w'=>e = .returned (.int .i64 (iz now skew t a))∧Below w.heap.size w w':=by
 have H:=SM h;have HV:=SM hV;have H1:=SM h1;have H2:=SM h2;obtain⟨R,hR⟩:=eY (iz now skew t a);rw[hR];unfold iz at hR;have HR:=SM hR;clear h hV h1 h2 hR
 go_in
 go_wp2_with fail
 have hdb:=(Sy w).drew;obtain⟨T,hT⟩:=eY (tv (aY t.1) ad t.2.1.length c (t.2.2.1:Nat) (t.2.2.2.1:Nat) t.2.2.2.2);obtain⟨U,hU⟩:=eY (St (aY a.1) ad2 a.2.1.length c2 (a.2.2.1:Nat) (a.2.2.2.1:Nat) (a.2.2.2.2:Nat));rw[hT,hU] at H;refine yW (tk 0 22 (.run 22 (.take 23 .done))) (fun u=>bB u b ⟨V,0,none⟩ bs T U∧bg u V key skew d now cp) ⟨H.o.drew,HV.o.drew⟩ ?_;have h0:=H.o.drew;have hV0:=HV.o.drew;have h1:=H1.o.below hdb
 have h2:=H2.o.below hdb;have Hdb:=SM hdb;clear hdb H HV H1 H2;generalize w.drew=w1 at *
 repeat((first|refine yO ?_|refine yM ?_|refine yF rfl rfl (fun w' hC'=>by obtain⟨hT',hV'⟩:=hC';have c0:=hT'.f0;have r2:=hT'.f2;have r3:=hT'.f3;have c1:=hV'.f1;have c3:=hV'.f3;go_simp;first|done|exact rfl) ?_);walk_nrm)
 refine yR ?_;refine (show Calls prog 61 #[.agg T,.agg U,.int .i64 now,.int .i64 skew] w1 _ by rw[← hT,← hU];exact BM (aY t.1) (aY a.1) ad ad2 t.2.1.length a.2.1.length c c2 (t.2.1.map aY) (a.2.1.map aY) (t.2.2.1:Nat) (t.2.2.2.1:Nat) (a.2.2.1:Nat) (a.2.2.2.1:Nat) (a.2.2.2.2:Nat) now skew t.2.2.2.2 w1 (by simp[fk];omega) (by simp[fk];omega) (by simp[fk];omega) (by simp[fk];omega) (by simp[fk];omega) h1 h2).mono ?_
 rintro _ w2 ⟨rfl,hb2⟩;rw[HR.o];have Hb2:=SM (bt Hdb.o hb2);refine kS ⟨h0.below hb2,hV0.below hb2⟩ ?_;walk_nrm
 repeat(refine yA ?_;walk_nrm)
 refine al ?_;clear hb2 h0 hV0 h1 h2
 go_wp2
 go_ret
 exact⟨rfl,Hb2.o⟩
end
end Go.Proofs.YtlcfaaodmickbaaGreatDoor
