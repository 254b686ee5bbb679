/- Part 3 of the proof: texts merged and shortened by a program. No conditions. -/
import Derived.Maps.AppendAt
import Derived.Maps.OwnSet
import Derived.Test.YtlcfaaodmickbaaGreatDoorPc02
set_option linter.unusedSimpArgs false
set_option linter.unusedVariables false
set_option maxRecDepth 100000
set_option maxHeartbeats 8000000
namespace Go.Proofs.YtlcfaaodmickbaaGreatDoor
open Go.RowKit Go.Proofs.Tryz
section
def ic(l:List UInt8):Sj:=Vector.ofFn fun i=>l.getD i 0
theorem Fo(l:List UInt8)(h:l.length≤64):bK (av cB) 0 (bv l)=av (ic l):=by
 apply Array.ext_getElem?
 intro i;rw[bU _ _ _ (by simpa using h)]
 by_cases hi:i < 64
 ·rw[iw _ i hi]
  by_cases h2:i < l.length
  ·rw[if_pos (by simp;exact h2)]
   simp[bv,B8,ic,h2];rw[iw _ i hi];simp[h2]
  ·rw[if_neg sO,iw _ i hi];simp[ic,cB,List.getD,h2]
 ·rw[if_neg sO];simp[hi]
theorem cu{fn:Func}{p q:Tmp}(h:fn.results=#[.cell p 201,.tmp q])(tmps:Array Value)(w:World)(b o:Nat)(cs:Array Value)(v:Value)
  (hp:tmps.getD p undef = .pointer (some ⟨b,o,none⟩)) (hq:tmps.getD q undef=v) (hg:readAt w b o 64=some cs):(results fn tmps).run prog w = .ok (.tuple #[.agg cs,v]) w:=by
 have hp':tmps[p]?.getD undef = .pointer (some ⟨b,o,none⟩):=by simpa using hp
 have hq':tmps[q]?.getD undef=v:=by simpa using hq
 simp[results,h,hp',hq',asAddr,az w b o 64 201 _ cs hg underlying201 rfl lK]
theorem Gz(ad:Option Addr)(n c:Nat)(l:List UInt8)(w:World)(hr:AP w ad n l)(h:n≤64):
  Calls prog 203 #[.slice ad n c] w fun e w'=>e = .returned (.tuple #[.agg (av (ic l)),.bool true])∧Below w.heap.size w w':=by
 obtain⟨hl,_,hr⟩:=hr;obtain⟨W,hW⟩ : ∃ W,W=((w.alloc (.cells (av cB) 201)).alloc (.cells (av cB) 201)):=⟨_,rfl⟩;have hb:Below w.heap.size w W:=by subst hW;exact (ba _ (ba _ (Below.refl _ _)))
 have hcp:∃ W2,(Builtin.copy_ #[39,39] 3 #[.slice (some ⟨w.heap.size+1,0,none⟩) 64 64,.slice ad n c]).run prog W = .ok (goInt n) W2 ∧
   readAt W2 (w.heap.size+1) 0 64=some (av (ic l))∧canAt W2 w.heap.size 0 64=true∧Below w.heap.size w W2:=by
  by_cases h0:0 < n
  ·obtain⟨b,o,rfl,hrd⟩:=hr h0;have hlt:=ac hrd;refine⟨setAt W (w.heap.size+1) 0 (bv l),dP W 3 (w.heap.size+1) 0 64 64 b o n c n (by simp only[Nat.min_def];split <;> omega) (bv l) ?_ ?_ (oG l),?_,?_,aa hb om _ _⟩
   ·subst hW;simp[go_sem,h]
   ·rw[ak hb hlt];exact hrd
   ·subst hW;rw[ae _ _ 0 64 (av cB) (by simp[go_sem]) (by simp[go_sem]) 0 _ (Nat.le_refl _) (by simp[hl,h])]
    exact congrArg some (Fo l om)
   ·subst hW;simp[go_sem]
  ·obtain rfl:n=0:=om;obtain rfl:l=[]:=List.eq_nil_of_length_eq_zero hl;refine⟨W,run_copy_none W _ _ _ 5 _ _ _ _ _ _ underlying39 cQ sm,?_,?_,hb⟩
   ·subst hW;simp[go_sem]
    congr 1
   ·subst hW;simp[go_sem]
 obtain⟨W2,hcp,h1,h2,h3⟩:=hcp;subst hW
 go_in
 go_wp2
 refine bodyPost_ret (cu rfl _ _ (w.heap.size) 0 (av (ic l)) _ rfl rfl ?_) rfl ⟨rfl,aa h3 (Nat.le_refl _) _ _⟩;exact am _ _ _ _ _ sm h2
end
section
open Go.RowKit
end
section
open Go.RowKit
end
section
def wv(a:Int)(x:Sj):Array Value:=#[.int .i64 a] ++ av x
@[simp] theorem vS(a:Int)(x:Sj):(wv a x).size=65:=by simp[wv]
theorem J1(a:Int)(x:Sj):∀ v ∈ wv a x,v.oneCell'=true:=by
 intro v hv;simp only[wv,Array.mem_append] at hv
 rcases hv with hv | hv
 ·simp at hv;subst hv;rfl
 ·exact oE x v hv
@[go_sem] theorem PC(a:Int)(x:Sj):(wv a x)[0]? = some (.int .i64 a):=by simp[wv]
@[go_sem] theorem wF(a:Int)(x:Sj):(wv a x).extract 1 65=av x:=by
 apply Array.ext'
 simp[wv,List.extract_eq_take_drop];exact List.take_of_length_le sm
@[go_sem] theorem Rh(a:Int)(x:Sj):(wv a x).extract 0 65=wv a x:=by
 apply Array.ext'
 simp[List.extract_eq_take_drop];exact List.take_of_length_le sm
attribute [go_sem] vS
theorem ko:(prog.info? 201).map (fun i=>(i.zero,i.size,i.bytes))=some (some (.agg (av cB)),64,64):=kr
def wP(n:Nat)(parts:Array (Nat × Value)):Sem Value:=Instr.buildSlice 80 n parts
@[go_sem ↓] theorem Pj(n:Nat)(parts:Array (Nat × Value)):Instr.buildSlice 80 n parts=wP n parts:=rfl
@[go_sem] theorem Ia(w:World):(wP 0 #[]).run prog w = .ok (.slice (some ⟨w.heap.size,0,none⟩) 0 0) (w.alloc (.cells #[] 201)):=by
 obtain⟨i,hi,hz,hs,hb⟩:=info_parts ko;exact dV w _ _ i underlying80 hi
theorem rm:(prog.info? 203).map (fun i=>(i.zero,i.size,i.bytes))=some (some (.agg (wv 0 cB)),65,72):=kr
theorem CD:(prog.info? 203).map (·.size)=some 65:=kr
def A1(v:Value):Sem Value:=Instr.loadAt 203 v
def Bc(v x:Value):Sem Unit:=Instr.storeAt 203 v x
def uj:Sem Value:=Instr.alloc 203 true (.tuple #[])
def AO(parts:Array (Nat × Value)):Sem Value:=Instr.build 203 parts
def A3(n:Nat)(parts:Array (Nat × Value)):Sem Value:=Instr.buildSlice 81 n parts
@[go_sem ↓] theorem OW(v:Value):Instr.loadAt 203 v=A1 v:=rfl
@[go_sem ↓] theorem NR(v x:Value):Instr.storeAt 203 v x=Bc v x:=rfl
@[go_sem ↓] theorem PP:Instr.alloc 203 true (.tuple #[])=uj:=rfl
@[go_sem ↓] theorem PW(parts:Array (Nat × Value)):Instr.build 203 parts=AO parts:=rfl
@[go_sem ↓] theorem Qf(n:Nat)(parts:Array (Nat × Value)):Instr.buildSlice 81 n parts=A3 n parts:=rfl
@[go_sem ↓] theorem Nv(w:World)(b o:Nat)(h:(readAt w b o 65).isSome=true):
  (A1 (.pointer (some ⟨b,o,none⟩))).run prog w = .ok (.agg ((readAt w b o 65).getD #[])) w:=by
 obtain⟨cs,hc⟩:=Option.isSome_iff_exists.1 h;unfold A1;rw[aJ w b o 65 203 _ cs hc underlying203 rfl CD,hc];rfl
@[go_sem ↓] theorem Mb(w:World)(b o:Nat)(a:Int)(x:Sj)(h:canAt w b o 65=true):
  (Bc (.pointer (some ⟨b,o,none⟩)) (.agg (wv a x))).run prog w = .ok () (setAt w b o (wv a x)) :=
 aH w b o 65 203 (wv a x) h (vS a x) CD (J1 a x)
@[go_sem] theorem LK(w:World):
  uj.run prog w = .ok (.pointer (some ⟨w.heap.size,0,none⟩)) (w.alloc (.cells (wv 0 cB) 203)):=by
 obtain⟨i,hi,hz,hs,hb⟩:=info_parts rm;unfold uj;simp[Instr.alloc,zeroValue,typeInfo,hi,hz,newVar,newRow,Value.cells]
@[go_sem] theorem JK(w:World)(a:Int)(x:Sj):(A3 1 #[(0,.agg (wv a x))]).run prog w = .ok (.slice (some ⟨w.heap.size,0,none⟩) 1 1) (w.alloc (.cells (wv a x) 203)):=by
 obtain⟨i,hi,hz,hs,hb⟩:=info_parts rm;exact eo w _ _ i _ (.agg (wv a x)) underlying81 hi hz (by simp[hs,Value.cells]) (by simp[Value.cells]) (by simp[Value.cells]) (by simp[Value.cells])
theorem Dt:(match prog.underlying 203 with | some (.struct fields)=>fields.toList.mapM (fun f=>(prog.info? f.type).map fun i=>(f.offset,i.size)) | _=>none)=some [(0,1),(1,64)]:=kr
set_option maxRecDepth 100000 in
theorem Fv(a:Int)(x:Sj):prog.built 203 [(0,.int .i64 a),(1,.agg (av x))]=some (wv a x):=by
 obtain⟨i,hi,hz,hs,hb⟩:=info_parts rm;have hp:=Dt;rw[underlying203] at hp;simp only[Program.built,hi,underlying203,hz];simp only at hp;rw[hp];simp only[Value.cells,Instr.fill,List.getElem?_toArray,List.getElem?_cons_zero,List.getElem?_cons_succ,Nat.zero_add];rw[if_neg sm,if_neg sm];have h1:=lH (wv 0 cB) #[.int .i64 a] 0 sm;simp only[Nat.zero_add] at h1;rw[h1,lH _ (av x) 1 (by rw[da _ _ _ sm];simp)]
 congr 1
 apply Array.ext_getElem?
 intro j;rw[bU _ _ _ (by rw[da _ _ _ sm];simp),bU _ _ _ sm]
 by_cases h1:1≤j∧j < 1+(av x).size
 ·rw[if_pos h1];simp only[wv];rw[Array.getElem?_append_right sO];simp
 ·rw[if_neg h1];simp only[cU] at h1
  by_cases h2:j=0
  ·subst h2;simp[wv]
  ·rw[if_neg sO,Array.getElem?_eq_none sO,Array.getElem?_eq_none sO]
@[go_sem] theorem LN(w:World)(a:Int)(x:Sj):(AO #[(0,.int .i64 a),(1,.agg (av x))]).run prog w = .ok (.agg (wv a x)) w:=run_build w _ _ _ (Fv a x)
end
section
theorem BL{w:World}{b n:Nat}{cs:Array Value}(h:readAt w b 0 n=some cs):∀ j u,cs.toList[j]? = some u→w.cell? ((⟨b,0,none⟩ : Addr).add j)=some u:=fun j u hu=>by
 have:=ab h j u (by simpa using hu)
 rw[Addr.add_lit];simpa using this
theorem IL:(prog.info? 3).map (fun i=>(i.zero,i.size,i.bytes))=some (some (.int .i64 0),1,8):=kr
end
section
def To(p:Int × Sj):Array Value:=wv p.1 p.2
end
section
def dI(L:List Sj)(p:Int × Sj)(cut:Int):List Sj:=L.set p.1.toNat (tear (L.getD p.1.toNat cB) p.2 cut)
def bC(L:List Sj)(W:List (Int × Sj))(C:Nat→Int):Nat→List Sj
 | 0=>L
 | k+1=>dI (bC L W C k) (W.getD k (0,cB)) (C k)
@[simp] theorem bY(L:List Sj)(W:List (Int × Sj))(C:Nat→Int)(k:Nat):(bC L W C k).length=L.length:=by
 induction k with
 | zero=>rfl
 | succ k ih=>simp[bC,dI,ih]
def kx(cs:List Int)(k:Nat):Int:=cs.getD k 0
theorem qZ(p:Int × Sj):(To p).size=65:=vS _ _
end
section
structure RT where
 step:Int
 crash:Bool
 cuts:List Int
structure DM where
 st:List Sj
 op:List (Int × Sj)
 down:Bool
 steps:Int
 plan:List RT
def SL(l:List RT)(k:Int):Bool:=l.any fun e=>decide (e.step=k) && !e.crash
def SJ(l:List RT)(k:Int):Option (List Int):=l.foldl (fun r e=>if e.step=k∧e.crash=true then some e.cuts else r) none
theorem xm(l:List RT)(e:RT)(k:Int):SL (l ++ [e]) k=(SL l k || (decide (e.step=k) && !e.crash)):=by simp[SL]
theorem qn(l:List RT)(e:RT)(k:Int):SJ (l ++ [e]) k=if e.step=k∧e.crash=true then some e.cuts else SJ l k:=by simp[SJ]
def zo(k:Int):Nat→List (Int × Sj)→Option Nat→Option Nat
 | _,[],r=>r
 | i,p :: l,r=>zo k (i+1) l (if p.1=k then some i else r)
theorem oT(k:Int):∀ (l:List (Int × Sj)) (i:Nat) (r:Option Nat) (p:Int × Sj),zo k i (l ++ [p]) r=if p.1=k then some (i+l.length) else zo k i l r
 | [],i,r,p=>by simp[zo]
 | q :: l,i,r,p=>by
  simp only[List.cons_append,zo,oT k l,List.length_cons]
  split
  ·congr 1;omega
  ·rfl
def zp(l:List (Int × Sj))(k:Int):Option Nat:=zo k 0 l none
theorem oU(l:List (Int × Sj))(p:Int × Sj)(k:Int):zp (l ++ [p]) k=if p.1=k then some l.length else zp l k:=by
 unfold zp;rw[oT,Nat.zero_add]
def vq(l:List (Int × Sj))(k:Int)(s:Sj):Sj:=l.foldl (fun r p=>if p.1=k then p.2 else r) s
theorem zz(l:List (Int × Sj))(p:Int × Sj)(k:Int)(s:Sj):vq (l ++ [p]) k s=if p.1=k then p.2 else vq l k s:=by simp[vq]
theorem di{α:Type}{motive:List α→Prop}(h0:motive [])(h1:∀ l a,motive l→motive (l ++ [a]))(l:List α):motive l:=by
 have:∀ n,∀ l:List α,l.length=n→motive l:=by
  intro n
  induction n with
  | zero=>intro l hl;rw[List.eq_nil_of_length_eq_zero hl];exact h0
  | succ n ih =>
   intro l hl;have hne:l≠[]:=by rintro rfl;cases hl
   rw[← List.dropLast_concat_getLast hne];exact h1 _ _ (ih _ sO)
 exact this _ l rfl
theorem Gv(l:List (Int × Sj))(k:Int)(s:Sj):(zp l k=none∧vq l k s=s)∨∃ i p,zp l k=some i∧l[i]? = some p∧p.1=k∧vq l k s=p.2:=by
 induction l using di with
 | h0=>exact .inl ⟨rfl,rfl⟩
 | h1 l a ih =>
  rw[oU,zz]
  by_cases h:a.1=k
  ·rw[if_pos h,if_pos h];exact .inr ⟨l.length,a,rfl,sm,h,rfl⟩
  ·rw[if_neg h,if_neg h]
   rcases ih with ih | ⟨i,p,h1,h2,h3⟩
   ·exact .inl ih
   ·exact .inr ⟨i,p,h1,by rw[List.getElem?_append_left (List.getElem?_eq_some_iff.1 h2).1];exact h2,h3⟩
def kH(D:DM)(k:Int):Bool:=decide (0≤k) && decide (k < D.st.length)
def dG(n:Int):DM:={ st:=List.replicate (min (max n 0) 4096).toNat cB,op:=[],down:=false,steps:=0,plan:=[] }
def eD(D:DM)(k:Int):Sj × Int :=
 if D.down=true then (cB,12) else if kH D k=false then (cB,15) else (vq D.op k (D.st.getD k.toNat cB),0)
def de(D:DM)(cuts:List Int):DM:={ D with st:=bC D.st D.op (kx cuts) D.op.length,op:=[],down:=true }
def cX(D:DM):DM:={ D with steps:=D.steps+1 }
def pU(D:DM)(k:Int)(x:Sj):DM:=if kH D k=true then { D with op:=D.op ++ [(k,x)] } else D
def oS(D:DM):DM:={ D with st:=bC D.st D.op (fun _=>64) D.op.length,op:=[] }
def bE(D:DM)(k:Int)(x:Sj):DM × Int :=
 if D.down=true then (D,12) else
 match SJ D.plan (D.steps+1) with
 | some cuts=>(de (pU (cX D) k x) cuts,12)
 | none=>if SL D.plan (D.steps+1)=true then (cX D,11) else if kH D k=true then (pU (cX D) k x,0) else (cX D,15)
def bz(D:DM):DM × Int :=
 if D.down=true then (D,12) else
 match SJ D.plan (D.steps+1) with
 | some cuts=>(de (cX D) cuts,12)
 | none=>if SL D.plan (D.steps+1)=true then (cX D,11) else (oS (cX D),0)
def bP(D:DM)(n:Int)(crash:Bool)(cuts:List Int):DM:=if n < 1 then D else { D with plan:=D.plan ++ [⟨D.steps+n,crash,cuts⟩] }
def bT(D:DM):DM:={ D with down:=false }
@[simp] theorem Qo(D:DM)(k:Int)(x:Sj):(pU D k x).st=D.st:=by unfold pU;split <;> rfl
@[simp] theorem M6(D:DM)(k:Int)(x:Sj):(pU D k x).steps=D.steps:=by unfold pU;split <;> rfl
@[simp] theorem N2(D:DM)(k:Int)(x:Sj):(pU D k x).plan=D.plan:=by unfold pU;split <;> rfl
@[simp] theorem Qh(D:DM):(cX D).st=D.st:=rfl
@[simp] theorem Qg(D:DM):(cX D).op=D.op:=rfl
@[simp] theorem NS(D:DM):(cX D).plan=D.plan:=rfl
@[simp] theorem yZ(D:DM)(cuts:List Int):(de D cuts).st.length=D.st.length:=bY _ _ _ _
@[simp] theorem ze(D:DM):(oS D).st.length=D.st.length:=bY _ _ _ _
theorem mJ(D:DM)(k:Int):kH (cX D) k=kH D k:=rfl
structure R0 (D:DM) (n m:Nat):Prop where
 len:D.st.length=n
 at_:∀ p ∈ D.op,0≤p.1∧p.1 < n
 few:D.op.length≤m
 s0:0≤D.steps
 s1:D.steps≤m
theorem R0.more{D:DM}{n m m':Nat}(h:R0 D n m)(hm:m≤m'):R0 D n m':=⟨h.len,h.at_,Nat.le_trans h.few hm,h.s0,Int.le_trans h.s1 om⟩
theorem R0.tick{D:DM}{n m:Nat}(h:R0 D n m):R0 (cX D) n (m+1):=⟨h.len,h.at_,Nat.le_trans h.few (Nat.le_succ _),by have:=h.s0;show 0≤D.steps+1;omega,by have:=h.s1;show D.steps+1≤_;omega⟩
theorem R0.add{D:DM}{n m:Nat}(h:R0 D n m)(k:Int)(x:Sj):R0 (pU D k x) n (m+1):=by
 unfold pU
 split
 ·rename_i hk
  simp only[kH,Bool.and_eq_true,decide_eq_true_eq,h.len] at hk;refine⟨h.len,fun p hp=>?_,by have:=h.few;simp;omega,h.s0,by have:=h.s1;show D.steps≤_;omega⟩
  rcases List.mem_append.1 hp with hp | hp
  ·exact h.at_ p hp
  ·obtain rfl:p=(k,x):=by simpa using hp
   exact hk
 ·exact h.more (Nat.le_succ _)
theorem R0.crash{D:DM}{n m:Nat}(h:R0 D n m)(cuts:List Int):R0 (de D cuts) n m:=⟨by rw[yZ];exact h.len,fun p hp=>(by cases hp),by simp[de],h.s0,h.s1⟩
theorem R0.flush{D:DM}{n m:Nat}(h:R0 D n m):R0 (oS D) n m:=⟨by rw[ze];exact h.len,fun p hp=>(by cases hp),by simp[oS],h.s0,h.s1⟩
theorem R0.plan{D:DM}{n m:Nat}(h:R0 D n m)(k:Int)(c:Bool)(cuts:List Int):R0 (bP D k c cuts) n m:=by
 unfold bP;split
 ·exact h
 ·exact⟨h.len,h.at_,h.few,h.s0,h.s1⟩
theorem R0.start{D:DM}{n m:Nat}(h:R0 D n m):R0 (bT D) n m:=⟨h.len,h.at_,h.few,h.s0,h.s1⟩
end
section
open Go.RowKit Go.ChangeMaps
open Go.Maps (Keyed int_keyed keyOf_int_mk)
theorem lg:Keyed prog 3:=int_keyed underlying3
def RV(a:Int):Prop := -9223372036854775808≤a∧a≤9223372036854775807
theorem Gq{a:Int}(h:RV a):keyOf prog 3 (.int .i64 a)=some (.int .i64 a):=keyOf_int_mk underlying3 (by unfold RV at h;simp[Lit.wf,IntKind.min,IntKind.max,IntKind.signed,IntKind.bits];omega)
def IM(w:World)(b:Nat)(M:Int→Option Value):Prop :=
 ∃ es clock,w.heap[b]? = some (.map es clock)∧(∀ e ∈ es.toList,∃ a,e.key = .int .i64 a∧RV a) ∧
  (∀ (i j:Nat) (e f:MapEntry),es.toList[i]? = some e→es.toList[j]? = some f→e.key=f.key→i=j) ∧
  ∀ k v,M k=some v↔∃ e ∈ es.toList,e.key = .int .i64 k∧e.val=v
theorem IM.lt{w:World}{b:Nat}{M:Int→Option Value}(h:IM w b M):b < w.heap.size:=by
 obtain⟨es,clock,hb,_⟩:=h;exact (Array.getElem?_eq_some_iff.1 hb).1
theorem IM.kept{w w':World}{b:Nat}{M:Int→Option Value}(h:IM w b M)(hb:w'.heap[b]? = w.heap[b]?):IM w' b M:=by
 obtain⟨es,clock,h1,h2⟩:=h;exact⟨es,clock,hb.trans h1,h2⟩
theorem IM.drew{w:World}{b:Nat}{M:Int→Option Value}(h:IM w b M):IM w.drew b M:=h
section
variable {w:World} {b:Nat} {M:Int→Option Value}
theorem IM.find(h:IM w b M){k:Int}(hk:RV k):∃ es clock,w.heap[b]? = some (.map es clock)∧(∀ e ∈ es.toList,∃ a,e.key = .int .i64 a∧RV a) ∧
  (∀ (i j:Nat) (e f:MapEntry),es.toList[i]? = some e→es.toList[j]? = some f→e.key=f.key→i=j)∧(∀ k v,M k=some v↔∃ e ∈ es.toList,e.key = .int .i64 k∧e.val=v) ∧
  (((Instr.findKey 3 (.int .i64 k) es.toList).run prog w = .ok none w∧(∀ e ∈ es.toList,e.key≠.int .i64 k)∧M k=none) ∨
   ∃ j e,(Instr.findKey 3 (.int .i64 k) es.toList).run prog w = .ok (some (j,e.val)) w∧es.toList[j]? = some e∧e.key = .int .i64 k∧M k=some e.val):=by
 obtain⟨es,clock,hb,hks,hun,hM⟩:=h;refine⟨es,clock,hb,hks,hun,hM,?_⟩
 rcases lg.find w (Gq hk) es.toList (fun e he=>by obtain⟨a,e1,h1⟩:=hks e he;exact⟨_,by rw[e1];exact Gq h1⟩) with ⟨h1,h2⟩ | ⟨j,e,h1,h2,h3⟩
 ·refine .inl ⟨h1,h2,?_⟩;cases hq:M k with
  | none=>rfl
  | some v=>obtain⟨e,he,hk',_⟩:=(hM k v).1 hq;exact absurd hk' (h2 e he)
 ·exact .inr ⟨j,e,h1,h2,h3,(hM k _).2 ⟨e,List.mem_of_getElem? h2,h3,rfl⟩⟩
theorem IM.look(h:IM w b M){k:Int}(hk:RV k){t e:TypeId}(ht:prog.underlying t=some (.map 3 e)){z:Value}(hz:(zeroValue e).run prog w = .ok z w)(c:Bool):
  (Instr.lookup t (.map (some b)) (.int .i64 k) c).run prog w = .ok (if c then .tuple #[(M k).getD z,.bool (M k).isSome] else (M k).getD z) w:=by
 obtain⟨es,clock,hb,_,_,_,⟨h1,_,h3⟩ | ⟨j,e0,h1,_,_,h3⟩⟩:=h.find hk
 ·simp[Instr.lookup,run_underlying ht,MapKept.run_getObj_map hb,lg.check w _ (Gq hk),h1,hz,h3,Result.andThen]
 ·simp[Instr.lookup,run_underlying ht,MapKept.run_getObj_map hb,lg.check w _ (Gq hk),h1,h3,Result.andThen]
def Tm(M:Int→Option Value)(k:Int)(v:Option Value):Int→Option Value:=fun j=>if j=k then v else M j
theorem ek{es:Array MapEntry}{clock:Nat}(hb:w.heap[b]? = some (.map es clock))(o:Obj):(setBlock w b o).heap[b]? = some o:=heap_setBlock_same hb o
theorem IM.store(h:IM w b M){k:Int}(hk:RV k){t e:TypeId}(ht:prog.underlying t=some (.map 3 e))(v:Value):
  ∃ o,(Instr.mapUpdate t (.map (some b)) (.int .i64 k) v).run prog w = .ok () (setBlock w b o)∧IM (setBlock w b o) b (Tm M k (some v)):=by
 obtain⟨es,clock,hb,hks,hun,hM,⟨h1,h2,h3⟩ | ⟨j,e0,h1,h2,h3,h4⟩⟩:=h.find hk
 ·refine⟨.map (es.push ⟨.int .i64 k,v,clock⟩) (clock+1),?_,es.push ⟨.int .i64 k,v,clock⟩,clock+1,ek hb _,?_,?_,?_⟩
  ·simp[Instr.mapUpdate,run_underlying ht,MapKept.run_getObj_map hb,lg.check w _ (Gq hk),h1,MapKept.run_setObj_map _ hb,Result.andThen,setBlock]
  ·intro e he;simp only[Array.toList_push,List.mem_append,List.mem_singleton] at he
   rcases he with he | rfl
   ·exact hks e he
   ·exact⟨k,rfl,hk⟩
  ·intro i j e f hi hj hef;simp only[Array.toList_push,List.getElem?_append] at hi hj;have key:∀ (i:Nat) (e:MapEntry),(if i < es.toList.length then es.toList[i]? else [(⟨.int .i64 k,v,clock⟩ : MapEntry)][i - es.toList.length]?)=some e→(es.toList[i]? = some e∧e.key≠.int .i64 k)∨(i=es.toList.length∧e.key = .int .i64 k):=by
    intro i e hi
    split at hi
    ·exact .inl ⟨hi,h2 e (List.mem_of_getElem? hi)⟩
    ·rename_i hlt
     right
     have hlt2:=(List.getElem?_eq_some_iff.1 hi).1;simp only[List.length_singleton] at hlt2;have e0:i - es.toList.length=0:=om;rw[e0] at hi;simp only[List.getElem?_cons_zero,Option.some.injEq] at hi;exact⟨om,by rw[← hi]⟩
   rcases key i e hi with ⟨a,a'⟩ | ⟨a,a'⟩ <;> rcases key j f hj with ⟨c,c'⟩ | ⟨c,c'⟩
   ·exact hun i j e f a c hef
   ·exact absurd (hef.trans c') a'
   ·exact absurd (hef.symm.trans a') c'
   ·omega
  ·intro x y;simp only[Array.toList_push,List.mem_append,List.mem_singleton];unfold Tm
   by_cases hx:x=k
   ·subst hx;rw[if_pos rfl];constructor
    ·intro e;cases e;exact⟨_,.inr rfl,rfl,rfl⟩
    ·rintro ⟨e,he | rfl,hke,rfl⟩
     ·exact absurd hke (h2 e he)
     ·rfl
   ·rw[if_neg hx,hM];constructor
    ·rintro ⟨e,he,h1,h2⟩;exact⟨e,.inl he,h1,h2⟩
    ·rintro ⟨e,he | rfl,hke,rfl⟩
     ·exact⟨e,he,hke,rfl⟩
     ·simp only[Value.int.injEq,true_and] at hke;exact absurd hke.symm hx
 ·have hjl:j < es.toList.length:=(List.getElem?_eq_some_iff.1 h2).1;have hj:es[j]? = some e0:=by simpa using h2
  have hlist:(es.modify j (fun e'=>{ e' with key:=.int .i64 k,val:=v })).toList=es.toList.set j { e0 with key:=.int .i64 k,val:=v }:=by rw[Array.toList_modify,modify_eq_set _ _ _ _ h2]
  have hget:∀ (i:Nat) (e:MapEntry),(es.toList.set j { e0 with key:=.int .i64 k,val:=v })[i]? = some e→∃ f,es.toList[i]? = some f∧e.key=f.key∧(i≠j→e=f):=by
   intro i e hi;rw[List.getElem?_set] at hi
   split at hi
   ·rename_i hij
    subst hij
    first | rw[if_pos hjl] at hi | skip
    cases hi;exact⟨e0,h2,h3.symm,fun h=>absurd rfl h⟩
   ·exact⟨e,hi,rfl,fun _=>rfl⟩
  refine⟨.map (es.modify j (fun e'=>{ e' with key:=.int .i64 k,val:=v })) clock,?_,_,clock,ek hb _,?_,?_,?_⟩
  ·simp[Instr.mapUpdate,run_underlying ht,MapKept.run_getObj_map hb,lg.check w _ (Gq hk),h1,hj,h3,lg.stays w (Gq hk),MapKept.run_setObj_map _ hb,Result.andThen,setBlock]
  ·intro e he;rw[hlist] at he;obtain⟨i,hi⟩:=List.mem_iff_getElem?.1 he;obtain⟨f,hf,h5,_⟩:=hget i e hi;rw[h5];exact hks f (List.mem_of_getElem? hf)
  ·intro i i' e f hi hi' hef;rw[hlist] at hi hi';obtain⟨g,hg,h5,_⟩:=hget i e hi;obtain⟨g',hg',h6,_⟩:=hget i' f hi';exact hun i i' g g' hg hg' (by rw[← h5,← h6,hef])
  ·intro x y;rw[hlist];unfold Tm
   by_cases hx:x=k
   ·subst hx;rw[if_pos rfl];constructor
    ·intro e;cases e;exact⟨_,List.mem_iff_getElem?.2 ⟨j,List.getElem?_set_self hjl⟩,rfl,rfl⟩
    ·rintro ⟨e,he,hke,rfl⟩;obtain⟨i,hi⟩:=List.mem_iff_getElem?.1 he;obtain⟨f,hf,h5,h6⟩:=hget i e hi;have hij:i=j:=hun i j f e0 hf h2 (by rw[← h5,hke,h3])
     subst hij;rw[List.getElem?_set_self hjl] at hi;cases hi
     rfl
   ·rw[if_neg hx,hM];constructor
    ·rintro ⟨e,he,h1',h2'⟩;obtain⟨i,hi⟩:=List.mem_iff_getElem?.1 he;have hij:j≠i:=by
      rintro rfl;rw[h2] at hi;cases hi;rw[h3] at h1';simp only[Value.int.injEq,true_and] at h1';exact hx h1'.symm
     exact⟨e,List.mem_iff_getElem?.2 ⟨i,by rw[List.getElem?_set_ne hij];exact hi⟩,h1',h2'⟩
    ·rintro ⟨e,he,hke,rfl⟩;obtain⟨i,hi⟩:=List.mem_iff_getElem?.1 he;have hij:j≠i:=by
      rintro rfl;rw[List.getElem?_set_self hjl] at hi;cases hi;simp only[Value.int.injEq,true_and] at hke;exact hx hke.symm
     rw[List.getElem?_set_ne hij] at hi;exact⟨e,List.mem_of_getElem? hi,hke,rfl⟩
theorem IM.drop(h:IM w b M){k:Int}(hk:RV k){t e:TypeId}(ht:prog.underlying t=some (.map 3 e))(ty:TypeId):
  ∃ o,(Builtin.delete_ #[t,3] ty #[.map (some b),.int .i64 k]).run prog w = .ok (.tuple #[]) (setBlock w b o)∧IM (setBlock w b o) b (Tm M k none):=by
 obtain⟨es,clock,hb,hks,hun,hM,⟨h1,h2,h3⟩ | ⟨j,e0,h1,h2,h3,h4⟩⟩:=h.find hk
 ·refine⟨.map es clock,?_,es,clock,ek hb _,hks,hun,?_⟩
  ·simp[Builtin.delete_,run_underlying ht,MapKept.run_getObj_map hb,lg.check w _ (Gq hk),h1,MapKept.run_setObj_map _ hb,Result.andThen,setBlock]
  ·intro x y;unfold Tm
   by_cases hx:x=k
   ·subst hx;rw[if_pos rfl,← hM,h3]
   ·rw[if_neg hx];exact hM x y
 ·have hjl:j < es.toList.length:=(List.getElem?_eq_some_iff.1 h2).1;have hjs:j < es.size:=by simpa using hjl
  have hsub:(es.eraseIdxIfInBounds j).toList=es.toList.eraseIdx j:=by
   unfold Array.eraseIdxIfInBounds;rw[dif_pos hjs];simp
  have hget:∀ i,(es.toList.eraseIdx j)[i]? = es.toList[if i < j then i else i+1]?:=by
   intro i;rw[List.getElem?_eraseIdx]
   split <;> rfl
  refine⟨.map (es.eraseIdxIfInBounds j) clock,?_,_,clock,ek hb _,?_,?_,?_⟩
  ·simp[Builtin.delete_,run_underlying ht,MapKept.run_getObj_map hb,lg.check w _ (Gq hk),h1,MapKept.run_setObj_map _ hb,Result.andThen,setBlock]
  ·intro e he;rw[hsub] at he;exact hks e ((List.eraseIdx_sublist _ _).subset he)
  ·intro i i' e f hi hi' hef;rw[hsub,hget] at hi hi';have:=hun _ _ e f hi hi' hef
   split at this <;> split at this <;> omega
  ·intro x y;rw[hsub];unfold Tm
   by_cases hx:x=k
   ·subst hx;rw[if_pos rfl];constructor
    ·intro e;cases e
    ·rintro ⟨e,he,hke,_⟩;obtain⟨i,hne,hi⟩:=List.mem_eraseIdx_iff_getElem?.1 he;exact absurd (hun i j e e0 hi h2 (by rw[hke,h3])) hne
   ·rw[if_neg hx,hM];constructor
    ·rintro ⟨e,he,h1',h2'⟩;obtain⟨i,hi⟩:=List.mem_iff_getElem?.1 he;have hij:i≠j:=by
      rintro rfl;rw[h2] at hi;cases hi;rw[h3] at h1';simp only[Value.int.injEq,true_and] at h1';exact hx h1'.symm
     exact⟨e,List.mem_eraseIdx_iff_getElem?.2 ⟨i,hij,hi⟩,h1',h2'⟩
    ·rintro ⟨e,he,hke,hv⟩;exact⟨e,(List.eraseIdx_sublist _ _).subset he,hke,hv⟩
theorem IM.clear(h:IM w b M){t e:TypeId}(ht:prog.underlying t=some (.map 3 e))(ty:TypeId):
  ∃ o,(Builtin.clear_ #[t] ty #[.map (some b)]).run prog w = .ok (.tuple #[]) (setBlock w b o)∧IM (setBlock w b o) b (fun _=>none):=by
 obtain⟨es,clock,hb,_⟩:=h;refine⟨.map #[] clock,?_,#[],clock,ek hb _,sm,sm,sm⟩;simp[Builtin.clear_,run_underlying ht,MapKept.run_getObj_map hb,MapKept.run_setObj_map _ hb,Result.andThen,setBlock]
end
end
section
set_option maxRecDepth 100000 in
set_option maxRecDepth 100000 in
theorem BP(bl ol n cl:Nat)(L:List Sj)(w:World)(hn:n≤5000)(hL:L.length=n)(hl:readAt w bl ol (n * 64)=some (aZ av L).toArray):
  Calls prog 110 #[.slice (some ⟨bl,ol,none⟩) n cl] w fun e w'=>(∃ v,e = .returned v∧R7 w' w.heap.size v n 64 (aZ av L))∧Below w.heap.size w w':=by
 obtain⟨i0,hi,hz,hs,hby⟩:=info_parts ko;have HL:=SM hL;have Hsrc:=SM hl;have hlt:=ac hl;clear hL hl;have heq:=fun w=>Lib.run_eql_slice_nil (P:=prog) w 80 201 (some ⟨bl,ol,none⟩) n cl 0 0 underlying80
 go_in
 have hown0:(w.alloc (.cells #[] 201)).ownsRow w.heap.size 201 64 (.slice (some ⟨w.heap.size,0,none⟩) 0 0) 0 [] :=
  World.ownsRow_made (size:=64) w #[] 0 (Nat.le_refl _) (by simp[maxLen]) sm
 go_wp2_with (at_builtin;refine wpList_append_own _ rfl _ _ 80 rfl w.heap.size 201 i0 _ 64 64 underlying80 hi hz hs hby (cU cB) dc _ 0 _ rfl hown0 ⟨bl,ol,none⟩ n cl (aZ av L) rfl ?c1 ?c2 ?c3 ?c4 ?c5 ?c6 ?_)
 case c1=>rw[bH av 64 cU,HL.o]
 case c2 =>
  intro j u hu;have h1:=(cJ Hsrc.o).1 j u (by simpa using hu)
  rw[Addr.add_lit,World.cell?_alloc_past _ _ _ hlt];exact h1
 case c3=>exact Gb av oE L
 case c4=>simp only[maxLen];omega
 case c5=>omega
 case c6=>simp
 intro v0 w1 hown1 hgr hnil;have hb1:Below w.heap.size w w1:=(ba _ (Below.refl _ _)).grown hgr sm (fun b hbk=>by simp[Value.ownBlock] at hbk;omega)
 have hO:=N1 hown1 hnil
 go_wp2
 go_ret
 exact⟨⟨_,rfl,hO⟩,hb1⟩
end
section
set_option maxRecDepth 100000 in
set_option maxRecDepth 100000 in
theorem MF(fid:Nat)(cap:Array Value)(cf:Nat→Int)(bl ol cl:Nat)(vw:Value)(n m:Nat)(L:List Sj)(W:List (Int × Sj))(w:World)(hn:n≤5000)(hL:L.length=n)(hm:m≤100000)(hW:W.length=m)
  (hsrc:readAt w bl ol (n * 64)=some (aZ av L).toArray) (hw:Se w vw m 65 (aZ To W)) (hat:∀ p ∈ W,0≤p.1∧p.1 < n)
  (hfn:∀ args w,(callFunc fid args).run prog w = .ok (.enter fid args) w)
  (hcf:∀ (k:Nat) w',k < m→Below w.heap.size w w'→Calls prog fid (#[.int .i64 k] ++ cap) w' fun e w''=>e = .returned (.int .i64 (cf k))∧Below w'.heap.size w' w'') :
  Calls prog 73 #[.slice (some ⟨bl,ol,none⟩) n cl,vw,.func (.func fid) #[] cap] w fun e w'=>(∃ v,e = .returned v∧R7 w' w.heap.size v n 64 (aZ av (bC L W cf m)))∧Below w.heap.size w w':=by
 have Hw:=SM hw;have HL:=SM hL;have HW:=SM hW;have Hcf:=SM hcf;obtain⟨adw,cw,rfl,_⟩:=hw;clear hW hcf
 go_in
 go_wp2_with fail
 refine (BP bl ol n cl L w hn hL hsrc).mono ?_;rintro _ w1 ⟨⟨_,rfl,g,cap',rfl,hg,hcap,hmax,_,hrg,hkg⟩,hb1⟩;clear hsrc hL
 go_wp2_with fail
 go_outline
 go_loopw [14] (fun i wr=>∃ k:Nat,k≤m∧i = .int .i64 k∧Hd (readAt wr g 0 (n * 64)=some (aZ av (bC L W cf k)).toArray)∧Hd (canAt wr g 0 (n * 64)=true)∧Below w.heap.size w wr) (fun i _=>m - (intOf i).toNat)
 case atStart=>exact⟨0,Nat.zero_le _,rfl,hrg,hkg,hb1⟩
 case round =>
  obtain⟨k,hk,rfl,hr,hkn,hb⟩:=hrel
  by_cases hlt2:k < m
  ·
   obtain⟨bw,ow,cw',e1,_,_,hrw⟩:=(Hw.o.below hb).at k hlt2;simp only[Value.slice.injEq,true_and] at e1;obtain⟨rfl,rfl⟩:=e1;rw[dC To 65 qZ W k (by rw[HW.o];exact hlt2)] at hrw
   have hpat:=hat (W[k]'(by rw[HW.o];exact hlt2)) (List.getElem_mem _)
   obtain⟨p,hpk⟩:=eY (W[k]'(by rw[HW.o];exact hlt2))
   have hgd:W.getD k (0,cB)=p:=by rw[← hpk,List.getD_eq_getElem?_getD,List.getElem?_eq_getElem (by rw[HW.o];exact hlt2)];rfl
   rw[hpk] at hrw hpat;obtain⟨at_,d⟩:=p;simp only[To] at hrw;obtain⟨j,hj⟩ : ∃ j:Nat,at_=(j:Int):=⟨at_.toNat,by simp only at hpat;omega⟩
   subst hj;have hjn:j < n:=by simp only at hpat;omega
   have hML:(bC L W cf k).length=n:=by rw[bY,HL.o]
   have hstep:bC L W cf (k+1)=(bC L W cf k).set j (tear ((bC L W cf k)[j]'(by rw[hML];exact hjn)) d (cf k)):=by
    simp only[bC,dI,hgd,Int.toNat_natCast]
    congr 2
    rw[List.getD_eq_getElem?_getD,List.getElem?_eq_getElem (by rw[hML];exact hjn)];rfl
   have hxj:readAt wr g (j * 64) 64=some (av ((bC L W cf k)[j]'(by rw[hML];exact hjn))):=by
    have hle:j * 64+64≤n * 64:=om;have:=aB hr.o (j * 64) 64 om om;rw[this,Nat.sub_zero,dC av 64 cU _ j (by rw[hML];exact hjn)]
   obtain⟨x,hx⟩:=eY ((bC L W cf k)[j]'(by rw[hML];exact hjn))
   rw[hx] at hxj hstep;have Hstep:=SM hstep;obtain⟨M,hM⟩:=eY (bC L W cf k);rw[hM] at hr Hstep hML;clear hstep hgd hpk hpat hx hat;have hlbw:=ac hrw;have hlg:=ac hxj;have hcan:canAt wr g (j * 64) 64=true:=aC hkn.o (j * 64) 64 om
   have hBw:w.heap.size≤wr.heap.size:=hb.size;obtain⟨wa,hwa⟩:=eY (setAt (wr.alloc (.cells (wv 0 cB) 203)) wr.heap.size 0 (wv j d));have hbwa:Below wr.heap.size wr wa:=by
    rw[← hwa];exact aa (ba _ (Below.refl _ _)) (Nat.le_refl _) _ _
   have hcz:canAt (wr.alloc (.cells (wv 0 cB) 203)) wr.heap.size 0 65=true:=aq _ _ _ _ _ _ rfl sm;have hrc:readAt wa wr.heap.size 0 65=some (wv j d):=by rw[← hwa];exact am _ _ _ _ _ sm hcz
   have hca:=ab hrc 0 (.int .i64 j) (PC _ _);rw[Nat.add_zero] at hca;have hcd:readAt wa wr.heap.size 1 64=some (av d):=by
    rw[aB hrc 1 64 om om];exact congrArg some (wF _ _)
   have hlca:=ac hrc;have hlgw:g < wa.heap.size:=Nat.lt_of_lt_of_le hlg hbwa.size;rw[← ak hbwa hlg] at hxj;rw[← ay hbwa hlg] at hcan;have hF:∀ w',Below wa.heap.size wa w'→(w'.cell? ⟨wr.heap.size,0,none⟩=some (.int .i64 j)∧readAt w' wr.heap.size 1 64=some (av d)∧readAt w' g (j * 64) 64=some (av x)∧canAt w' g (j * 64) 64=true):=fun w' hC =>
    ⟨by rw[hC.cell hlca];exact hca,by rw[ak hC hlca];exact hcd,by rw[ak hC hlgw];exact hxj,by rw[ay hC hlgw];exact hcan⟩
   have HF:=SM hF;have Hbwa:=SM hbwa;clear hxj hcd hcan hF hrc hlca hbwa hcz
   go_wp2_with fail
   refine jw (C:=fun w'=>Below wa.heap.size wa w') sm kr kr kr (Below.refl _ _).drew ?_;simp only[List.dropLast_cons_cons,List.dropLast_singleton,List.getLast_cons_cons,List.getLast_singleton]
   repeat (first
    | (refine q_off rfl ?_;simp only[Act.put,Act.eval,List.setIfInBounds_toArray,List.set_cons_zero,List.set_cons_succ,Array.getD_eq_getD_getElem?,List.getElem?_toArray,List.getElem?_cons_succ,List.getElem?_cons_zero,Option.getD_some])
    | (refine O8 _ rfl rfl ?_;simp only[Act.put,Act.eval,List.setIfInBounds_toArray,List.set_cons_zero,List.set_cons_succ,Array.getD_eq_getD_getElem?,List.getElem?_toArray,List.getElem?_cons_succ,List.getElem?_cons_zero,Option.getD_some])
    | (refine q_assign _ rfl rfl ?_;simp only[Act.put,Act.eval,List.setIfInBounds_toArray,List.set_cons_zero,List.set_cons_succ,Array.getD_eq_getD_getElem?,List.getElem?_toArray,List.getElem?_cons_succ,List.getElem?_cons_zero,Option.getD_some])
    | (refine Ru rfl ?_;apply Exists.intro;refine⟨fun w' hC'=>?_,?_⟩;(obtain⟨f1,f2,f3,f4⟩:=HF.o w' hC';go_simp;exact rfl);simp only[Act.put,Act.eval,List.setIfInBounds_toArray,List.set_cons_zero,List.set_cons_succ,Array.getD_eq_getD_getElem?,List.getElem?_toArray,List.getElem?_cons_succ,List.getElem?_cons_zero,Option.getD_some])
    | (refine Q9 rfl ?_;apply Exists.intro;apply Exists.intro;apply Exists.intro;refine⟨fun w' hC'=>?_,fun w' hC'=>?_,?_⟩;(go_simp;exact⟨rfl,rfl⟩);(refine (Hcf.o k w' hlt2 ?_).mono ?_;exact (hb.trans (Hbwa.o.mono hb.size)).trans (hC'.mono (Nat.le_trans hb.size Hbwa.o.size));rintro _ w2 ⟨rfl,hb'⟩;exact⟨rfl,bt hC' hb'⟩);simp only[Act.put,Act.eval,List.setIfInBounds_toArray,List.set_cons_zero,List.set_cons_succ,Array.getD_eq_getD_getElem?,List.getElem?_toArray,List.getElem?_cons_succ,List.getElem?_cons_zero,Option.getD_some])
    | (refine Q9 rfl ?_;apply Exists.intro;apply Exists.intro;apply Exists.intro;refine⟨fun w' hC'=>?_,fun w' hC'=>?_,?_⟩;(go_simp;exact⟨rfl,rfl⟩);(refine (ID x d (cf k) _).mono ?_;rintro _ w2 ⟨rfl,hb'⟩;exact⟨rfl,bt hC' hb'⟩);simp only[Act.put,Act.eval,List.setIfInBounds_toArray,List.set_cons_zero,List.set_cons_succ,Array.getD_eq_getD_getElem?,List.getElem?_toArray,List.getElem?_cons_succ,List.getElem?_cons_zero,Option.getD_some]))
   refine wpQuiet_nil ?_;intro w' hC';obtain⟨f1,f2,f3,f4⟩:=HF.o w' hC';have hbb:Below wr.heap.size wr w':=Hbwa.o.trans (hC'.mono Hbwa.o.size)
   go_wp2
   go_roundw
   case rel =>
    have hfr:readAt w' g 0 (n * 64)=some (aZ av M).toArray:=by rw[ak hbb hlg];exact hr.o
    have hfc:canAt w' g 0 (n * 64)=true:=by rw[ay hbb hlg];exact hkn.o
    refine⟨k+1,om,by go_num,?_,?_,aa (hb.trans (hbb.mono hb.size)) hg _ _⟩
    ·show _=_
     rw[ae _ _ 0 (n * 64) _ hfr hfc (j * 64) _ (Nat.zero_le _) sO,Nat.sub_zero,qs av 64 cU M j (by rw[hML];exact hjn),Hstep.o]
    ·show _=_
     rw[ap _ _ _ _ _ _ _ (by simpa using f4)];exact hfc
   case measure=>simp[intOf];omega
  ·obtain rfl:k=m:=om
   go_wp2
   go_ret
   exact⟨⟨_,rfl,g,cap',rfl,hg,hcap,hmax,by rw[bH av 64 cU,bY,HL.o],hr.o,hkn.o⟩,hb⟩
set_option maxRecDepth 100000 in
theorem yY(p:Nat)(ad:Option Addr)(q c:Nat)(cs:List Int)(k:Nat)(w:World)(hq:cs.length=q)(hk:k≤100000)(hp:w.cell? ⟨p,0,none⟩=some (.slice ad q c))(hc:Se w (.slice ad q c) q 1 (cs.map (Value.int .i64))):
  Calls prog 74 #[.int .i64 k,.pointer (some ⟨p,0,none⟩)] w fun e w'=>e = .returned (.int .i64 (kx cs k))∧Below w.heap.size w w':=by
 have hb:=Sy w
 by_cases hkq:k < q
 ·obtain⟨bc,oc,cc',e1,_,_,hrc⟩:=hc.at k hkq;simp only[Value.slice.injEq,true_and] at e1;obtain⟨rfl,rfl⟩:=e1;have hcc:w.cell? ⟨bc,oc+k,none⟩=some (.int .i64 (kx cs k)):=by
   have h1:=ab hrc 0 (.int .i64 (kx cs k)) (by
    rw[cO _ _ _ _ (by simp;rw[hq];omega)]
    simp[kx,List.getD,show k < cs.length by rw[hq];exact hkq])
   simpa using h1
  have hqm:q≤maxLen:=by
   obtain⟨ad',cap',e,h1,h2,_⟩:=hc;omega
  clear hrc hc;simp only[maxLen] at hqm
  go_in
  go_wp2
  go_ret
  exact⟨rfl,hb⟩
 ·have hc0:kx cs k=0:=by simp only[kx];rw[List.getD_eq_getElem?_getD,List.getElem?_eq_none (by rw[hq];omega)];rfl
  rw[hc0];clear hc0 hc;have hkq':decide (k < q)=false:=by simpa using hkq
  clear hkq
  go_in
  go_wp2
  go_ret
  exact⟨rfl,hb⟩
theorem R7.base{w:World}{b b' n sz:Nat}{v:Value}{xs:List Value}(hle:b'≤b)(h:R7 w b v n sz xs):R7 w b' v n sz xs:=by
 obtain⟨g,cap,hv,h1,hc,hm,hl,hr,hk⟩:=h;exact⟨g,cap,hv,Nat.le_trans hle h1,hc,hm,hl,hr,hk⟩
set_option maxRecDepth 100000 in
theorem FN(bl ol cl:Nat)(vw vc:Value)(n m q:Nat)(L:List Sj)(W:List (Int × Sj))(cs:List Int)(w:World)(hn:n≤5000)(hL:L.length=n)(hm:m≤100000)(hW:W.length=m)(hq:cs.length=q)
  (hsrc:readAt w bl ol (n * 64)=some (aZ av L).toArray) (hw:Se w vw m 65 (aZ To W)) (hc:Se w vc q 1 (cs.map (Value.int .i64))) (hat:∀ p ∈ W,0≤p.1∧p.1 < n) :
  Calls prog 51 #[.slice (some ⟨bl,ol,none⟩) n cl,vw,vc] w fun e w'=>(∃ v,e = .returned v∧R7 w' w.heap.size v n 64 (aZ av (bC L W (kx cs) m)))∧Below w.heap.size w w':=by
 have Hl:=SM hsrc;have Hw:=SM hw;have Hc:=SM hc;obtain⟨adc,cc,rfl,_⟩:=hc;clear hsrc hw;have hb:=Sy w
 go_in
 go_wp2_with fail
 have hb2:=ba (.cells #[.slice adc q cc] 40) hb;refine (MF 74 #[.pointer (some ⟨w.heap.size,0,none⟩)] (kx cs) bl ol cl vw n m L W _ hn hL hm hW ((ak hb2 (ac Hl.o) _ _).trans Hl.o) (Hw.o.below hb2) hat (fun args w=>by go_simp) ?_).mono ?_
 ·intro k w' hkm hb';refine yY w.heap.size adc q cc cs k w' hq om ?_ ((Hc.o.below hb2).below hb');rw[hb'.cell sm];go_simp
 ·rintro _ w2 ⟨⟨v,rfl,ho⟩,hb3⟩
  go_wp2
  go_ret
  exact⟨⟨_,rfl,R7.base sm ho⟩,hb2.trans (hb3.mono sm)⟩
end
section
open Go.RowKit Go.ChangeMaps
structure Kb (X:Nat→Prop) (w w':World):Prop where
 os:w'.os=w.os
 tape:w'.tape=w.tape
 output:w'.output=w.output
 size:w.heap.size≤w'.heap.size
 block:∀ k,k < w.heap.size→¬ X k→w'.heap[k]? = w.heap[k]?
theorem Kb.refl(X:Nat→Prop)(w:World):Kb X w w:=⟨rfl,rfl,rfl,Nat.le_refl _,fun _ _ _=>rfl⟩
theorem Kb.trans{X Y:Nat→Prop}{a b c:World}(h:Kb X a b)(k:Kb Y b c)(hY:∀ i,Y i→X i∨a.heap.size≤i):Kb X a c :=
 ⟨k.os.trans h.os,k.tape.trans h.tape,k.output.trans h.output,Nat.le_trans h.size k.size,fun i hi hx=>(k.block i (Nat.lt_of_lt_of_le hi h.size) (fun hy=>by rcases hY i hy with h1 | h1 <;> first | exact hx h1 | omega)).trans (h.block i hi hx)⟩
theorem Kb.of_below{X:Nat→Prop}{w w':World}(h:Below w.heap.size w w'):Kb X w w':=⟨h.os,h.tape,h.output,h.size,fun k hk _=>h.block k hk⟩
theorem Kb.below{X:Nat→Prop}{w w':World}{base:Nat}(h:Kb X w w')(hX:∀ b,X b→base≤b)(hb:base≤w.heap.size):Below base w w' :=
 ⟨h.os,h.tape,h.output,h.size,fun k hk=>h.block k om (fun hx=>by have:=hX k hx;omega)⟩
structure Ob (B:Nat) (w w':World):Prop where
 os:w'.os=w.os
 tape:w'.tape=w.tape
 output:w'.output=w.output
 size:w'.heap.size=w.heap.size
 block:∀ k,k≠B→w'.heap[k]? = w.heap[k]?
theorem Ob.setAt(w:World)(B o:Nat)(cs:Array Value):Ob B w (setAt w B o cs):=by
 refine⟨?_,?_,?_,sm,fun k hk=>aw w B o cs k hk⟩ <;> (unfold Proofs.YtlcfaaodmickbaaGreatDoor.setAt;split <;> rfl)
theorem Ob.setBlock(w:World)(B:Nat)(o:Obj):Ob B w (setBlock w B o) :=
 ⟨rfl,rfl,rfl,by simp[ChangeMaps.setBlock],fun k hk=>by simp[ChangeMaps.setBlock,Array.getElem?_setIfInBounds_ne (Ne.symm hk)]⟩
theorem Ob.kb{B:Nat}{w w':World}{X:Nat→Prop}(h:Ob B w w')(hB:X B):Kb X w w' :=
 ⟨h.os,h.tape,h.output,by rw[h.size];exact Nat.le_refl _,fun k _ hx=>h.block k (fun e=>hx (e ▸ hB))⟩
theorem Ob.readAt{B:Nat}{w w':World}(h:Ob B w w'){b:Nat}(hb:b≠B)(o n:Nat):readAt w' b o n=readAt w b o n:=by
 simp[Proofs.YtlcfaaodmickbaaGreatDoor.readAt,h.block b hb]
theorem Ob.canAt{B:Nat}{w w':World}(h:Ob B w w'){b:Nat}(hb:b≠B)(o n:Nat):canAt w' b o n=canAt w b o n:=by
 simp[Proofs.YtlcfaaodmickbaaGreatDoor.canAt,h.block b hb]
theorem Ob.own{B:Nat}{w w':World}(h:Ob B w w'){base e size n:Nat}{v:Value}{xs:List Value}(ho:w.ownsRow base e size v n xs)(hb:∀ g,v.ownBlock=some g→g≠B):w'.ownsRow base e size v n xs:=by
 refine⟨ho.1,?_⟩
 rcases ho.2 with hn | ⟨g,cap,cur,hv,hbg,hg,rest⟩
 ·exact .inl hn
 ·exact .inr ⟨g,cap,cur,hv,hbg,by rw[h.block g (hb g (by rw[hv];rfl))];exact hg,rest⟩
theorem Ob.im{B:Nat}{w w':World}(h:Ob B w w'){b:Nat}(hb:b≠B){M:Int→Option Value}(hm:IM w b M):IM w' b M:=hm.kept (h.block b hb)
theorem Se.same{w w':World}{v:Value}{n sz:Nat}{xs:List Value}(h:Se w v n sz xs)(hb:∀ g,v.ownBlock=some g→g < w.heap.size→w'.heap[g]? = w.heap[g]?):Se w' v n sz xs:=by
 obtain⟨ad,cap,h1,h2,h3,h4,h5,h6⟩:=h;refine⟨ad,cap,h1,h2,h3,h4,h5,fun h0=>?_⟩;obtain⟨b,o,e,hr⟩:=h6 h0;refine⟨b,o,e,?_⟩;have:=hb b (by rw[h1,e];rfl) (ac hr)
 rw[← hr];simp[readAt,this]
theorem bu{w w':World}{base e size n:Nat}{v:Value}{xs:List Value}(ho:w.ownsRow base e size v n xs)(hb:∀ g,v.ownBlock=some g→g < w.heap.size→w'.heap[g]? = w.heap[g]?):w'.ownsRow base e size v n xs:=by
 refine⟨ho.1,?_⟩
 rcases ho.2 with hn | ⟨g,cap,cur,hv,hbg,hg,rest⟩
 ·exact .inl hn
 ·exact .inr ⟨g,cap,cur,hv,hbg,by rw[hb g (by rw[hv];rfl) (Array.getElem?_eq_some_iff.1 hg).1];exact hg,rest⟩
structure DP where
 B:Nat
 gs:Nat
 gc:Nat
 vo:Value
 bl:Nat
 bf:Nat
 bc:Nat
 cb:List Nat
def DP.five(p:DP):List Nat:=[p.B,p.gs,p.bl,p.bf,p.bc]
def DP.has(p:DP)(b:Nat):Prop:=b ∈ p.five∨p.vo.ownBlock=some b∨b ∈ p.cb
structure NU (base:Nat) (p:DP):Prop where
 d:p.five.Nodup
 o:∀ g,p.vo.ownBlock=some g→g ∉ p.five
 c:∀ g,g ∈ p.cb→g ∉ p.five∧p.vo.ownBlock≠some g
 lo:∀ b,p.has b→base≤b
theorem NU.ne{base:Nat}{p:DP}(h:NU base p):p.B≠p.gs∧p.B≠p.bl∧p.B≠p.bf∧p.B≠p.bc∧p.gs≠p.bl∧p.gs≠p.bf∧p.gs≠p.bc∧p.bl≠p.bf∧p.bl≠p.bc∧p.bf≠p.bc:=by
 have:=h.d;simp only[DP.five,List.nodup_cons,List.mem_cons,List.not_mem_nil,or_false,not_or,List.nodup_nil,and_true,not_false_eq_true] at this;obtain⟨⟨a,b,c,d⟩,⟨e,f,g⟩,⟨i,j⟩,k⟩:=this;exact⟨a,b,c,d,e,f,g,i,j,k⟩
theorem NU.o'{base:Nat}{p:DP}(h:NU base p){b:Nat}(hb:b ∈ p.five):∀ g,p.vo.ownBlock=some g→g≠b:=fun g hg e=>h.o g hg (e ▸ hb)
theorem fE(p:DP):p.B ∈ p.five:=by simp[DP.five]
theorem jp(p:DP):p.gs ∈ p.five:=by simp[DP.five]
theorem gU(p:DP):p.bl ∈ p.five:=by simp[DP.five]
theorem fF(p:DP):p.bf ∈ p.five:=by simp[DP.five]
theorem eZ(p:DP):p.bc ∈ p.five:=by simp[DP.five]
def d7(p:DP)(n:Nat)(down:Bool)(steps:Int):Array Value :=
 #[.slice (some ⟨p.gs,0,none⟩) n p.gc,p.vo,.map (some p.bl),.bool down,.int .i64 steps,.map (some p.bf),.map (some p.bc)]
def rz(w:World)(p:DP)(v:Value)(cs:List Int):Prop:=Se w v cs.length 1 (cs.map (Value.int .i64))∧∀ g,v.ownBlock=some g→g ∈ p.cb
def um(w:World)(p:DP)(M:Int→Option Value)(l:List RT)(k:Int):Prop :=
 (SJ l k=none∧M k=none)∨∃ cs v,SJ l k=some cs∧M k=some v∧rz w p v cs
def kJ(l:List (Int × Sj))(k:Int):Option Value:=(zp l k).map fun (i:Nat)=>Value.int .i64 (i:Int)
structure RM (w:World) (base:Nat) (p:DP) (n:Nat) (D:DM):Prop where
 ok:NU base p
 r:readAt w p.B 0 7=some (d7 p n D.down D.steps)
 k:canAt w p.B 0 7=true
 sr:readAt w p.gs 0 (n * 64)=some (aZ av D.st).toArray
 sk:canAt w p.gs 0 (n * 64)=true
 sc:n≤p.gc∧p.gc≤maxLen
 op:w.ownsRow base 203 65 p.vo D.op.length (aZ To D.op)
 la:IM w p.bl (kJ D.op)
 fa:∃ M,IM w p.bf M∧(∀ k,D.steps < k→(M k).isSome=SL D.plan k)∧∀ k v,M k=some v→v = .bool true
 cr:∃ M,IM w p.bc M∧∀ k,D.steps < k→um w p M D.plan k
 lt:∀ b,b ∈ p.cb→b < w.heap.size
section
variable {w w':World} {base n:Nat} {p:DP} {D:DM}
theorem RM.has_lt(h:RM w base p n D)(b:Nat)(hb:p.has b):b < w.heap.size:=by
 rcases hb with hb | hb | hb
 ·simp only[DP.five,List.mem_cons,List.not_mem_nil,or_false] at hb;obtain⟨M,hM,_⟩:=h.fa;obtain⟨M',hM',_⟩:=h.cr
  rcases hb with rfl | rfl | rfl | rfl | rfl
  ·exact ac h.r
  ·exact ac h.sr
  ·exact h.la.lt
  ·exact hM.lt
  ·exact hM'.lt
 ·exact oZ h.op b hb
 ·exact h.lt b hb
theorem um.same{M:Int→Option Value}{l:List RT}{k:Int}(h:um w p M l k)(hb:∀ b,b ∈ p.cb→b < w.heap.size→w'.heap[b]? = w.heap[b]?):um w' p M l k:=by
 rcases h with h | ⟨cs,v,h1,h2,h3,h4⟩
 ·exact .inl h
 ·exact .inr ⟨cs,v,h1,h2,h3.same (fun g hg hl=>hb g (h4 g hg) hl),h4⟩
theorem RM.same(h:RM w base p n D)(hs:w.heap.size≤w'.heap.size)(hb:∀ b,p.has b→w'.heap[b]? = w.heap[b]?):RM w' base p n D:=by
 obtain⟨M,hM,hM2⟩:=h.fa;obtain⟨M',hM',hM2'⟩:=h.cr;have h5:∀ b,b ∈ p.five→w'.heap[b]? = w.heap[b]?:=fun b hb5=>hb b (.inl hb5);refine⟨h.ok,?_,?_,?_,?_,h.sc,bu h.op (fun g hg _=>hb g (.inr (.inl hg))),h.la.kept (h5 _ (gU p)),⟨M,hM.kept (h5 _ (fF p)),hM2⟩,⟨M',hM'.kept (h5 _ (eZ p)),fun k hk=>(hM2' k hk).same (fun b hb1 _=>hb b (.inr (.inr hb1)))⟩,fun b hb1=>Nat.lt_of_lt_of_le (h.lt b hb1) hs⟩
 ·rw[← h.r];simp[readAt,h5 _ (fE p)]
 ·rw[← h.k];simp[canAt,h5 _ (fE p)]
 ·rw[← h.sr];simp[readAt,h5 _ (jp p)]
 ·rw[← h.sk];simp[canAt,h5 _ (jp p)]
theorem RM.below(h:RM w base p n D)(hb:Below w.heap.size w w'):RM w' base p n D:=h.same hb.size (fun b hb1=>hb.block b (h.has_lt b hb1))
theorem RM.kb{X:Nat→Prop}(h:RM w base p n D)(hk:Kb X w w')(hX:∀ b,p.has b→¬ X b):RM w' base p n D:=h.same hk.size (fun b hb1=>hk.block b (h.has_lt b hb1) (hX b hb1))
theorem RM.drew(h:RM w base p n D):RM w.drew base p n D:=h.below (Below.refl _ _).drew
theorem eH{u:World}{dn:Bool}{st:Int}(h:readAt u p.B 0 7=some (d7 p n dn st)):u.cell? ⟨p.B,0,none⟩=some (.slice (some ⟨p.gs,0,none⟩) n p.gc)∧u.cell? ⟨p.B,1,none⟩=some p.vo∧u.cell? ⟨p.B,2,none⟩=some (.map (some p.bl))∧u.cell? ⟨p.B,3,none⟩=some (.bool dn)∧u.cell? ⟨p.B,4,none⟩=some (.int .i64 st)∧u.cell? ⟨p.B,5,none⟩=some (.map (some p.bf))∧u.cell? ⟨p.B,6,none⟩=some (.map (some p.bc)):=by
 have hc:=fun i v hv=>ab h i v hv;simp only[Nat.zero_add] at hc;exact⟨hc 0 _ rfl,hc 1 _ rfl,hc 2 _ rfl,hc 3 _ rfl,hc 4 _ rfl,hc 5 _ rfl,hc 6 _ rfl⟩
theorem RM.cells(h:RM w base p n D):w.cell? ⟨p.B,0,none⟩=some (.slice (some ⟨p.gs,0,none⟩) n p.gc)∧w.cell? ⟨p.B,1,none⟩=some p.vo∧w.cell? ⟨p.B,2,none⟩=some (.map (some p.bl))∧w.cell? ⟨p.B,3,none⟩=some (.bool D.down)∧w.cell? ⟨p.B,4,none⟩=some (.int .i64 D.steps)∧w.cell? ⟨p.B,5,none⟩=some (.map (some p.bf))∧w.cell? ⟨p.B,6,none⟩=some (.map (some p.bc)):=by
 have hc:=fun i v hv=>ab h.r i v hv;simp only[Nat.zero_add] at hc;exact⟨hc 0 _ rfl,hc 1 _ rfl,hc 2 _ rfl,hc 3 _ rfl,hc 4 _ rfl,hc 5 _ rfl,hc 6 _ rfl⟩
theorem RM.free(h:RM w base p n D)(i:Nat):w.frozen? ⟨p.B,i,none⟩=false:=by have:=bq h.k i;rwa [Nat.zero_add] at this
end
def bm(w:World)(base:Nat)(p:DP)(n:Nat)(D':DM)(w':World):Prop :=
 ∃ p',p'.B=p.B∧RM w' base p' n D'∧Kb p.has w w'∧∀ b,p'.has b→p.has b∨w.heap.size≤b
theorem RM.next{w w':World}{base n:Nat}{p:DP}{D:DM}(h:RM w base p n D)(hb:Below w.heap.size w w'):bm w base p n D w':=⟨p,rfl,h.below hb,Kb.of_below hb,fun b hb=>.inl hb⟩
theorem bm.trans{w w1 w2:World}{base n:Nat}{p p1:DP}{D2:DM}(hB:p1.B=p.B)(hk:Kb p.has w w1)(hp:∀ b,p1.has b→p.has b∨w.heap.size≤b)(h:bm w1 base p1 n D2 w2):bm w base p n D2 w2:=by
 obtain⟨p',h1,h2,h3,h4⟩:=h;exact⟨p',h1.trans hB,h2,hk.trans h3 hp,fun b hb=>by
  rcases h4 b hb with h5 | h5
  ·exact hp b h5
  ·exact .inr (Nat.le_trans hk.size h5)⟩
end
section
theorem Kb.cell1{Z:Nat→Prop}{a b:World}(h:Kb Z a b)(p:Addr)(v:Value)(hz:Z p.block):Kb Z a (b.setCell p v) :=
 h.trans (Y:=Z) ⟨rfl,rfl,rfl,by simp[World.setCell],fun k _ hk=>Below.heap_setCell _ _ _ _ (fun e=>hk (e ▸ hz))⟩ (fun i hi=>.inl hi)
theorem Kb.at1{Z:Nat→Prop}{a b:World}(h:Kb Z a b)(B o:Nat)(cs:Array Value)(hz:Z B):Kb Z a (setAt b B o cs) :=
 h.trans (Y:=Z) ((Ob.setAt b B o cs).kb hz) (fun i hi=>.inl hi)
theorem Co(x:Sj)(u:Nat)(l:List UInt8)(hl:u+l.length≤64):bK (fw B8 x) u (bv l)=fw B8 (eX x u l):=by
 apply Array.ext_getElem?
 intro j;rw[bU _ _ _ sO];simp only[Ml,fd]
 by_cases hj:j < 64
 ·rw[gD B8 _ j hj]
  by_cases h1:u≤j∧j < u+l.length
  ·rw[if_pos h1];rw[gD B8 _ j hj];simp[bv,eX,h1,List.getD,show j - u < l.length by omega]
  ·rw[if_neg h1,gD B8 _ j hj];simp[eX,h1]
 ·rw[if_neg om];simp[fw,hj]
theorem Row.fill{w:World}{b:Nat}{x:Sj}(h:Row B8 w b x)(u:Nat)(l:List UInt8)(hl:u+l.length≤64):Row B8 (setAt w b u (bv l)) b (eX x u l) :=
 ⟨by rw[ae w b 0 64 _ h.r h.k u _ om sO,Nat.sub_zero,Co x u l hl],by rw[ap _ _ _ _ _ _ _ (aC h.k u _ sO)];exact h.k⟩
structure FM (w:World) (T B U S:Nat) (m:ym) (t:Int):Prop where
 t:w.cell? ⟨T,0,none⟩=some (.int .i64 t)
 tf:w.frozen? ⟨T,0,none⟩=false
 u:w.cell? ⟨U,0,none⟩=some (.int .i64 m.used)
 uf:w.frozen? ⟨U,0,none⟩=false
 b:Row B8 w B m.buf
 s:Row W4 w S m.st
 lt:m.used≤64
 d:T≠B∧T≠U∧T≠S∧B≠U∧B≠S∧U≠S∧0 < T∧0 < B∧0 < U∧0 < S
 l:T < w.heap.size∧U < w.heap.size
def FX(T B U S:Nat)(b:Nat):Prop:=b=T∨b=B∨b=U∨b=S
section
variable {w u:World} {T B U S:Nat} {m:ym} {t:Int}
theorem GK.kb{X:Nat→Prop}(h:GK w)(hk:Kb X w u)(hx : ¬ X 0):GK u :=
 ⟨Nat.lt_of_lt_of_le h.1 hk.size,fun k hk1=>by
  have:=hk.block 0 h.1 hx;rw[← h.2 k hk1];simp[World.cell?,this]⟩
theorem FM.below(h:FM w T B U S m t)(hb:Below w.heap.size w u):FM u T B U S m t :=
 ⟨(hb.cell (p:=⟨T,0,none⟩) h.l.1).trans h.t,(hb.frozen (p:=⟨T,0,none⟩) h.l.1).trans h.tf,(hb.cell (p:=⟨U,0,none⟩) h.l.2).trans h.u,(hb.frozen (p:=⟨U,0,none⟩) h.l.2).trans h.uf,h.b.below hb,h.s.below hb,h.lt,h.d,⟨Nat.lt_of_lt_of_le h.l.1 hb.size,Nat.lt_of_lt_of_le h.l.2 hb.size⟩⟩
theorem FM.setT(h:FM w T B U S m t)(x:Int):FM (w.setCell ⟨T,0,none⟩ (.int .i64 x)) T B U S m x:=by
 obtain⟨d1,d2,d3,d4,d5,d6,_⟩:=h.d;refine⟨by simp[go_sem,h.t],by simpa [go_sem] using h.tf,?_,by simpa [go_sem] using h.uf,h.b.other _ _ d1,h.s.other _ _ d3,h.lt,h.d,by simpa [go_sem] using h.l⟩
 have:=h.u;simp[go_sem,this,d2,Ne.symm d2]
theorem FM.fill(h:FM w T B U S m t)(l:List UInt8)(hl:m.used+l.length≤64):FM (setAt w B m.used (bv l)) T B U S { m with buf:=eX m.buf m.used l } t:=by
 obtain⟨d1,d2,d3,d4,d5,d6,_⟩:=h.d;have hb:∀ k,k≠B→(setAt w B m.used (bv l)).heap[k]? = w.heap[k]?:=fun k hk=>aw w B _ _ k hk;refine⟨?_,?_,?_,?_,h.b.fill _ l hl,h.s.apart _ _ _ d5,h.lt,h.d,by simpa using h.l⟩
 ·rw[← h.t];simp[World.cell?,hb T d1]
 ·rw[← h.tf];simp[World.frozen?,hb T d1]
 ·rw[← h.u];simp[World.cell?,hb U (Ne.symm d4)]
 ·rw[← h.uf];simp[World.frozen?,hb U (Ne.symm d4)]
theorem FM.blk(h:FM w T B U S m t)(y:W8):FM (setAt w S 0 (fw W4 y)) T B U S { m with st:=y } t:=by
 obtain⟨d1,d2,d3,d4,d5,d6,_⟩:=h.d;have hb:∀ k,k≠S→(setAt w S 0 (fw W4 y)).heap[k]? = w.heap[k]?:=fun k hk=>aw w S _ _ k hk;refine⟨?_,?_,?_,?_,h.b.apart _ _ _ (Ne.symm d5),h.s.all y,h.lt,h.d,by simpa using h.l⟩
 ·rw[← h.t];simp[World.cell?,hb T d3]
 ·rw[← h.tf];simp[World.frozen?,hb T d3]
 ·rw[← h.u];simp[World.cell?,hb U d6]
 ·rw[← h.uf];simp[World.frozen?,hb U d6]
theorem FM.setU(h:FM w T B U S m t)(k:Nat)(hk:k≤64):FM (w.setCell ⟨U,0,none⟩ (.int .i64 (k:Int))) T B U S { m with used:=k } t:=by
 obtain⟨d1,d2,d3,d4,d5,d6,_⟩:=h.d;refine⟨?_,by simpa [go_sem] using h.tf,by simp[go_sem,h.u],by simpa [go_sem] using h.uf,h.b.other _ _ (Ne.symm d4),h.s.other _ _ d6,hk,h.d,by simpa [go_sem] using h.l⟩
 have:=h.t;simp[go_sem,this,d2,Ne.symm d2]
end
theorem tH(b u:Nat)(hu:u < 64)(W:World):(Instr.sliceAt 201 (.pointer (some ⟨b,0,none⟩)) (some (.int .i64 (u:Int))) none none).run prog W = .ok (.slice (some ⟨b,u,none⟩) (64 - u) (64 - u)) W:=by
 cases hq:prog.info? 5 with
 | none=>have:=cQ;simp[hq] at this
 | some j =>
  have hs:j.size=1:=by have:=cQ;simpa [hq] using this
  have c3 : ¬ (64 < u):=om;have c4 : ¬ (64=u):=om;have c5:(u:Int)≤64:=om
  by_cases h0:u=0
  ·subst h0;simp[Instr.sliceAt,run_underlying underlying201,Instr.sureAddr,Instr.sliceBounds,Instr.sliceBound,asIntOf,sizeOf,typeInfo,hq,hs,Addr.add]
  ·simp[Instr.sliceAt,run_underlying underlying201,Instr.sureAddr,Instr.sliceBounds,Instr.sliceBound,asIntOf,sizeOf,typeInfo,hq,hs,Addr.add,c3,c4,c5,h0]
   try (intro h;omega)
theorem nD(b o n c q:Nat)(hq:q≤n)(hc:n≤c)(W:World):(Instr.slice 39 (.slice (some ⟨b,o,none⟩) n c) (some (.int .i64 (q:Int))) none none).run prog W = .ok (.slice (some ⟨b,if c=q then o else o+q,none⟩) (n - q) (c - q)) W:=by
 cases hqq:prog.info? 5 with
 | none=>have:=cQ;simp[hqq] at this
 | some j =>
  have hs:j.size=1:=by have:=cQ;simpa [hqq] using this
  have c3 : ¬ (n < q):=om;have c5:(q:Int)≤n:=om
  by_cases h0:q=0
  ·subst h0;simp[Instr.slice,Instr.sliceAt,run_underlying underlying39,Instr.sureAddr,Instr.sliceBounds,Instr.sliceBound,asIntOf,sizeOf,typeInfo,hqq,hs,Addr.add,hc]
   done
  ·by_cases h1:c=q
   ·simp[Instr.slice,Instr.sliceAt,run_underlying underlying39,Instr.sureAddr,Instr.sliceBounds,Instr.sliceBound,asIntOf,sizeOf,typeInfo,hqq,hs,Addr.add,c3,c5,h0,h1,hc]
    done
   ·simp[Instr.slice,Instr.sliceAt,run_underlying underlying39,Instr.sureAddr,Instr.sliceBounds,Instr.sliceBound,asIntOf,sizeOf,typeInfo,hqq,hs,Addr.add,c3,c5,h0,h1,hc]
    done
def OM:Value→Nat
 | .slice _ n _=>n
 | _=>0
@[simp] theorem zr(ad:Option Addr)(n c:Nat):OM (.slice ad n c)=n:=rfl
theorem Bs.kb{X:Nat→Prop}{w u:World}{ad:Option Addr}{n c:Nat}{l:List UInt8}(h:Bs w ad n c l)(hk:Kb X w u)(hx:∀ g,(Value.slice ad n c).ownBlock=some g→¬ X g):Bs u ad n c l:=by
 obtain⟨h1,h2,h3,h4,h5⟩:=h;refine⟨h1,h2,h3,h4,fun h0=>?_⟩;obtain⟨b,o,rfl,hr⟩:=h5 h0;refine⟨b,o,rfl,?_⟩;rw[← hr];have:=hk.block b (ac hr) (hx b rfl);simp[readAt,this]
theorem xp(T B U S:Nat)(m:ym)(t:Int)(ad:Option Addr)(n c:Nat)(l:List UInt8)(w:World)(hF:FM w T B U S m t)(hlt:m.used < 64)(hg:GK w)(hl:Bs w ad n c l)(hx:∀ g,(Value.slice ad n c).ownBlock=some g→¬ FX T B U S g)(ht:0≤t∧t+n < 1099511627776):
  Calls prog 146 #[.slice ad n c,.pointer (some ⟨T,0,none⟩),.pointer (some ⟨B,0,none⟩),.pointer (some ⟨U,0,none⟩),.pointer (some ⟨S,0,none⟩)] w fun e w'=>e = .returned (.tuple #[])∧FM w' T B U S (cV m l) (t+n)∧Kb (FX T B U S) w w':=by
 have hwr:IntKind.i64.wrap (t+(n:Int))=t+(n:Int):=wi;have q1:=hF.t;have q2:=hF.tf;have HF:=SM (hF.setT (t+n));have HG:=SM hg;have HL:=SM hl;have Hx:=SM hx;have Hlt:=SM hlt;clear hF hg hl hx hlt
 go_in
 go_wp2_with fail
 have HK:Hd (Kb (FX T B U S) w (w.setCell ⟨T,0,none⟩ (.int .i64 (t+n)))):=(Kb.refl _ _).cell1 _ _ (.inl rfl);have Hx0:Hd (¬ FX T B U S 0):=fun h=>by
  obtain⟨_,_,_,_,_,_,p1,p2,p3,p4⟩:=HF.o.d
  rcases h with h | h | h | h <;> omega
 have HL1:Hd (Bs (w.setCell ⟨T,0,none⟩ (.int .i64 (t+n))) ad n c l):=HL.o.kb HK.o Hx.o
 go_loopw [0] (fun p wr=>∃ ad' n' c' l' m',p = .slice ad' n' c'∧Bs wr ad' n' c' l'∧cV m l=cV m' l'∧FM wr T B U S m' (t+n)∧m'.used < 64∧Kb (FX T B U S) w wr∧∀ g,(Value.slice ad' n' c').ownBlock=some g→¬ FX T B U S g) (fun p _=>OM p)
 case atStart=>exact⟨ad,n,c,l,m,rfl,HL1.o,rfl,HF.o,Hlt.o,HK.o,Hx.o⟩
 case round =>
  obtain⟨ad',n',c',l',m',rfl,hl,hab,hF,hlt,hK,hx⟩:=hrel;have HL':=SM hl;have HAb:=SM hab;have HF':=SM hF;have HK':=SM hK;have Hx':=SM hx;clear hl hab hF hK hx HL HL1 HF HK Hx Hlt q1 q2
  by_cases h0:0 < n'
  ·obtain⟨hll,hcap,hmax,hnil,hrd⟩:=HL'.o;obtain⟨b,o,rfl,hr⟩:=hrd h0;obtain⟨q,hq⟩:=eY (Nat.min n' (64 - m'.used));have hq1:0 < q∧q≤n'∧m'.used+q≤64:=by rw[← hq];simp only[Nat.min_def];split <;> omega
   have hbB:b≠B:=fun e=>Hx'.o b rfl (.inr (.inl e));have hcp:=dP wr 3 B m'.used (64 - m'.used) (64 - m'.used) b o n' c' q hq.symm (bv (l'.take q)) (aC HF'.o.b.k m'.used q om) (by
    rw[aB hr o q (Nat.le_refl _) om,Nat.sub_self,eu,List.drop_zero]) (oG _)
   have hs1:=tH B m'.used hlt;have u1:=HF'.o.u;have h0i:decide ((0:Int) < (n':Int))=true:=dt;obtain⟨oo,hoo⟩ : ∃ oo,(if c'=q then o else o+q)=oo:=⟨_,rfl⟩;have hs2:∀ W:World,(Instr.slice 39 (.slice (some ⟨b,o,none⟩) n' c') (some (.int .i64 (q:Int))) none none).run prog W = .ok (.slice (some ⟨b,oo,none⟩) (n' - q) (c' - q)) W:=fun W=>by
    rw[nD b o n' c' q hq1.2.1 hcap W,hoo]
   have hlq:(l'.take q).length=q:=sO;have hfl:=HF'.o.fill (l'.take q) om;have hkf:Kb (FX T B U S) w (setAt wr B m'.used (bv (l'.take q))):=HK'.o.at1 B _ _ (.inr (.inl rfl));have hw2:IntKind.i64.wrap ((m'.used:Int)+(q:Int))=((m'.used+q:Nat):Int):=wi;have hkw:Kb (FX T B U S) wr (setAt wr B m'.used (bv (l'.take q))):=(Kb.refl _ _).at1 B _ _ (.inr (.inl rfl));generalize setAt wr B m'.used (bv (l'.take q))=w2 at hcp hfl hkf hkw
   have u2:=hfl.u;have u3:=hfl.uf;have hfu:=hfl.setU (m'.used+q) om;have hku:=hkf.cell1 ⟨U,0,none⟩ (.int .i64 ((m'.used+q:Nat):Int)) (.inr (.inr (.inl rfl)));have hkx:=hkw.cell1 ⟨U,0,none⟩ (.int .i64 ((m'.used+q:Nat):Int)) (.inr (.inr (.inl rfl)));have u4:=hfu.u;have u5:=hfu.uf;have hrest:∀ W,Kb (FX T B U S) wr W→Bs W (some ⟨b,oo,none⟩) (n' - q) (c' - q) (l'.drop q):=fun W hW=>by
    have h1:=HL'.o.kb hW Hx'.o;obtain⟨_,_,_,_,hrd'⟩:=h1;obtain⟨b',o',e,hr'⟩:=hrd' h0;cases e;refine⟨sO,om,om,fun h=>by simp at h,fun h1=>⟨b,oo,rfl,?_⟩⟩
    have:oo=o+q:=by rw[← hoo,if_neg om]
    rw[this,aB hr' (o+q) (n' - q) om om,eu]
    congr 1
    rw[show o+q - o=q by omega,List.take_of_length_le sO]
   have habs:cV m l=cV (cV m' (l'.take q)) (l'.drop q):=by rw[← fl,List.take_append_drop];exact HAb.o
   have hfill:=mp m' (l'.take q) hlt (fun e=>by rw[e] at hlq;simp at hlq;omega) om
   rw[hlq] at hfill;have hm1:OM (Value.slice (some ⟨b,oo,none⟩) (n' - q) (c' - q)) < OM (Value.slice (some ⟨b,o,none⟩) n' c'):=by simp only[zr];omega
   have hx2:∀ g,(Value.slice (some ⟨b,oo,none⟩) (n' - q) (c' - q)).ownBlock=some g→¬ FX T B U S g:=fun g hg=>by
    cases hg;exact Hx'.o b rfl
   by_cases h64:m'.used+q=64
   ·have hd:decide (((m'.used+q:Nat):Int)=64)=true:=dt;have hd2:(((m'.used+q:Nat):Int)=64):=om;rw[if_pos h64] at hfill;rw[hd2] at hfu hku hkx;have Hfill:=SM hfill;have Hrest:=SM hrest;have Hhabs:=SM habs;have Hfu:=SM hfu;have Hku:=SM hku;have Hkx:=SM hkx;have Hm1:=SM hm1;have Hx2:=SM hx2;clear hfill hrest habs hfu hku hkx hm1 hx2 hfl hkf hkw
    go_upto_region 6 with fail
    clear hcp u4 u5;generalize w2.setCell ⟨U,0,none⟩ (.int .i64 64)=w3 at *;clear hs1 hs2 u1 u2 u3 hr hrd;have hc1:=Hfu.o.s.r;have hc2:=Hfu.o.b.r
    go_wp2_with fail
    refine (Bv m'.st (eX m'.buf m'.used (l'.take q)) _ (HG.o.kb Hku.o Hx0.o)).mono ?_;rintro _ w4 ⟨rfl,hb⟩;have hf4:=Hfu.o.below hb;have hk4:Kb (FX T B U S) w w4:=Hku.o.trans (Kb.of_below (X:=FX T B U S) hb) (fun i hi=>.inl hi);have hx4:Kb (FX T B U S) wr w4:=Hkx.o.trans (Kb.of_below (X:=FX T B U S) hb) (fun i hi=>.inl hi);have Hf4:=SM hf4;have Hk4:=SM hk4;have Hx4:=SM hx4;clear hf4 hk4 hx4 hb hc1 hc2
    have hk:=Hf4.o.s.k
    go_upto_region 7 with fail
    have hf5:=Hf4.o.blk (cL m'.st (eX m'.buf m'.used (l'.take q)));have hk5:=Hk4.o.at1 S 0 (fw W4 (cL m'.st (eX m'.buf m'.used (l'.take q)))) (.inr (.inr (.inr rfl)));have hx5:=Hx4.o.at1 S 0 (fw W4 (cL m'.st (eX m'.buf m'.used (l'.take q)))) (.inr (.inr (.inr rfl)));generalize setAt w4 S 0 (fw W4 (cL m'.st (eX m'.buf m'.used (l'.take q))))=w5 at *;clear hk;have u6:=hf5.u;have u7:=hf5.uf;have hf6:=hf5.setU 0 om
    have hk6:=hk5.cell1 ⟨U,0,none⟩ (.int .i64 ((0:Nat):Int)) (.inr (.inr (.inl rfl)));have hx6:=hx5.cell1 ⟨U,0,none⟩ (.int .i64 ((0:Nat):Int)) (.inr (.inr (.inl rfl)));have Hf6:=SM hf6;have Hk6:=SM hk6;have Hx6:=SM hx6;clear hf5 hf6 hk5 hx5 hk6 hx6
    go_wp2_with fail
    go_round
    case measure=>exact Hm1.o
    refine⟨_,_,_,_,_,rfl,Hrest.o _ Hx6.o,by rw[Hhabs.o,Hfill.o],Hf6.o,sm,Hk6.o,Hx2.o⟩
   ·have hd:decide (((m'.used+q:Nat):Int)=64)=false:=df;have hd2 : ¬ (((m'.used+q:Nat):Int)=64):=om;rw[if_neg h64] at hfill;have Hfill:=SM hfill;have Hrest:=SM hrest;have Hhabs:=SM habs;have Hfu:=SM hfu;have Hku:=SM hku;have Hkx:=SM hkx;have Hm1:=SM hm1;have Hx2:=SM hx2;clear hfill hrest habs hfu hku hkx hm1 hx2 hfl hkf hkw
    go_wp2_with fail
    go_round
    case measure=>exact Hm1.o
    refine⟨_,_,_,_,_,rfl,Hrest.o _ Hkx.o,by rw[Hhabs.o,Hfill.o],Hfu.o,by show m'.used+q < 64;omega,Hku.o,Hx2.o⟩
  ·have hn:n'=0:=om;subst hn;have hll:=HL'.o.1;have:l'=[]:=List.length_eq_zero_iff.1 hll;subst this
   go_wp2
   go_end0
   refine⟨rfl,?_,HK'.o⟩;rw[HAb.o];exact HF'.o
end
end Go.Proofs.YtlcfaaodmickbaaGreatDoor
