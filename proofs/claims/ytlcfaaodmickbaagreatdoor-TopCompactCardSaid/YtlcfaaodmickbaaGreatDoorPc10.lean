/- Part 10 of the proof: texts merged and shortened by a program. No conditions. -/
import Derived.Laws.Tables
import Derived.Laws.IdiomCopy
import Derived.Test.YtlcfaaodmickbaaGreatDoorPc08
import Derived.Test.YtlcfaaodmickbaaGreatDoorPc09
set_option linter.unusedSimpArgs false
set_option linter.unusedVariables false
set_option maxRecDepth 100000
set_option maxHeartbeats 8000000
namespace Go.Proofs.YtlcfaaodmickbaaGreatDoor
open Go.RowKit Go.Proofs.Tryz
section
open Go.RowKit Go.Shelf
attribute [local go_sem] Oper.semAt_some
def xi(key:RW)(nonce:N8)(l:List UInt8)(m:Nat):List UInt8:=l.mapIdx fun i x=>if i < m then x ^^^ ji key nonce i else x
@[simp] theorem KD(key:RW)(nonce:N8)(l:List UInt8)(m:Nat):(xi key nonce l m).length=l.length:=by simp[xi]
theorem B5(key:RW)(nonce:N8)(l:List UInt8):xi key nonce l 0=l:=by apply List.ext_getElem <;> simp[xi]
theorem FO(key:RW)(nonce:N8)(l:List UInt8)(m:Nat)(h:l.length≤m):xi key nonce l m=fm key nonce l:=by
 apply List.ext_getElem
 ·simp
 ·intro i h1 h2;simp only[xi,fm,List.getElem_mapIdx];rw[if_pos (by simp at h1;omega)]
theorem KC(key:RW)(nonce:N8)(l:List UInt8)(m:Nat)(h:m < l.length)(h':m < (xi key nonce l m).length):(xi key nonce l m)[m]=l[m]:=by simp[xi]
theorem B4(key:RW)(nonce:N8)(l:List UInt8)(m:Nat)(h:m < l.length):(xi key nonce l m).set m (l[m] ^^^ ji key nonce m)=xi key nonce l (m+1):=by
 apply List.ext_getElem
 ·simp
 ·intro i h1 h2;rw[List.getElem_set]
  by_cases e:m=i
  ·subst e;simp[xi]
  ·rw[if_neg e];simp only[xi,List.getElem_mapIdx]
   by_cases h3:i < m
   ·rw[if_pos h3,if_pos om]
   ·rw[if_neg h3,if_neg om]
@[go_sem] theorem Nc{α:Type}{n:Nat}(f:α→Value)(x:Vector α n):(fw f x).extract 0 n=fw f x:=by
 apply Array.ext';simp[fw];exact List.take_of_length_le sm
structure MB where
 bb:Nat
 bs:Nat
 bk:Nat
 bn:Nat
 bi:Nat
structure ee (w W:World) (B:MB) (d n:Nat) (key:RW) (nonce:N8) (l:List UInt8) (m p k:Nat):Prop where
 kb:Row B8 W B.bk key
 nb:Row B8 W B.bn nonce
 ib:W.cell? ⟨B.bi,0,none⟩=some (.int .u64 (k:Int))
 fi:W.frozen? ⟨B.bi,0,none⟩=false
 bc:W.cell? ⟨B.bb,0,none⟩=some (.slice (some ⟨d,p,none⟩) (n - p) (n - p))
 bf:W.frozen? ⟨B.bb,0,none⟩=false
 sk:W.cell? ⟨B.bs,0,none⟩=some (.int .i64 0)
 sf:W.frozen? ⟨B.bs,0,none⟩=false
 wb:Wb W d (xi key nonce l m)
 kp:Kb (fun g=>g=d) w W
 sz:B.bi < W.heap.size
structure Fd (w:World) (d:Nat) (B:MB):Prop where
 d:d < w.heap.size
 b:w.heap.size≤B.bb
 s:B.bb < B.bs
 k:B.bs < B.bk
 n:B.bk < B.bn
 i:B.bn < B.bi
section
variable {w W V:World} {B:MB} {d n:Nat} {key:RW} {nonce:N8} {l:List UInt8} {m p k:Nat}
theorem bM{A B:World}{b o:Nat}(h:B.heap[b]? = A.heap[b]?):B.cell? ⟨b,o,none⟩=A.cell? ⟨b,o,none⟩:=by simp[World.cell?,h]
theorem bh{A B:World}{b o:Nat}(h:B.heap[b]? = A.heap[b]?):B.frozen? ⟨b,o,none⟩=A.frozen? ⟨b,o,none⟩:=by simp[World.frozen?,h]
theorem ee.same(h:ee w W B d n key nonce l m p k)(hB:Fd w d B)(hs:∀ g,g≤B.bi→V.heap[g]? = W.heap[g]?)(hk:Kb (fun _=>False) W V):ee w V B d n key nonce l m p k:=by
 have:=hB.d;have:=hB.b;have:=hB.s;have:=hB.k;have:=hB.n;have:=hB.i;exact⟨h.kb.same (hs _ om),h.nb.same (hs _ om),by rw[bM (hs _ om)];exact h.ib,by rw[bh (hs _ om)];exact h.fi,
 by rw[bM (hs _ om)];exact h.bc,by rw[bh (hs _ om)];exact h.bf,by rw[bM (hs _ om)];exact h.sk,by rw[bh (hs _ om)];exact h.sf,
 h.wb.same (hs _ om),h.kp.trans hk (fun i hi=>hi.elim),Nat.lt_of_lt_of_le h.sz hk.size⟩
theorem ee.below(h:ee w W B d n key nonce l m p k)(hB:Fd w d B)(hb:Below W.heap.size W V):ee w V B d n key nonce l m p k :=
 h.same hB (fun g hg=>hb.block g (by have:=h.sz;omega)) (Kb.of_below hb)
theorem Kb.of_grown{X:Nat→Prop}{A B:World}{row:Option Nat}(hg:A.grownBy B row)(hr:∀ r,row=some r→X r):Kb X A B :=
 ⟨hg.os,hg.tape,hg.output,hg.size,fun k hk hx=>hg.block k hk (fun e=>hx (hr k e.symm))⟩
theorem ee.own(hB:Fd w d B)(E:Nat)(hE:B.bi < E):∀ (W V:World) (row:Option Nat),ee w W B d n key nonce l m p k→W.grownBy V row→(∀ r,row=some r→E≤r∧∃ o:Obj,W.heap[r]? = some o∧o.isCells=false)→ee w V B d n key nonce l m p k:=by
 intro W V row h hg hr;have:=hB.d;have:=hB.b;have:=hB.s;have:=hB.k;have:=hB.n;have:=hB.i;have hs:∀ g,g≤B.bi→V.heap[g]? = W.heap[g]?:=fun g hg'=>hg.block g (by have:=h.sz;omega) (fun e=>by have:=(hr g e.symm).1;omega)
 exact⟨h.kb.same (hs _ om),h.nb.same (hs _ om),by rw[bM (hs _ om)];exact h.ib,by rw[bh (hs _ om)];exact h.fi,
 by rw[bM (hs _ om)];exact h.bc,by rw[bh (hs _ om)];exact h.bf,by rw[bM (hs _ om)];exact h.sk,by rw[bh (hs _ om)];exact h.sf,
 h.wb.same (hs _ om),h.kp.trans (Kb.of_grown (X:=fun r=>E≤r) hg (fun r e=>(hr r e).1)) (fun i hi=>.inr om),Nat.lt_of_lt_of_le h.sz hg.size⟩
end
theorem Kb.mod{X:Nat→Prop}{A:World}(p:Addr)(v:Value)(hx:X p.block):Kb X A (A.setCell p v):=(Kb.refl X A).cell1 p v hx
section
variable {w W V:World} {B:MB} {d n:Nat} {key:RW} {nonce:N8} {l:List UInt8} {m p k:Nat}
theorem ee.set(h:ee w W B d n key nonce l m p k)(hB:Fd w d B)(k':Nat):ee w (W.setCell ⟨B.bi,0,none⟩ (.int .u64 (k':Int))) B d n key nonce l m p k':=by
 have:=hB.d;have:=hB.b;have:=hB.s;have:=hB.k;have:=hB.n;have:=hB.i;have hs:∀ g,g≠B.bi→(W.setCell ⟨B.bi,0,none⟩ (.int .u64 (k':Int))).heap[g]? = W.heap[g]?:=fun g hg=>Below.heap_setCell _ _ _ _ hg;exact⟨h.kb.same (hs _ om),h.nb.same (hs _ om),by simp[go_sem,h.ib,h.fi],by simp[go_sem,h.ib,h.fi],
 by rw[bM (hs _ om)];exact h.bc,by rw[bh (hs _ om)];exact h.bf,by rw[bM (hs _ om)];exact h.sk,by rw[bh (hs _ om)];exact h.sf,
 h.wb.same (hs _ om),h.kp.cellN _ _ (.inr (by show _≤B.bi;omega)),by simpa using h.sz⟩
theorem ee.setB(h:ee w W B d n key nonce l m p k)(hB:Fd w d B)(p':Nat)(v:Value)(hv:v = .slice (some ⟨d,p',none⟩) (n - p') (n - p')):ee w (W.setCell ⟨B.bb,0,none⟩ v) B d n key nonce l m p' k:=by
 subst hv;have:=hB.d;have:=hB.b;have:=hB.s;have:=hB.k;have:=hB.n;have:=hB.i;have hs:∀ g,g≠B.bb→(W.setCell ⟨B.bb,0,none⟩ (.slice (some ⟨d,p',none⟩) (n - p') (n - p'))).heap[g]? = W.heap[g]?:=fun g hg=>Below.heap_setCell _ _ _ _ hg;exact⟨h.kb.same (hs _ om),h.nb.same (hs _ om),by rw[bM (hs _ om)];exact h.ib,by rw[bh (hs _ om)];exact h.fi,
 by simp[go_sem,h.bc,h.bf],by simp[go_sem,h.bc,h.bf],by rw[bM (hs _ om)];exact h.sk,by rw[bh (hs _ om)];exact h.sf,
 h.wb.same (hs _ om),h.kp.cellN _ _ (.inr (by show _≤B.bb;omega)),by simpa using h.sz⟩
theorem ee.setS(h:ee w W B d n key nonce l m p k)(hB:Fd w d B):ee w (W.setCell ⟨B.bs,0,none⟩ (.int .i64 0)) B d n key nonce l m p k:=by
 have:=hB.d;have:=hB.b;have:=hB.s;have:=hB.k;have:=hB.n;have:=hB.i;have hs:∀ g,g≠B.bs→(W.setCell ⟨B.bs,0,none⟩ (.int .i64 0)).heap[g]? = W.heap[g]?:=fun g hg=>Below.heap_setCell _ _ _ _ hg;exact⟨h.kb.same (hs _ om),h.nb.same (hs _ om),by rw[bM (hs _ om)];exact h.ib,by rw[bh (hs _ om)];exact h.fi,
 by rw[bM (hs _ om)];exact h.bc,by rw[bh (hs _ om)];exact h.bf,by simp[go_sem,h.sk,h.sf],by simp[go_sem,h.sk,h.sf],
 h.wb.same (hs _ om),h.kp.cellN _ _ (.inr (by show _≤B.bs;omega)),by simpa using h.sz⟩
theorem ee.step(h:ee w W B d n key nonce l m p k)(hB:Fd w d B)(hm:m < l.length):ee w (W.setCell ⟨d,m,none⟩ (B8 (l[m] ^^^ ji key nonce m))) B d n key nonce l (m+1) p k:=by
 have:=hB.d;have:=hB.b;have:=hB.s;have:=hB.k;have:=hB.n;have:=hB.i;have hs:∀ g,g≠d→(W.setCell ⟨d,m,none⟩ (B8 (l[m] ^^^ ji key nonce m))).heap[g]? = W.heap[g]?:=fun g hg=>Below.heap_setCell _ _ _ _ hg;have hw:=h.wb.set m (by simpa using hm) (l[m] ^^^ ji key nonce m)
 rw[B4 key nonce l m hm] at hw;exact⟨h.kb.same (hs _ om),h.nb.same (hs _ om),by rw[bM (hs _ om)];exact h.ib,by rw[bh (hs _ om)];exact h.fi,
 by rw[bM (hs _ om)];exact h.bc,by rw[bh (hs _ om)];exact h.bf,by rw[bM (hs _ om)];exact h.sk,by rw[bh (hs _ om)];exact h.sf,
 hw,h.kp.cellN _ _ (.inl rfl),by simpa using h.sz⟩
end
theorem ee.drew{w W:World}{B:MB}{d n:Nat}{key:RW}{nonce:N8}{l:List UInt8}{m p k:Nat}(h:ee w W B d n key nonce l m p k)(hB:Fd w d B):ee w W.drew B d n key nonce l m p k:=h.below hB (Below.refl _ _).drew
theorem K0{E:Nat}{A W:World}(h:KeepsFrom E A W):KeepsFrom E A W.drew:=⟨h.size,h.same⟩
theorem mN{E:Nat}{A W:World}(h:KeepsFrom E A W)(p:Addr)(v:Value):KeepsFrom E A (W.setCell p v):=h.trans ((KeepsOthers.setCell _ _ _).from _)
theorem KE(key:RW)(nonce:N8)(k j:Nat)(hj:j < 16):ji key nonce (16 * k+j)=(cI key nonce k)[j]:=by
 unfold ji;rw[show (16 * k+j) / 16=k by omega,show (16 * k+j) % 16=j by omega,eO _ _ hj]
theorem zt(w:World)(key:RW)(nonce:N8)(v:Value)(W:World)(hW:((((((w.alloc (.cells (fw B8 key) 22)).alloc (.cells (fw B8 nonce) 107)).alloc (.cells #[v] 39)).alloc (.cells #[.int .i64 0] 3)).alloc (.cells (fw B8 key) 22)).alloc (.cells (fw B8 nonce) 107)).alloc (.cells #[.int .u64 0] 195)=W):
  Row B8 W (w.heap.size+4) key∧Row B8 W (w.heap.size+5) nonce∧W.cell? ⟨w.heap.size+6,0,none⟩=some (.int .u64 0)∧W.frozen? ⟨w.heap.size+6,0,none⟩=false∧W.cell? ⟨w.heap.size+2,0,none⟩=some v∧W.frozen? ⟨w.heap.size+2,0,none⟩=false∧W.cell? ⟨w.heap.size+3,0,none⟩=some (.int .i64 0)∧W.frozen? ⟨w.heap.size+3,0,none⟩=false∧W.heap.size=w.heap.size+7∧Below w.heap.size w W:=by
 obtain⟨w4,h4⟩:=eY ((((w.alloc (.cells (fw B8 key) 22)).alloc (.cells (fw B8 nonce) 107)).alloc (.cells #[v] 39)).alloc (.cells #[.int .i64 0] 3));have hs4:w4.heap.size=w.heap.size+4:=by rw[← h4];simp
 have c2:w4.cell? ⟨w.heap.size+2,0,none⟩=some v:=by rw[← h4];simp[go_sem]
 have f2:w4.frozen? ⟨w.heap.size+2,0,none⟩=false:=by rw[← h4];simp[go_sem]
 have c3:w4.cell? ⟨w.heap.size+3,0,none⟩=some (.int .i64 0):=by rw[← h4];simp[go_sem]
 have f3:w4.frozen? ⟨w.heap.size+3,0,none⟩=false:=by rw[← h4];simp[go_sem]
 have hb4:Below w.heap.size w w4:=by rw[← h4];exact ba _ (ba _ (ba _ (ba _ (Below.refl _ _))))
 rw[h4] at hW;obtain⟨hK,hN,hb5,hs5⟩:=iH w4 22 107 B8 key B8 nonce;generalize (w4.alloc (.cells (fw B8 key) 22)).alloc (.cells (fw B8 nonce) 107)=w5 at *;have hb6:=ba (.cells #[.int .u64 0] 195) (Sy w5);have hb46:Below w4.heap.size w4 W:=by rw[← hW];exact bt hb5 hb6
 rw[hs4] at hK hN hs5;refine⟨by rw[← hW];exact hK.below hb6,by rw[← hW];exact hN.below hb6,?_,?_,?_,?_,?_,?_,?_,bt hb4 hb46⟩
 ·rw[← hW,show w.heap.size+6=w5.heap.size by omega];simp[go_sem]
 ·rw[← hW,show w.heap.size+6=w5.heap.size by omega];simp[go_sem]
 ·rw[bM (hb46.block _ om)];exact c2
 ·rw[bh (hb46.block _ om)];exact f2
 ·rw[bM (hb46.block _ om)];exact c3
 ·rw[bh (hb46.block _ om)];exact f3
 ·rw[← hW];simp;omega
set_option maxRecDepth 100000 in
theorem Lc(key:RW)(nonce:N8)(d n:Nat)(l:List UInt8)(w:World)(hl:l.length=n)(hn:0 < n)(hmx:n≤1000000000)(hw:Wb w d l):
  CallsIn Fence.wide 5 prog 224 #[.agg (fw B8 key),.agg (fw B8 nonce),.int .i64 0,.slice (some ⟨d,0,none⟩) n n] w fun e W=>e = .returned (.tuple #[])∧Wb W d (fm key nonce l)∧Kb (fun g=>g=d) w W:=by
 refine callsIn_of_wp_marks func224 rfl trivial ?_ rfl;simp only[ntmps224,List.size_toArray,List.length_cons,List.length_nil,Nat.reduceAdd,Nat.reduceSub,Array.replicate_succ,Array.replicate_zero,List.push_toArray,List.append_toArray,List.nil_append,List.cons_append];have hd0:decide ((n:Int)=0)=false:=df
 gi_wp2
 refine⟨trivial,(callsIn_wide.2 (yy key nonce 0 _)).mono ?_⟩;rintro _ _ ⟨rfl,rfl⟩
 gi_wp2
 generalize hW0:(((((((w.alloc (.cells (fw B8 key) 22)).alloc (.cells (fw B8 nonce) 107)).alloc (.cells #[.slice (some ⟨d,0,none⟩) n n] 39)).alloc (.cells #[.int .i64 0] 3)).alloc (.cells (fw B8 key) 22)).alloc (.cells (fw B8 nonce) 107)).alloc (.cells #[.int .u64 0] 195))=W0;obtain⟨hK,hN,hi,hfi,hb,hbf,hs,hsf,hsz,hbel⟩:=zt w key nonce (.slice (some ⟨d,0,none⟩) n n) W0 hW0;clear hW0;generalize hB:(MB.mk (w.heap.size+2) (w.heap.size+3) (w.heap.size+4) (w.heap.size+5) (w.heap.size+6))=B
 have hBo:Fd w d B:=by subst hB;exact⟨hw.lt,sm,sm,sm,sm,sm⟩
 have hI:ee w W0 B d n key nonce l 0 0 0:=by subst hB;exact⟨hK,hN,hi,hfi,hb,hbf,hs,hsf,by rw[B5];exact hw.below hbel,Kb.of_below hbel,by show w.heap.size+6 < _;omega⟩
 have hE:W0.heap.size=B.bi+1:=by subst hB;omega
 have e2:w.heap.size+1+1=B.bb:=by subst hB;rfl
 have e3:w.heap.size+1+1+1=B.bs:=by subst hB;rfl
 have e4:w.heap.size+1+1+1+1=B.bk:=by subst hB;rfl
 have e5:w.heap.size+1+1+1+1+1=B.bn:=by subst hB;rfl
 have e6:w.heap.size+1+1+1+1+1+1=B.bi:=by subst hB;rfl
 rw[e6,e5,e4,e3,e2];clear e2 e3 e4 e5 e6 hB hK hN hi hfi hb hbf hs hsf hsz hbel hd0;have HI:=SM hI;have HL:=SM hl;clear hI hl;refine zR rfl dc (gf:=234) (lb:=#[.pointer (some ⟨B.bk,0,none⟩),.pointer (some ⟨B.bn,0,none⟩),.pointer (some ⟨B.bi,0,none⟩)]) rfl trivial (enters_of func234 kr rfl)
  (fun k=>#[.agg (fw B8 (cI key nonce k))]) (fun _=>rfl)
  (fun k W=>16 * k < n∧ee w W B d n key nonce l (16 * k) (16 * k) k)
  (fun k W=>16 * (k+1) < n∧ee w W B d n key nonce l (16 * (k+1)) (16 * (k+1)) k)
  (fun c W=>c = .ret∧Wb W d (fm key nonce l)∧Kb (fun g=>g=d) w W)
  (fun k A=>A.setCell ⟨B.bi,0,none⟩ (.int .u64 ((k+1:Nat):Int)))
  (fun k A=>KeepsOthers.setCell _ _ _)
  (fun k X Y row h hg hr=>⟨h.1,ee.own hBo W0.heap.size om X Y row h.2 hg hr⟩)
  (fun k X Y row h hg hr=>⟨h.1,ee.own hBo W0.heap.size om X Y row h.2 hg hr⟩)
  (fun c X Y row h hg hr=>⟨h.1,h.2.1.same (hg.block _ h.2.1.lt (fun e=>by have:=(hr _ e.symm).1;have:=hBo.d;have:=hBo.b;have:=hBo.s;have:=hBo.k;have:=hBo.n;have:=hBo.i;omega)),h.2.2.trans (Kb.of_grown (X:=fun r=>W0.heap.size≤r) hg (fun r e=>(hr r e).1)) (fun i hi=>.inr (by have:=hBo.b;have:=hBo.s;have:=hBo.k;have:=hBo.n;have:=hBo.i;omega))⟩)
  (fun k X Y h hb=>⟨h.1,h.2.below hBo hb⟩)
  (fun k A h=>⟨h.1,h.2.set hBo (k+1)⟩)
  ?hit ⟨om,HI.o⟩
  (fun k a' W=>∃ Bx,B.bi < Bx∧Row B8 W Bx (cI key nonce k)∧a'={ tmps:=#[.agg (fw B8 key),.agg (fw B8 nonce),.int .i64 0,.slice (some ⟨d,0,none⟩) n n,.pointer (some ⟨w.heap.size,0,none⟩),.pointer (some ⟨w.heap.size+1,0,none⟩),undef,.pointer (some ⟨B.bb,0,none⟩),.pointer (some ⟨B.bs,0,none⟩),.pointer (some ⟨Bx,0,none⟩),undef,undef,.slice (some ⟨d,0,none⟩) n n,.int .i64 n,.bool false,.int .i64 0,.int .i64 0,.agg (fw B8 key),.agg (fw B8 nonce),.int .i64 0,.int .i64 0,.int .u64 0,.func (.func 234) #[] #[.pointer (some ⟨B.bk,0,none⟩),.pointer (some ⟨B.bn,0,none⟩),.pointer (some ⟨B.bi,0,none⟩)],.agg (fw B8 (cI key nonce k)),undef,undef,undef,undef,undef,undef,undef,undef,undef,undef,undef,undef,undef,undef,undef,undef,undef,undef,undef,undef,undef,undef,undef,undef,undef,undef,undef],defers:=[] })
  (fun k a' s X Y row h hg hr=>by
   obtain⟨Bx,h1,h2,h3⟩:=h;refine⟨Bx,h1,h2.same (hg.block _ h2.lt (fun e=>?_)),h3⟩;obtain⟨_,o,ho,hc⟩:=hr _ e.symm;obtain⟨c,t,hb,_⟩:=cg h2.k;rw[hb] at ho;cases ho;cases hc)
  ?assign ?body ?stop
 case hit =>
  intro l' J J' Jx W hJb hJf hJs hY h0;refine yx 4 om l' B.bk B.bn B.bi key nonce 0 (n+1) om J J' Jx hJb (fun k A hJ=>?_) (fun k A hJ=>?_) (fun k A hJ=>?_) W h0
  ·have h:=hJf k A hJ;rw[Nat.zero_add];exact⟨om,h.2.kb,h.2.nb,h.2.ib,h.2.fi⟩
  ·obtain⟨h,h2⟩:=hJs k A hJ;rw[Nat.zero_add,Nat.zero_add];exact⟨h.2.ib,h.2.fi,h2⟩
  ·have h:=hY k A hJ;rw[Nat.zero_add];exact h
 case assign =>
  rintro l' k W K ⟨hk,hM⟩ hK
  gi_wp2
  exact hK _ _ ((KeepsOthers.alloc _ _).from _) ⟨hk,hM.below hBo (ba _ (Below.refl _ _))⟩ ⟨W.heap.size,hM.sz,Row.made W _ _,rfl⟩
 case stop =>
  rintro D c W hD ⟨rfl,hw1,hk1⟩ hDe;have hDd:d≠D:=by have:=hBo.d;have:=hBo.b;have:=hBo.s;have:=hBo.k;have:=hBo.n;have:=hBo.i;omega
  have hwD:w.heap.size≤D:=by have:=hBo.d;have:=hBo.b;have:=hBo.s;have:=hBo.k;have:=hBo.n;have:=hBo.i;omega
  gi_wp2
  exact⟨sm,.inl ⟨_,_,rfl,run_takeDeferred hDe,_,results_none rfl _ _ _,rfl,hw1.same (World.putObj_heap_other hDd),hk1.trans (Y:=fun i=>i=D) ⟨rfl,rfl,rfl,by simp[World.putObj],fun k hk hx=>World.putObj_heap_other (fun e=>hx e)⟩ (fun i hi=>.inr (by subst hi;exact hwD))⟩⟩
 case body =>
  rintro l' k a' W hl' ⟨hk,hM⟩ ⟨Bx,hBx,hRx,rfl⟩;have c1:=hM.sk;have c2:=hM.bc;obtain⟨q,hq0,hq1,hq2,hq3⟩ : ∃ q:Nat,0 < q∧q≤16∧q≤n - 16 * k∧(q=16∧16≤n - 16 * k∨q=n - 16 * k∧n - 16 * k < 16):=⟨min 16 (n - 16 * k),om,om,om,om⟩;have HM:=SM hM;have HR:=SM hRx;clear hM hRx;have Hq3:=SM hq3;clear hq3
  gi_wp2
  all_goals
   first
    | rw[show n - 16 * k=q by have:=Hq3.o;omega]
    | rw[show Value.int .i64 16 = .int .i64 (q:Int) from iE (by have:=Hq3.o;omega)]
   clear c1 c2
   gi_loopw [30] (fun i wr=>∃ j:Nat,j≤q∧i = .int .i64 j∧ee w wr B d n key nonce l (16 * k+j) (16 * k) k∧Row B8 wr Bx (cI key nonce k)∧KeepsFrom W0.heap.size W wr) (fun i _=>q - (intOf i).toNat)
   case atStart=>exact⟨0,om,rfl,HM.o,HR.o,KeepsFrom.refl _ _⟩
   case round =>
    clear HM HR;obtain⟨j,hj,rfl,hM,hR,hkf⟩:=hrel;have HM:=SM hM;have HR:=SM hR;have Hkf:=SM hkf;clear hM hR hkf
    by_cases hlt:j < q
    ·have i1:(0:Int)≤(j:Int):=om;have i2:(j:Int) < 16:=om;have i3:(j:Int) < ((n - 16 * k:Nat):Int):=om;have i4:j < n - 16 * k:=om;have i5:16 * k+j < l.length:=by have:=HL.o;omega
     gi_wp2
     replace HM:=SM (HM.o.drew hBo);replace HR:=SM HR.o.drew;replace Hkf:=SM (K0 Hkf.o);refine ov (tk 0 11 (.brk 11 .done)) (fun u=>u=wr.drew) kr kr kr rfl kr rfl ?_;generalize wr.drew=wr at *;have hwj:IntKind.i64.wrap (j:Int)=j:=wi;have c1:=HM.o.sk;have c2:=HM.o.bc;have c3:=HM.o.wb.cell (16 * k+j) (by simpa using i5)
     rw[KC key nonce l _ i5] at c3;have c4:=HR.o.cell j om;have f3:=HM.o.wb.free (16 * k+j);have hst:=HM.o.step hBo i5;rw[KE key nonce k j om] at hst;have Hst:=SM hst;have Hkf2:=SM (mN Hkf.o ⟨d,16 * k+j,none⟩ (B8 (l[16 * k+j] ^^^ (cI key nonce k)[j])));have Hrx:=SM (HR.o.other ⟨d,16 * k+j,none⟩ (B8 (l[16 * k+j] ^^^ (cI key nonce k)[j])) (by have:=hBo.d;have:=hBo.b;have:=hBo.s;have:=hBo.k;have:=hBo.n;have:=hBo.i;show d≠Bx;omega))
     clear hst
     repeat(refine yB ?_;walk_nrm)
     refine et rfl rfl (fun K hK=>?_);go_simp;refine hK _ _ (fun _=>True) trivial (My ?_);simp only[jk] at Hst Hkf2 Hrx;clear HM HR Hkf c1 c2 c3 c4 f3;generalize wr.setCell ⟨d,16 * k+j,none⟩ (.int .u8 (bI (l[16 * k+j] ^^^ (cI key nonce k)[j])))=wr at *
     gi_wp2
     go_roundw
     case rel=>exact⟨j+1,om,by go_num,Hst.o,Hrx.o,Hkf2.o⟩
     case measure=>simp only[intOf];omega
    ·obtain rfl:j=q:=om;have c1:=HM.o.sk;have c2:=HM.o.bc;have f1:=HM.o.sf;have f2:=HM.o.bf;have hbd:=hBo.d;have hbb:=hBo.b;have hbs:=hBo.s;have hbk:=hBo.k;have hbn:=hBo.n;have hbi:=hBo.i;have s1:=nD d (16 * k) (n - 16 * k) (n - 16 * k) j om (Nat.le_refl _)
     by_cases hlast:n - 16 * k=j
     ·rw[if_pos hlast,show n - 16 * k - j=0 by omega] at s1
      have HA:=SM hlast;clear hlast;have hw2:Wb wr d (fm key nonce l):=by have:=HM.o.wb;rwa [FO _ _ _ _ (by have:=HA.o;have:=HL.o;omega)] at this
      have hne:B.bb≠B.bs:=om
      gi_wp2
      exact⟨mN (mN Hkf.o _ _) _ _,rfl,(hw2.other _ _ (by show B.bb≠d;omega)).other _ _ (by show B.bs≠d;omega),(HM.o.kp.cellN _ _ (.inr (by show _≤B.bb;omega))).cellN _ _ (.inr (by show _≤B.bs;omega))⟩
     ·first
       | (exfalso;have:=Hq3.o;omega)
       | (
        rw[if_neg hlast] at s1;have hq16:16 < n - 16 * k:=by have:=Hq3.o;omega
        obtain rfl:j=16:=by have:=Hq3.o;omega
        have b0:(((n - 16 * k - 16:Nat):Int) == 0)=false:=sO;have b1:16 * (k+1) < n:=om;have hv:Value.slice (some ⟨d,16 * k+16,none⟩) (n - 16 * k - 16) (n - 16 * k - 16) = .slice (some ⟨d,16 * (k+1),none⟩) (n - 16 * (k+1)) (n - 16 * (k+1)):=by
         rw[show n - 16 * k - 16=n - 16 * (k+1) by omega,show 16 * k+16=16 * (k+1) by omega]
        have h2:=(HM.o.setB hBo (16 * (k+1)) _ hv).setS hBo;rw[show 16 * k+16=16 * (k+1) by omega] at h2
        have H2:=SM h2;clear h2 hv;have hne:B.bb≠B.bs:=om
        gi_wp2
        exact⟨by rw[← hE];exact mN (mN Hkf.o _ _) _ _,H2.o⟩)
end
section
theorem gC{place:Nat→Option (Nat × Nat)}{cells:Array Value}{i:Nat}{v:Value}{rest:List (Nat × Value)}{off size:Nat}(hp:place i=some (off,size))(hs:v.cells.size=size)(hle:off+size≤cells.size):
  Instr.fill place cells ((i,v) :: rest)=Instr.fill place (bK cells off v.cells) rest:=by
 rw[Instr.fill,hp];simp only[hs,ne_eq,not_true_eq_false,decide_false,Bool.false_or,decide_eq_true_eq];rw[if_neg om];have h:=lH cells v.cells off om;rw[← h]
theorem jC{P:Program}{T:TypeId}{z:Array Value}{fields:Array Field}{places:List (Nat × Nat)}(hz:(P.info? T).bind (·.zero)=some (.agg z))(hu:P.underlying T=some (.struct fields))
  (hp:(fields.toList.mapM fun f=>(P.info? f.type).map fun i=>(f.offset,i.size))=some places) (parts:List (Nat × Value)):P.built T parts=Instr.fill (places.toArray[·]?) z parts:=by
 obtain⟨i,hi,hz'⟩:=Option.bind_eq_some_iff.1 hz;simp only[Program.built,hi,hu,hz',hp,Value.cells]
theorem jW(a b c d:Array Value)(o:Nat)(ho:o=a.size)(h:d.size=b.size):bK (a ++ b ++ c) o d=a ++ d ++ c:=by
 subst ho
 apply Array.ext'
 simp only[bK,Array.toList_append];rw[List.append_assoc a.toList,List.take_left' sm,← List.append_assoc a.toList,List.drop_left' sO]
theorem o5(a b d:Array Value)(o:Nat)(ho:o=a.size)(h:d.size=b.size):bK (a ++ b) o d=a ++ d:=by
 have:=jW a b #[] d o ho h;simpa using this
def AC:List (Nat × Value × Array Value)→Array Value
 | []=>#[]
 | x :: L=>x.2.2 ++ AC L
def Fz:List (Nat × Value × Array Value)→Array Value
 | []=>#[]
 | x :: L=>x.2.1.cells ++ Fz L
def R8(place:Nat→Option (Nat × Nat)):Nat→List (Nat × Value × Array Value)→Prop
 | _,[]=>True
 | o,x :: L=>place x.1=some (o,x.2.2.size)∧x.2.1.cells.size=x.2.2.size∧R8 place (o+x.2.2.size) L
theorem xq(place:Nat→Option (Nat × Nat))(suf:Array Value):∀ (L:List (Nat × Value × Array Value)) (pre:Array Value),R8 place pre.size L→Instr.fill place (pre ++ (AC L ++ suf)) (L.map fun x=>(x.1,x.2.1))=pre ++ (Fz L ++ suf)
 | [],pre,_=>rfl
 | x :: L,pre,h=>by
  have e:=xq place suf L (pre ++ x.2.1.cells) (by rw[Array.size_append,h.2.1];exact h.2.2)
  rw[List.map_cons,gC h.1 h.2.1 (by simp[AC])]
  have e2:bK (pre ++ (AC (x :: L) ++ suf)) pre.size x.2.1.cells=pre ++ x.2.1.cells ++ (AC L ++ suf):=by
   rw[AC,Array.append_assoc,← Array.append_assoc];exact jW _ _ _ _ _ rfl h.2.1
  rw[e2,e,Fz,Array.append_assoc,Array.append_assoc]
theorem iy{P:Program}{T:TypeId}{z val:Array Value}{fields:Array Field}{places:List (Nat × Nat)}(hz:(P.info? T).bind (·.zero)=some (.agg z))(hu:P.underlying T=some (.struct fields))
  (hp:(fields.toList.mapM fun f=>(P.info? f.type).map fun i=>(f.offset,i.size))=some places) (suf:Array Value) (L:List (Nat × Value × Array Value)) (hL:R8 (places.toArray[·]?) 0 L) (ez:z=AC L ++ suf) (ev:val=Fz L ++ suf):P.built T (L.map fun x=>(x.1,x.2.1))=some val:=by
 rw[jC hz hu hp,ez,ev];have h:=xq (places.toArray[·]?) suf L #[] hL
 rw[Array.empty_append,Array.empty_append] at h;exact h
theorem uR(a b c:Array Value)(o n:Nat)(ho:o=a.size)(hn:n=b.size):(a ++ b ++ c).extract o (o+n)=b:=by
 subst ho hn
 apply Array.ext'
 simp only[Array.toList_extract,Array.toList_append,List.extract_eq_take_drop];rw[List.append_assoc,List.drop_left' sm,Nat.add_sub_cancel_left,List.take_left' sm]
theorem fp{w:World}{b N:Nat}{a p c cs:Array Value}(h:readAt w b 0 N=some cs)(e:cs=a ++ p ++ c)(o n:Nat)(ho:o=a.size)(hn:n=p.size)(hN:o+n≤N):readAt w b o n=some p:=by
 subst e;have:=aB h o n (Nat.zero_le _) om;rw[this,Nat.sub_zero,uR a p c o n ho hn]
theorem gH{w:World}{b N:Nat}{a c cs:Array Value}{v:Value}(h:readAt w b 0 N=some cs)(e:cs=a ++ #[v] ++ c)(o:Nat)(ho:o=a.size)(hN:o+1≤N):w.cell? ⟨b,o,none⟩=some v:=by
 have h2:=fp h e o 1 ho rfl hN;have:=ab h2 0 v rfl
 rwa [Nat.add_zero] at this
theorem xW{w:World}{b N:Nat}{a c cs:Array Value}{v u:Value}(h:readAt w b 0 N=some cs)(hk:canAt w b 0 N=true)(e:cs=a ++ #[v] ++ c)(o:Nat)(ho:o=a.size)(hN:o+1≤N):
  readAt (w.setCell ⟨b,o,none⟩ u) b 0 N=some (a ++ #[u] ++ c)∧canAt (w.setCell ⟨b,o,none⟩ u) b 0 N=true:=by
 have hk1:=aC hk o 1 om;rw[aK hk1];refine⟨?_,by rw[ap _ _ _ _ _ _ _ hk1];exact hk⟩
 rw[ae w b 0 N _ h hk o _ om (by simpa using hN),Nat.sub_zero,e,jW a #[v] c #[u] o ho rfl]
def iT(k:RW)(n:N8)(u:Int):Array Value:=fw B8 k ++ fw B8 n ++ #[.int .i64 u]
theorem IU:(prog.info? 329).bind (·.zero)=some (.agg (iT dq Tq 0)):=kr
theorem MI:prog.underlying 329=some (.struct (prog.fieldsOf 329)):=kr
theorem zF:((prog.fieldsOf 329).toList.mapM fun f=>(prog.info? f.type).map fun i=>(f.offset,i.size))=some [(0,16),(16,8),(24,1)]:=kr
def pK(parts:Array (Nat × Value)):Sem Value:=Instr.build 329 parts
@[go_sem ↓] theorem Ol(parts:Array (Nat × Value)):Instr.build 329 parts=pK parts:=rfl
structure fj (w:World) (b:Nat) (k:RW) (n:N8) (u:Int):Prop where
 r:readAt w b 0 25=some (iT k n u)
 k:canAt w b 0 25=true
section
variable {w w':World} {b:Nat} {k:RW} {n:N8} {u:Int}
@[simp,go_sem] theorem NC:(iT k n u).size=25:=by simp[iT]
theorem O1:∀ v ∈ iT k n u,v.oneCell'=true:=by
 intro v hv;simp only[iT,Array.mem_append,List.mem_toArray,List.mem_singleton] at hv
 rcases hv with (hv | hv) | hv
 ·exact ep B8 k ff v hv
 ·exact ep B8 n ff v hv
 ·subst hv;rfl
theorem rJ:(iT k n u).extract 0 25=iT k n u:=by apply Array.ext';simp;exact List.take_of_length_le sm
attribute [go_sem] rJ
theorem fj.lt(h:fj w b k n u):b < w.heap.size:=ac h.r
theorem fj.same(h:fj w b k n u)(hb:w'.heap[b]? = w.heap[b]?):fj w' b k n u:=⟨by rw[← h.r];simp[readAt,hb],by rw[← h.k];simp[canAt,hb]⟩
theorem fj.below(h:fj w b k n u)(hb:Below w.heap.size w w'):fj w' b k n u:=h.same (hb.block b h.lt)
theorem fj.drew(h:fj w b k n u):fj w.drew b k n u:=h.same rfl
theorem fj.free(h:fj w b k n u)(i:Nat):w.frozen? ⟨b,i,none⟩=false:=by
 have:=bq h.k i;rwa [Nat.zero_add] at this
theorem fj.f0(h:fj w b k n u):readAt w b 0 16=some (fw B8 k):=fp (a:=#[]) (c:=fw B8 n ++ #[.int .i64 u]) h.r (by apply Array.ext';simp[iT]) 0 16 sm sm om
theorem fj.f1(h:fj w b k n u):readAt w b 16 8=some (fw B8 n):=fp (a:=fw B8 k) (c:=#[.int .i64 u]) h.r (by apply Array.ext';simp[iT]) 16 8 sm sm om
theorem fj.f2(h:fj w b k n u):w.cell? ⟨b,24,none⟩=some (.int .i64 u):=gH (a:=fw B8 k ++ fw B8 n) (c:=#[]) (v:=.int .i64 u) h.r (by apply Array.ext';simp[iT]) 24 sm om
end
section
variable (w:World) (b:Nat) (k:RW) (n:N8) (u:Int)
theorem fj.made:fj (w.alloc (.cells (iT k n u) 329)) w.heap.size k n u :=
 ⟨by rw[aj _ _ _ _ _ _ _ rfl sm];simp[rJ],by rw[aq _ _ _ _ _ _ rfl sm]⟩
@[go_sem ↓] theorem E6:(pK #[(0,.agg (fw B8 k)),(1,.agg (fw B8 n))]).run prog w = .ok (.agg (iT k n 0)) w:=by
 unfold pK;exact run_build w _ _ (iT k n 0) (iy IU MI zF #[.int .i64 0] [(0,.agg (fw B8 k),fw B8 dq),(1,.agg (fw B8 n),fw B8 Tq)] (by simp[R8,Value.cells]) (by apply Array.ext';simp[AC,iT]) (by apply Array.ext';simp[Fz,iT,Value.cells]))
end
attribute [irreducible] iT
def fU(k:RW)(s:Int)(d:Option Addr)(t:Int)(c:Option Addr):Array Value:=fw B8 k ++ #[.int .i64 s] ++ #[.pointer d] ++ #[.int .i64 t] ++ #[.pointer c]
theorem IY:(prog.info? 77).bind (·.zero)=some (.agg (fU dq 0 none 0 none)):=kr
theorem ML:prog.underlying 77=some (.struct (prog.fieldsOf 77)):=kr
theorem zI:((prog.fieldsOf 77).toList.mapM fun f=>(prog.info? f.type).map fun i=>(f.offset,i.size))=some [(0,16),(16,1),(17,1),(18,1),(19,1)]:=kr
def pO(parts:Array (Nat × Value)):Sem Value:=Instr.build 77 parts
@[go_sem ↓] theorem Ot(parts:Array (Nat × Value)):Instr.build 77 parts=pO parts:=rfl
structure bg (w:World) (b:Nat) (k:RW) (s:Int) (d:Option Addr) (t:Int) (c:Option Addr):Prop where
 r:readAt w b 0 20=some (fU k s d t c)
 k:canAt w b 0 20=true
section
variable {w w':World} {b:Nat} {k:RW} {s:Int} {d:Option Addr} {t:Int} {c:Option Addr}
@[simp,go_sem] theorem NG:(fU k s d t c).size=20:=by simp[fU]
theorem rN:(fU k s d t c).extract 0 20=fU k s d t c:=by apply Array.ext';simp;exact List.take_of_length_le sm
attribute [go_sem] rN
theorem bg.lt(h:bg w b k s d t c):b < w.heap.size:=ac h.r
theorem bg.same(h:bg w b k s d t c)(hb:w'.heap[b]? = w.heap[b]?):bg w' b k s d t c:=⟨by rw[← h.r];simp[readAt,hb],by rw[← h.k];simp[canAt,hb]⟩
theorem bg.below(h:bg w b k s d t c)(hb:Below w.heap.size w w'):bg w' b k s d t c:=h.same (hb.block b h.lt)
theorem bg.drew(h:bg w b k s d t c):bg w.drew b k s d t c:=h.same rfl
theorem bg.free(h:bg w b k s d t c)(i:Nat):w.frozen? ⟨b,i,none⟩=false:=by
 have:=bq h.k i;rwa [Nat.zero_add] at this
theorem bg.apart(h:bg w b k s d t c)(b' o:Nat)(cs:Array Value)(hb:b'≠b):bg (setAt w b' o cs) b k s d t c:=h.same (aw w b' o cs b (Ne.symm hb))
theorem bg.f0(h:bg w b k s d t c):readAt w b 0 16=some (fw B8 k):=fp (a:=#[]) (c:=#[.int .i64 s] ++ #[.pointer d] ++ #[.int .i64 t] ++ #[.pointer c]) h.r (by apply Array.ext';simp[fU]) 0 16 sm sm om
theorem bg.f1(h:bg w b k s d t c):w.cell? ⟨b,16,none⟩=some (.int .i64 s):=gH (a:=fw B8 k) (c:=#[.pointer d] ++ #[.int .i64 t] ++ #[.pointer c]) (v:=.int .i64 s) h.r (by apply Array.ext';simp[fU]) 16 sm om
theorem bg.f2(h:bg w b k s d t c):w.cell? ⟨b,17,none⟩=some (.pointer d):=gH (a:=fw B8 k ++ #[.int .i64 s]) (c:=#[.int .i64 t] ++ #[.pointer c]) (v:=.pointer d) h.r (by apply Array.ext';simp[fU]) 17 sm om
theorem bg.f3(h:bg w b k s d t c):w.cell? ⟨b,18,none⟩=some (.int .i64 t):=gH (a:=fw B8 k ++ #[.int .i64 s] ++ #[.pointer d]) (c:=#[.pointer c]) (v:=.int .i64 t) h.r (by apply Array.ext';simp[fU]) 18 sm om
theorem bg.set3(h:bg w b k s d t c)(t':Int):bg (w.setCell ⟨b,18,none⟩ (.int .i64 t')) b k s d t' c:=by
 obtain⟨h1,h2⟩:=xW (a:=fw B8 k ++ #[.int .i64 s] ++ #[.pointer d]) (c:=#[.pointer c]) (v:=.int .i64 t) (u:=.int .i64 t') h.r h.k (by apply Array.ext';simp[fU]) 18 sm om
 exact⟨by rw[h1];exact congrArg some (by apply Array.ext';simp[fU]),h2⟩
theorem bg.f4(h:bg w b k s d t c):w.cell? ⟨b,19,none⟩=some (.pointer c):=gH (a:=fw B8 k ++ #[.int .i64 s] ++ #[.pointer d] ++ #[.int .i64 t]) (c:=#[]) (v:=.pointer c) h.r (by apply Array.ext';simp[fU]) 19 sm om
theorem bg.set4(h:bg w b k s d t c)(c':Option Addr):bg (w.setCell ⟨b,19,none⟩ (.pointer c')) b k s d t c':=by
 obtain⟨h1,h2⟩:=xW (a:=fw B8 k ++ #[.int .i64 s] ++ #[.pointer d] ++ #[.int .i64 t]) (c:=#[]) (v:=.pointer c) (u:=.pointer c') h.r h.k (by apply Array.ext';simp[fU]) 19 sm om
 exact⟨by rw[h1];exact congrArg some (by apply Array.ext';simp[fU]),h2⟩
end
section
variable (w:World) (b:Nat) (k:RW) (s:Int) (d:Option Addr) (t:Int) (c:Option Addr)
theorem bg.made:bg (w.alloc (.cells (fU k s d t c) 77)) w.heap.size k s d t c :=
 ⟨by rw[aj _ _ _ _ _ _ _ rfl sm];simp[rN],by rw[aq _ _ _ _ _ _ rfl sm]⟩
@[go_sem ↓] theorem D7:(pO #[(0,.agg (fw B8 k)),(1,.int .i64 s),(2,.pointer d)]).run prog w = .ok (.agg (fU k s d 0 none)) w:=by
 unfold pO;exact run_build w _ _ (fU k s d 0 none) (iy IY ML zI #[.int .i64 0,.pointer none] [(0,.agg (fw B8 k),fw B8 dq),(1,.int .i64 s,#[.int .i64 0]),(2,.pointer d,#[.pointer none])] (by simp[R8,Value.cells]) (by apply Array.ext';simp[AC,fU]) (by apply Array.ext';simp[Fz,fU,Value.cells]))
end
attribute [irreducible] fU
def ir(k:RW)(d:Option Addr)(q:Option Addr):Array Value:=fw B8 k ++ #[.pointer d] ++ #[.pointer q]
theorem IX:(prog.info? 112).bind (·.zero)=some (.agg (ir dq none none)):=kr
theorem MJ:prog.underlying 112=some (.struct (prog.fieldsOf 112)):=kr
theorem zH:((prog.fieldsOf 112).toList.mapM fun f=>(prog.info? f.type).map fun i=>(f.offset,i.size))=some [(0,16),(16,1),(17,1)]:=kr
def pM(parts:Array (Nat × Value)):Sem Value:=Instr.build 112 parts
@[go_sem ↓] theorem Oo(parts:Array (Nat × Value)):Instr.build 112 parts=pM parts:=rfl
structure bL (w:World) (b:Nat) (k:RW) (d:Option Addr) (q:Option Addr):Prop where
 r:readAt w b 0 18=some (ir k d q)
 k:canAt w b 0 18=true
section
variable {w w':World} {b:Nat} {k:RW} {d:Option Addr} {q:Option Addr}
@[simp,go_sem] theorem NE:(ir k d q).size=18:=by simp[ir]
theorem rL:(ir k d q).extract 0 18=ir k d q:=by apply Array.ext';simp;exact List.take_of_length_le sm
attribute [go_sem] rL
theorem bL.lt(h:bL w b k d q):b < w.heap.size:=ac h.r
theorem bL.same(h:bL w b k d q)(hb:w'.heap[b]? = w.heap[b]?):bL w' b k d q:=⟨by rw[← h.r];simp[readAt,hb],by rw[← h.k];simp[canAt,hb]⟩
theorem bL.below(h:bL w b k d q)(hb:Below w.heap.size w w'):bL w' b k d q:=h.same (hb.block b h.lt)
theorem bL.drew(h:bL w b k d q):bL w.drew b k d q:=h.same rfl
theorem bL.f0(h:bL w b k d q):readAt w b 0 16=some (fw B8 k):=fp (a:=#[]) (c:=#[.pointer d] ++ #[.pointer q]) h.r (by apply Array.ext';simp[ir]) 0 16 sm sm om
theorem bL.f1(h:bL w b k d q):w.cell? ⟨b,16,none⟩=some (.pointer d):=gH (a:=fw B8 k) (c:=#[.pointer q]) (v:=.pointer d) h.r (by apply Array.ext';simp[ir]) 16 sm om
theorem bL.f2(h:bL w b k d q):w.cell? ⟨b,17,none⟩=some (.pointer q):=gH (a:=fw B8 k ++ #[.pointer d]) (c:=#[]) (v:=.pointer q) h.r (by apply Array.ext';simp[ir]) 17 sm om
end
section
variable (w:World) (b:Nat) (k:RW) (d:Option Addr) (q:Option Addr)
theorem bL.made:bL (w.alloc (.cells (ir k d q) 112)) w.heap.size k d q :=
 ⟨by rw[aj _ _ _ _ _ _ _ rfl sm];simp[rL],by rw[aq _ _ _ _ _ _ rfl sm]⟩
@[go_sem ↓] theorem D6:(pM #[(0,.agg (fw B8 k)),(1,.pointer d),(2,.pointer q)]).run prog w = .ok (.agg (ir k d q)) w:=by
 unfold pM;exact run_build w _ _ (ir k d q) (iy IX MJ zH #[] [(0,.agg (fw B8 k),fw B8 dq),(1,.pointer d,#[.pointer none]),(2,.pointer q,#[.pointer none])] (by simp[R8,Value.cells]) (by apply Array.ext';simp[AC,ir]) (by apply Array.ext';simp[Fz,ir,Value.cells]))
end
attribute [irreducible] ir
def du(k:RW)(s:Int)(n:Int):Array Value:=fw B8 k ++ #[.int .i64 s] ++ #[.int .i64 n]
theorem xB:(prog.info? 33).map (·.size)=some 18:=kr
theorem yk:(prog.info? 33).bind (·.zero)=some (.agg (du dq 0 0)):=kr
theorem EE:prog.underlying 33=some (.struct (prog.fieldsOf 33)):=kr
theorem zG:((prog.fieldsOf 33).toList.mapM fun f=>(prog.info? f.type).map fun i=>(f.offset,i.size))=some [(0,16),(16,1),(17,1)]:=kr
def uo(v:Value):Sem Value:=Instr.loadAt 33 v
def wQ(v x:Value):Sem Unit:=Instr.storeAt 33 v x
def pE:Sem Value:=Instr.alloc 33 true (.tuple #[])
def pL(parts:Array (Nat × Value)):Sem Value:=Instr.build 33 parts
@[go_sem ↓] theorem Nf(v:Value):Instr.loadAt 33 v=uo v:=rfl
@[go_sem ↓] theorem Mn(v x:Value):Instr.storeAt 33 v x=wQ v x:=rfl
@[go_sem ↓] theorem N5:Instr.alloc 33 true (.tuple #[])=pE:=rfl
@[go_sem ↓] theorem Om(parts:Array (Nat × Value)):Instr.build 33 parts=pL parts:=rfl
structure eU (w:World) (b:Nat) (k:RW) (s:Int) (n:Int):Prop where
 r:readAt w b 0 18=some (du k s n)
 k:canAt w b 0 18=true
section
variable {w w':World} {b:Nat} {k:RW} {s:Int} {n:Int}
@[simp,go_sem] theorem ND:(du k s n).size=18:=by simp[du]
theorem Dg:∀ v ∈ du k s n,v.oneCell'=true:=by
 intro v hv;simp only[du,Array.mem_append,List.mem_toArray,List.mem_singleton] at hv
 rcases hv with (hv | hv) | hv
 ·exact ep B8 k ff v hv
 ·subst hv;rfl
 ·subst hv;rfl
theorem rK:(du k s n).extract 0 18=du k s n:=by apply Array.ext';simp;exact List.take_of_length_le sm
attribute [go_sem] rK
theorem eU.lt(h:eU w b k s n):b < w.heap.size:=ac h.r
theorem eU.same(h:eU w b k s n)(hb:w'.heap[b]? = w.heap[b]?):eU w' b k s n:=⟨by rw[← h.r];simp[readAt,hb],by rw[← h.k];simp[canAt,hb]⟩
theorem eU.below(h:eU w b k s n)(hb:Below w.heap.size w w'):eU w' b k s n:=h.same (hb.block b h.lt)
theorem eU.drew(h:eU w b k s n):eU w.drew b k s n:=h.same rfl
theorem eU.f0(h:eU w b k s n):readAt w b 0 16=some (fw B8 k):=fp (a:=#[]) (c:=#[.int .i64 s] ++ #[.int .i64 n]) h.r (by apply Array.ext';simp[du]) 0 16 sm sm om
theorem eU.f1(h:eU w b k s n):w.cell? ⟨b,16,none⟩=some (.int .i64 s):=gH (a:=fw B8 k) (c:=#[.int .i64 n]) (v:=.int .i64 s) h.r (by apply Array.ext';simp[du]) 16 sm om
theorem eU.f2(h:eU w b k s n):w.cell? ⟨b,17,none⟩=some (.int .i64 n):=gH (a:=fw B8 k ++ #[.int .i64 s]) (c:=#[]) (v:=.int .i64 n) h.r (by apply Array.ext';simp[du]) 17 sm om
end
section
variable (w:World) (b:Nat) (k:RW) (s:Int) (n:Int)
@[go_sem ↓] theorem LO(h:(readAt w b 0 18).isSome=true):(uo (.pointer (some ⟨b,0,none⟩))).run prog w = .ok (.agg ((readAt w b 0 18).getD #[])) w:=by
 obtain⟨cs,hc⟩:=Option.isSome_iff_exists.1 h;unfold uo;rw[aJ w b 0 18 33 _ cs hc EE rfl xB,hc];rfl
@[go_sem ↓] theorem JM(o:Nat)(h:canAt w b o 18=true):(wQ (.pointer (some ⟨b,o,none⟩)) (.agg (du k s n))).run prog w = .ok () (setAt w b o (du k s n)) :=
 aH w b o 18 33 (du k s n) h sm xB Dg
@[go_sem] theorem Jt:pE.run prog w = .ok (.pointer (some ⟨w.heap.size,0,none⟩)) (w.alloc (.cells (du dq 0 0) 33)):=by
 obtain⟨i,hi,hz⟩:=Option.bind_eq_some_iff.1 yk;unfold pE;simp[Instr.alloc,zeroValue,typeInfo,hi,hz,newVar,newRow,Value.cells]
theorem eU.made:eU (w.alloc (.cells (du k s n) 33)) w.heap.size k s n :=
 ⟨by rw[aj _ _ _ _ _ _ _ rfl sm];simp[rK],by rw[aq _ _ _ _ _ _ rfl sm]⟩
@[go_sem ↓] theorem DZ:(pL #[(0,.agg (fw B8 k)),(1,.int .i64 s),(2,.int .i64 n)]).run prog w = .ok (.agg (du k s n)) w:=by
 unfold pL;exact run_build w _ _ (du k s n) (iy yk EE zG #[] [(0,.agg (fw B8 k),fw B8 dq),(1,.int .i64 s,#[.int .i64 0]),(2,.int .i64 n,#[.int .i64 0])] (by simp[R8,Value.cells]) (by apply Array.ext';simp[AC,du]) (by apply Array.ext';simp[Fz,du,Value.cells]))
end
attribute [irreducible] du
def bQ(k:RW)(s:Int)(n:Int):Array Value:=fw B8 k ++ #[.int .i64 s] ++ #[.int .i64 n]
theorem Gk:(prog.info? 24).map (·.size)=some 18:=kr
theorem MK:prog.underlying 24=some (.struct (prog.fieldsOf 24)):=kr
def us(v:Value):Sem Value:=Instr.loadAt 24 v
@[go_sem ↓] theorem Ni(v:Value):Instr.loadAt 24 v=us v:=rfl
structure eV (w:World) (b:Nat) (k:RW) (s:Int) (n:Int):Prop where
 r:readAt w b 0 18=some (bQ k s n)
 k:canAt w b 0 18=true
section
variable {w w':World} {b:Nat} {k:RW} {s:Int} {n:Int}
@[simp,go_sem] theorem NF:(bQ k s n).size=18:=by simp[bQ]
theorem rM:(bQ k s n).extract 0 18=bQ k s n:=by apply Array.ext';simp;exact List.take_of_length_le sm
attribute [go_sem] rM
theorem eV.lt(h:eV w b k s n):b < w.heap.size:=ac h.r
theorem eV.same(h:eV w b k s n)(hb:w'.heap[b]? = w.heap[b]?):eV w' b k s n:=⟨by rw[← h.r];simp[readAt,hb],by rw[← h.k];simp[canAt,hb]⟩
theorem eV.below(h:eV w b k s n)(hb:Below w.heap.size w w'):eV w' b k s n:=h.same (hb.block b h.lt)
theorem eV.f0(h:eV w b k s n):readAt w b 0 16=some (fw B8 k):=fp (a:=#[]) (c:=#[.int .i64 s] ++ #[.int .i64 n]) h.r (by apply Array.ext';simp[bQ]) 0 16 sm sm om
theorem eV.f1(h:eV w b k s n):w.cell? ⟨b,16,none⟩=some (.int .i64 s):=gH (a:=fw B8 k) (c:=#[.int .i64 n]) (v:=.int .i64 s) h.r (by apply Array.ext';simp[bQ]) 16 sm om
theorem eV.f2(h:eV w b k s n):w.cell? ⟨b,17,none⟩=some (.int .i64 n):=gH (a:=fw B8 k ++ #[.int .i64 s]) (c:=#[]) (v:=.int .i64 n) h.r (by apply Array.ext';simp[bQ]) 17 sm om
end
section
variable (w:World) (b:Nat) (k:RW) (s:Int) (n:Int)
@[go_sem ↓] theorem LR(h:(readAt w b 0 18).isSome=true):(us (.pointer (some ⟨b,0,none⟩))).run prog w = .ok (.agg ((readAt w b 0 18).getD #[])) w:=by
 obtain⟨cs,hc⟩:=Option.isSome_iff_exists.1 h;unfold us;rw[aJ w b 0 18 24 _ cs hc MK rfl Gk,hc];rfl
theorem eV.made:eV (w.alloc (.cells (bQ k s n) 24)) w.heap.size k s n :=
 ⟨by rw[aj _ _ _ _ _ _ _ rfl sm];simp[rM],by rw[aq _ _ _ _ _ _ rfl sm]⟩
end
attribute [irreducible] bQ
def eS(k:Int)(c:Int)(t:Int)(l:Int)(g:RU):Array Value:=#[.int .i64 k] ++ #[.int .i64 c] ++ #[.int .i64 t] ++ #[.int .i64 l] ++ fw B8 g
theorem KV:(prog.info? 38).map (·.size)=some 36:=kr
theorem MX:(prog.info? 38).bind (·.zero)=some (.agg (eS 0 0 0 0 bO)):=kr
theorem Pz:prog.underlying 38=some (.struct (prog.fieldsOf 38)):=kr
theorem Ds:((prog.fieldsOf 38).toList.mapM fun f=>(prog.info? f.type).map fun i=>(f.offset,i.size))=some [(0,1),(1,1),(2,1),(3,1),(4,32)]:=kr
def AX(v:Value):Sem Value:=Instr.loadAt 38 v
def ul(parts:Array (Nat × Value)):Sem Value:=Instr.build 38 parts
@[go_sem ↓] theorem OR(v:Value):Instr.loadAt 38 v=AX v:=rfl
@[go_sem ↓] theorem PU(parts:Array (Nat × Value)):Instr.build 38 parts=ul parts:=rfl
structure PF (w:World) (b:Nat) (k:Int) (c:Int) (t:Int) (l:Int) (g:RU):Prop where
 r:readAt w b 0 36=some (eS k c t l g)
 k:canAt w b 0 36=true
section
variable {w w':World} {b:Nat} {k:Int} {c:Int} {t:Int} {l:Int} {g:RU}
@[simp,go_sem] theorem Ei:(eS k c t l g).size=36:=by simp[eS]
theorem xM:∀ v ∈ eS k c t l g,v.oneCell'=true:=by
 intro v hv;simp only[eS,Array.mem_append,List.mem_toArray,List.mem_singleton] at hv
 rcases hv with (((hv | hv) | hv) | hv) | hv
 ·subst hv;rfl
 ·subst hv;rfl
 ·subst hv;rfl
 ·subst hv;rfl
 ·exact ep B8 g ff v hv
theorem wY:(eS k c t l g).extract 0 36=eS k c t l g:=by apply Array.ext';simp;exact List.take_of_length_le sm
attribute [go_sem] wY
end
section
variable (w:World) (b:Nat) (k:Int) (c:Int) (t:Int) (l:Int) (g:RU)
theorem PF.made:PF (w.alloc (.cells (eS k c t l g) 38)) w.heap.size k c t l g :=
 ⟨by rw[aj _ _ _ _ _ _ _ rfl sm];simp[wY],by rw[aq _ _ _ _ _ _ rfl sm]⟩
@[go_sem ↓] theorem AH:(ul #[(0,.int .i64 k),(1,.int .i64 c),(2,.int .i64 t),(3,.int .i64 l),(4,.agg (fw B8 g))]).run prog w = .ok (.agg (eS k c t l g)) w:=by
 unfold ul;exact run_build w _ _ (eS k c t l g) (iy MX Pz Ds #[] [(0,.int .i64 k,#[.int .i64 0]),(1,.int .i64 c,#[.int .i64 0]),(2,.int .i64 t,#[.int .i64 0]),(3,.int .i64 l,#[.int .i64 0]),(4,.agg (fw B8 g),fw B8 bO)] (by simp[R8,Value.cells]) (by apply Array.ext';simp[AC,eS]) (by apply Array.ext';simp[Fz,eS,Value.cells]))
end
attribute [irreducible] eS
end
section
theorem GA(key:RW)(nonce:N8)(d n:Nat)(l:List UInt8)(w:World)(hl:l.length=n)(hn:0 < n)(hmx:n≤1000000000)(hw:Wb w d l):
  Calls prog 224 #[.agg (fw B8 key),.agg (fw B8 nonce),.int .i64 0,.slice (some ⟨d,0,none⟩) n n] w fun e W=>e = .returned (.tuple #[])∧Wb W d (fm key nonce l)∧Kb (fun g=>g=d) w W :=
 callsIn_wide.1 (Lc key nonce d n l w hl hn hmx hw)
theorem GC(key:RW)(nonce:N8)(ad:Option Addr)(c:Nat)(w:World):
  Calls prog 224 #[.agg (fw B8 key),.agg (fw B8 nonce),.int .i64 0,.slice ad 0 c] w fun e W=>e = .returned (.tuple #[])∧Below w.heap.size w W:=by
 go_in
 go_wp2
 refine bodyPost_ret (results_none rfl _ _ _) rfl ⟨rfl,?_⟩;exact ba _ (ba _ (ba _ (Below.refl _ _)))
theorem FI(key:RW)(nonce:N8)(w:World):
  Calls prog 213 #[.agg (fw B8 key),.agg (fw B8 nonce)] w fun e W=>e = .returned (.pointer (some ⟨w.heap.size+2,0,none⟩))∧fj W (w.heap.size+2) key nonce 0∧Below w.heap.size w W:=by
 go_in
 go_wp2
 go_ret
 have h:=fj.made ((w.alloc (.cells (fw B8 key) 22)).alloc (.cells (fw B8 nonce) 107)) key nonce 0;refine⟨rfl,?_,ba _ (ba _ (ba _ (Below.refl _ _)))⟩
 simpa using h
theorem C8(C:Nat)(key:RW)(nonce:N8)(ad:Option Addr)(n c:Nat)(l:List UInt8)(w:World)(hC:fj w C key nonce 0)(h:Bs w ad n c l)(hn:n≤1000000):
  Calls prog 214 #[.pointer (some ⟨C,0,none⟩),.slice ad n c] w fun e W=>e = .returned (.slice (some ⟨w.heap.size,0,none⟩) n n)∧Bs W (some ⟨w.heap.size,0,none⟩) n n (fm key nonce l)∧Kb (fun g=>g=C) w W:=by
 obtain⟨i0,hi,hz,hsz,hby⟩:=info_parts fS;have hmk:=run_make (P:=prog) w 39 5 i0 _ underlying39 hi hz .i64 .i64 (n:Int) (n:Int) om (Int.le_refl _) (by rw[hby];omega) om
 simp only[Int.toNat_natCast,Value.cells] at hmk;rw[hsz,Nat.mul_one,xd] at hmk;have HC:=SM hC;have H:=SM h;clear hC h;have hlen:=H.o.1;have Hlen:=SM hlen;clear hlen
 by_cases h0:0 < n
 ·obtain⟨b,o,rfl,hr⟩:=H.o.2.2.2.2 h0;have hcp:=dP (w.alloc (.cells (bv (List.replicate n 0)) 5)) 3 w.heap.size 0 n n b o n c n sm (bv l) (by rw[aq _ _ _ _ _ _ rfl sm]) (by rw[b9 _ _ _ _ _ (ac hr)];exact hr) (oG _)
  rw[eK _ _ _ _ _ rfl (by simp[Hlen.o])] at hcp
  go_in
  go_upto_region 5 with fail
  clear hcp hmk;have hM:=Wb.made w 5 l (by rw[Hlen.o];exact h0)
  have hb:=ba (.cells (bv l) 5) (Sy w);have hlt:C < w.heap.size:=HC.o.lt;replace HC:=SM (HC.o.below hb);generalize w.alloc (.cells (bv l) 5)=w1 at *;have HM:=SM hM;have Hb:=SM hb;clear hM hb;replace HC:=SM HC.o.drew;replace HM:=SM (HM.o.below (Below.refl _ _).drew);replace Hb:=SM Hb.o.drew;refine yW (tk 0 13 (.brk 13 .done)) (fun u=>u=w1.drew) rfl ?_;generalize w1.drew=w1 at *;have q1:=HC.o.f0;have q2:=HC.o.f1
  have q3:=HC.o.f2
  repeat(refine yB ?_;walk_nrm)
  refine xa rfl rfl ?_;apply Exists.intro;apply Exists.intro;refine⟨?_,?_⟩;(go_simp;exact⟨rfl,rfl⟩);refine (GA key nonce w.heap.size n l w1 Hlen.o h0 om HM.o).mono ?_;rintro _ w2 ⟨rfl,hw2,hk2⟩;refine⟨_,rfl,fun _=>True,trivial,al ?_⟩;walk_nrm;have HC2:=SM (HC.o.same (hk2.block _ HC.o.lt om));have q1:=HC2.o.f2;have q2:=HC2.o.free 24;have wn:IntKind.i64.wrap (n:Int)=n:=wi;clear q3
  go_wp2
  go_ret
  refine⟨rfl,?_,((Kb.of_below Hb.o).trans hk2 (fun i hi=>.inr om)).cellN _ _ (.inl rfl)⟩;have h:=(hw2.other ⟨C,24,none⟩ (.int .i64 n) (by show C≠_;omega)).bs (by simp only[dx,Hlen.o];omega)
  simp only[dx,Hlen.o] at h;exact h
 ·obtain rfl:n=0:=om;obtain rfl:l=[]:=List.eq_nil_of_length_eq_zero Hlen.o;have hlt:C < w.heap.size:=HC.o.lt;rw[show ((0:Nat):Int)=0 from rfl,show List.replicate 0 (0:UInt8)=[] from rfl] at hmk
  have hb:=ba (.cells (bv []) 5) (Sy w);have hcp:=fun d dLen dCap W=>run_copy_none (P:=prog) W 39 39 3 5 d ad dLen dCap 0 c underlying39 cQ sm
  go_in
  go_upto_region 5 with fail
  clear hcp hmk;replace HC:=SM (HC.o.below hb);generalize w.alloc (.cells (bv []) 5)=w1 at *;have Hb:=SM hb;clear hb;replace HC:=SM HC.o.drew;replace Hb:=SM Hb.o.drew;refine yW (tk 0 13 (.brk 13 .done)) (fun u=>u=w1.drew) rfl ?_;generalize w1.drew=w1 at *;have q1:=HC.o.f0;have q2:=HC.o.f1;have q3:=HC.o.f2
  repeat(refine yB ?_;walk_nrm)
  refine xa rfl rfl ?_;apply Exists.intro;apply Exists.intro;refine⟨?_,?_⟩;(go_simp;exact⟨rfl,rfl⟩);refine (GC key nonce _ _ w1).mono ?_;rintro _ w2 ⟨rfl,hb2⟩;refine⟨_,rfl,fun _=>True,trivial,al ?_⟩;walk_nrm;have HC2:=SM (HC.o.below hb2);have q1:=HC2.o.f2;have q2:=HC2.o.free 24;clear q3
  go_wp2
  go_ret
  exact⟨rfl,⟨rfl,Nat.le_refl _,om,fun h=>(by cases h),fun h=>absurd h om⟩,(Kb.of_below (bt Hb.o hb2)).cellN _ _ (.inl rfl)⟩
theorem B6(key:RW)(nonce:N8)(ad:Option Addr)(n c:Nat)(l:List UInt8)(w:World)(h:Bs w ad n c l)(hn:n≤1000000):
  Calls prog 183 #[.agg (fw B8 key),.agg (fw B8 nonce),.slice ad n c] w fun e W=>(∃ g,e = .returned (.slice (some ⟨g,0,none⟩) n n)∧w.heap.size≤g∧Bs W (some ⟨g,0,none⟩) n n (fm key nonce l))∧Below w.heap.size w W:=by
 have H:=SM h;clear h
 go_in
 go_wp2_with fail
 have hb:=ba (.cells (fw B8 nonce) 107) (ba (.cells (fw B8 key) 22) (Sy w));generalize (w.alloc (.cells (fw B8 key) 22)).alloc (.cells (fw B8 nonce) 107)=w1 at *;refine (FI key nonce w1).mono ?_;rintro _ w2 ⟨rfl,hC,hb2⟩;have HC:=SM hC;have Hb:=SM (bt hb hb2);have hs1:=hb.size;have hs2:=hb2.size;clear hC hb hb2
 go_wp2_with fail
 refine (C8 _ key nonce ad n c l w2 HC.o (H.o.below Hb.o) hn).mono ?_;rintro _ w3 ⟨rfl,hB,hk⟩
 go_wp2
 go_ret
 exact⟨⟨_,rfl,om,hB⟩,Hb.o.trans (hk.below (fun b hb=>by subst hb;omega) om)⟩
end
section
theorem zv(ad bd:Option Addr)(n m c c2:Nat)(a b:List UInt8)(w:World)(ha:Bs w ad n c a)(hb:Bs w bd m c2 b):
  Calls prog 212 #[.slice ad n c,.slice bd m c2] w fun e w'=>e = .returned (.bool (decide (a=b)))∧w=w':=by
 have H:=SM (oF ad bd n m c c2 a b w ha hb);clear ha hb
 go_in
 go_wp2_with fail
 refine H.o.mono ?_;rintro _ w1 ⟨rfl,rfl⟩
 go_wp2
 go_ret
 exact⟨rfl,rfl⟩
def nL(d:RU):RW:=Vector.ofFn fun i=>gd d i.val
theorem BE{n:Nat}(x:Vector UInt8 n)(l:List UInt8)(h:l=x.toList):bv l=fw B8 x:=by
 subst h
 apply Array.ext'
 simp only[bv,fw,Array.toList_map];rfl
theorem GF(ka:Option Addr)(kn kc:Nat)(kl:List UInt8)(s:ByteArray)(w:World)(hk:Bs w ka kn kc kl)(hk1:0 < kn)(hk2:kn≤64)(hg:GK w)(hs:s.size≤1000)(hs0:0 < s.size):
  Calls prog 210 #[.slice ka kn kc,.string s] w fun e w'=>e = .returned (.agg (fw B8 (nL (cF kl s.data.toList))))∧Below w.heap.size w w':=by
 have HK:=SM hk;have HG:=SM hg;clear hk hg
 go_in
 go_upto_region 2 with fail
 obtain⟨hA,hR,hb,hs2⟩:=iH w 22 22 B8 dq B8 dq;generalize (w.alloc (.cells (fw B8 dq) 22)).alloc (.cells (fw B8 dq) 22)=w1 at *;have HA:=SM hA.drew;have HR:=SM hR.drew;have Hb:=SM hb.drew;have Hs:=SM hs2;clear hA hR hb hs2;refine yW (tk 0 3 (.run 3 (.brk 4 .done))) (fun _=>True) trivial ?_;generalize w1.drew=w1 at *
 repeat(refine yA ?_;walk_nrm)
 refine yR ?_;refine (oN ka kn kc kl s 16 w1 (HK.o.below Hb.o) hk1 hk2 (HG.o.below HG.o.1 Hb.o) hs hs0 om om).mono ?_;rintro _ w2 ⟨⟨v,rfl,ho⟩,hb2⟩;have hl:((cF kl s.data.toList).toList.take 16).length=16:=sm;obtain⟨g,c,rfl,hg1,hc1,hc2,hr,hk3⟩:=ho.view (by rw[hl];omega)
 rw[hl] at hr hc1;have hAlt:=HA.o.lt;have hRlt:=HR.o.lt;have HA2:=SM (HA.o.below hb2);have HR2:=SM (HR.o.below hb2);have Hb2:=SM (bt Hb.o hb2);refine kS trivial ?_;walk_nrm;rw[hl];have e16:bv ((cF kl s.data.toList).toList.take 16)=fw B8 (nL (cF kl s.data.toList)):=by
  apply BE
  apply List.ext_getElem
  ·simp
  ·intro i h1 h2;simp[nL] at h1 h2 ⊢;rw[eO _ _ om]
 rw[e16] at hr;obtain⟨X16,hX⟩:=eY (nL (cF kl s.data.toList));rw[hX] at hr;have HX:=SM hX;clear e16 hl ho hk3 hX;have hcp:=dP w2 3 (w.heap.size+1) 0 16 16 g 0 16 c 16 rfl (fw B8 X16) HR2.o.k hr (ep _ _ ff);refine et rfl rfl (fun K hK=>?_);go_simp;refine hK _ _ (fun _=>True) trivial (al ?_);have HR3:=SM (HR2.o.all X16);have HA3:=SM (HA2.o.apart (w.heap.size+1) 0 (fw B8 X16) om);have Hb3:=SM (aa Hb2.o (b:=w.heap.size+1) om 0 (fw B8 X16))
 clear hcp HR2 HA2 Hb2 hr;generalize setAt w2 (w.heap.size+1) 0 (fw B8 X16)=w3 at *;have q1:=HR3.o.r;have q2:=HA3.o.k
 go_wp2
 refine bodyPost_ret (cq rfl _ _ w.heap.size 0 (fw B8 X16) rfl (HA3.o.all X16).r) rfl ⟨by rw[HX.o],aa Hb3.o (Nat.le_refl _) _ _⟩
theorem yH(ka:Option Addr)(kn kc:Nat)(kl:List UInt8)(ca:Option Addr)(cn cc:Nat)(cl:List UInt8)(ad:Option Addr)(n c:Nat)(L:List (List UInt8))(w:World)(hk:Bs w ka kn kc kl)(hk1:0 < kn)(hk2:kn≤64)(hc:Bs w ca cn cc cl)(hcn:cn=16)(hg:GK w)(hL:Ps w ad n c L)(h0:0 < n)(hn1:n≤1000000)(hne:∀ l ∈ L,0 < l.length)(ht:L.flatten.length < 999999999000):
  Calls prog 182 #[.slice ka kn kc,.slice ca cn cc,.slice ad n c] w fun e w'=>e = .returned (.bool (decide (cl=(xA kl L.flatten).toList.take 16)))∧Below w.heap.size w w':=by
 subst hcn;have HM:=SM (CU ka kn kc kl ad n c L w hk hk1 hk2 hg hL h0 hn1 hne ht);have HC:=SM hc;clear hk hg hL hne ht hc h0 hn1 hk1 hk2;generalize xA kl L.flatten=D at *;have hs1:=iS
 go_in
 go_wp2_with fail
 refine HM.o.mono ?_;rintro _ w1 ⟨rfl,hb1⟩;clear HM;have hR:=Row.made (f:=B8) w1 35 D;have hb2:=ba (.cells (fw B8 D) 35) hb1;have h16:=hs1 (w1.alloc (.cells (fw B8 D) 35)) w1.heap.size 16 om;clear hs1
 go_wp2_with fail
 generalize w1.alloc (.cells (fw B8 D) 35)=w2 at *;have hD:=(hR.bs om).take 16 32 om om om;refine (zv ca (some ⟨w1.heap.size,0,none⟩) 16 16 cc 32 cl (D.toList.take 16) w2 (HC.o.below hb2) hD).mono ?_;rintro _ w3 ⟨rfl,rfl⟩;clear h16
 go_wp2
 go_ret
 exact⟨rfl,hb2⟩
end
section
section
variable {P:Program} {fn:Func} {p q:Tmp} {T U:TypeId} (tmps:Array Value) (w:World) (a b:Addr) (cs ds v:Value)
theorem aD(h:fn.results=#[.cell p T,.tmp q])(hp:tmps.getD p undef = .pointer (some a))(hq:tmps.getD q undef=v)(hl:(loadVar T a).run P w = .ok cs w):(results fn tmps).run P w = .ok (.tuple #[cs,v]) w:=by
 have hp':tmps[p]?.getD undef = .pointer (some a):=by simpa using hp
 have hq':tmps[q]?.getD undef=v:=by simpa using hq
 simp[results,h,hp',hq',asAddr,hl]
theorem i9(h:fn.results=#[.cell p T,.cell q U])(hp:tmps.getD p undef = .pointer (some a))(hq:tmps.getD q undef = .pointer (some b))(hl:(loadVar T a).run P w = .ok cs w)(hm:(loadVar U b).run P w = .ok ds w):(results fn tmps).run P w = .ok (.tuple #[cs,ds]) w:=by
 have hp':tmps[p]?.getD undef = .pointer (some a):=by simpa using hp
 have hq':tmps[q]?.getD undef = .pointer (some b):=by simpa using hq
 simp[results,h,hp',hq',asAddr,hl,hm]
end
theorem Gy{w:World}{b:Nat}{x:RW}(h:Row B8 w b x):(loadVar 22 ⟨b,0,none⟩).run prog w = .ok (.agg (fw B8 x)) w:=az w b 0 16 22 _ _ h.r underlying22 rfl lJ
theorem CO{w:World}{b:Nat}{x:N8}(h:Row B8 w b x):(loadVar 107 ⟨b,0,none⟩).run prog w = .ok (.agg (fw B8 x)) w:=az w b 0 8 107 _ _ h.r underlying107 rfl uV
theorem Gx{w:World}{b:Nat}{x:RU}(h:Row B8 w b x):(loadVar 35 ⟨b,0,none⟩).run prog w = .ok (.agg (fw B8 x)) w:=az w b 0 32 35 _ _ h.r underlying35 rfl lI
theorem GL(ad:Option Addr)(n c:Nat)(w:World)(hn:n < 24):
  Calls prog 180 #[.slice ad n c] w fun e w'=>e = .returned (.tuple #[.agg (fw B8 Tq),.bool false])∧Below w.heap.size w w':=by
 have d1:decide ((n:Int) < 24)=true:=dt
 go_in
 go_upto_region 2 with fail
 obtain⟨hA,hR,hb,hs2⟩:=iH w 107 107 B8 Tq B8 Tq;generalize (w.alloc (.cells (fw B8 Tq) 107)).alloc (.cells (fw B8 Tq) 107)=w1 at *;have q1:=hR.r;have q2:=hA.k
 go_wp2
 refine bodyPost_ret (aD _ _ ⟨w.heap.size,0,none⟩ (.agg (fw B8 Tq)) (.bool false) rfl rfl rfl (CO (hA.all Tq))) rfl ⟨rfl,aa hb (Nat.le_refl _) _ _⟩
theorem Db(ad:Option Addr)(n c:Nat)(l:List UInt8)(w:World)(h:Bs w ad n c l)(hn:24≤n):
  Calls prog 180 #[.slice ad n c] w fun e w'=>e = .returned (.tuple #[.agg (fw B8 (fb l)),.bool true])∧Below w.heap.size w w':=by
 obtain⟨b,o,rfl,hr⟩:=h.2.2.2.2 om;have hlen:=h.1;have d1:decide ((n:Int) < 24)=false:=df;have hr8:=aB hr o 8 (Nat.le_refl _) om;have e8:(bv l).extract (o - o) (o - o+8)=fw B8 (fb l):=by
  rw[Nat.sub_self,eu,List.drop_zero]
  apply BE
  apply List.ext_getElem
  ·simp;omega
  ·intro i h1 h2;simp at h1;have:i < l.length:=om;simp[fb,this]
 rw[e8] at hr8;generalize hN:fb l=N at *;clear e8 h hr
 go_in
 go_upto_region 2 with fail
 obtain⟨hA,hR,hb,hs2⟩:=iH w 107 107 B8 Tq B8 Tq;generalize (w.alloc (.cells (fw B8 Tq) 107)).alloc (.cells (fw B8 Tq) 107)=w1 at *;have hcp:=dP w1 3 (w.heap.size+1) 0 8 8 b o n c 8 (by simp only[Nat.min_def];split <;> omega) (fw B8 N) hR.k (by rw[ak hb (ac hr8)];exact hr8) (ep _ _ ff)
 go_upto_region 5 with fail
 clear hcp;have HR:=SM (hR.all N);have HA:=SM (hA.apart (w.heap.size+1) 0 (fw B8 N) om);have Hb:=SM (aa hb (b:=w.heap.size+1) om 0 (fw B8 N));clear hA hR hb;generalize setAt w1 (w.heap.size+1) 0 (fw B8 N)=w2 at *;have q1:=HR.o.r;have q2:=HA.o.k
 go_wp2
 refine bodyPost_ret (aD _ _ ⟨w.heap.size,0,none⟩ (.agg (fw B8 N)) (.bool true) rfl rfl rfl (CO (HA.o.all N))) rfl ⟨rfl,aa Hb.o (Nat.le_refl _) _ _⟩
theorem Ej(key:RW)(w:World)(hg:GK w):
  Calls prog 181 #[.agg (fw B8 key)] w fun e w'=>e = .returned (.tuple #[.agg (fw B8 (AD key)),.agg (fw B8 (AE key))])∧Below w.heap.size w w':=by
 have HG:=SM hg;clear hg
 go_in
 go_upto_region 2 with fail
 obtain⟨hK,hE,hb,hs2⟩:=iH w 22 22 B8 key B8 dq;generalize (w.alloc (.cells (fw B8 key) 22)).alloc (.cells (fw B8 dq) 22)=w1 at *;obtain⟨hM,hm,hb2,hs3⟩:=iH w1 35 35 B8 bO B8 bO;generalize (w1.alloc (.cells (fw B8 bO) 35)).alloc (.cells (fw B8 bO) 35)=w2 at *;rw[hs2] at hM hm hs3;have HK:=SM (hK.below hb2).drew;have HE:=SM (hE.below hb2).drew;have HM:=SM hM.drew;have Hm:=SM hm.drew;have Hb:=SM (bt hb hb2).drew
 clear hK hE hM hm hb hb2 hs2 hs3;generalize hP1:w.heap.size+1=P1 at *;generalize hP2:P1+1=P2 at *;generalize hP3:P2+1=P3 at *;rw[show w.heap.size+2=P2 by omega] at HM
 rw[show w.heap.size+2+1=P3 by omega] at Hm
 have l1:w.heap.size < P1:=om;have l2:P1 < P2:=om;have l3:P2 < P3:=om;clear hP1 hP2 hP3;refine yW (tk 0 2 (.run 2 (.brk 3 .done))) (fun _=>True) trivial ?_;generalize w2.drew=w2 at *
 repeat(refine yA ?_;walk_nrm)
 refine yR ?_;have hlk:key.toList.length=16:=sm;refine (oN (some ⟨w.heap.size,0,none⟩) 16 16 key.toList ⟨#[112,114,111,116,101,99,116]⟩ 32 w2 (HK.o.bs om) om om (HG.o.below HG.o.1 Hb.o) dc dc om om).mono ?_;rintro _ w3 ⟨⟨v,rfl,ho⟩,hb3⟩;have hl:((cF key.toList [112,114,111,116,101,99,116]).toList.take 32).length=32:=sm;obtain⟨g,c,rfl,hg1,hc1,hc2,hr,hk3⟩:=ho.view (by rw[hl];omega)
 rw[hl] at hr hc1;have e16:bv ((cF key.toList [112,114,111,116,101,99,116]).toList.take 32)=fw B8 (AE key):=by
  apply BE
  apply List.ext_getElem
  ·simp
  ·intro i h1 h2;simp[AE,QC] at h1 h2 ⊢
 rw[e16] at hr;obtain⟨XM,hXM⟩:=eY (AE key);rw[hXM] at hr;have HXM:=SM hXM;have hlt:=Hm.o.lt;replace HK:=SM (HK.o.below hb3);replace HE:=SM (HE.o.below hb3);replace HM:=SM (HM.o.below hb3);replace Hm:=SM (Hm.o.below hb3);replace Hb:=SM (bt Hb.o hb3);clear hXM e16 hk3 ho hb3 hlk;have hcp:=dP w3 3 P3 0 32 32 g 0 32 c 32 rfl (fw B8 XM) Hm.o.k hr (ep _ _ ff);refine kS trivial ?_;walk_nrm;rw[hl];refine et rfl rfl (fun K hK=>?_);go_simp;refine hK _ _ (fun _=>True) trivial (al ?_)
 replace HK:=SM (HK.o.apart P3 0 (fw B8 XM) om);replace HE:=SM (HE.o.apart P3 0 (fw B8 XM) om);replace HM:=SM (HM.o.apart P3 0 (fw B8 XM) om);replace Hm:=SM (Hm.o.all XM);replace Hb:=SM (aa Hb.o (b:=P3) om 0 (fw B8 XM));clear hcp hr hl hlt hg1 hc1 hc2 hK;generalize setAt w3 P3 0 (fw B8 XM)=w4 at *
 go_upto_region 3 with fail
 replace HK:=SM HK.o.drew;replace HE:=SM HE.o.drew;replace HM:=SM HM.o.drew;replace Hm:=SM Hm.o.drew;replace Hb:=SM Hb.o.drew;refine yW (.take 0 (.take 2 (.run 1 (.run 3 (.brk 4 .done))))) (fun u=>Row B8 u P3 XM) Hm.o ?_;generalize w4.drew=w4 at *
 repeat((first|refine yO ?_|refine yM ?_|refine yF rfl rfl (fun w' hC'=>by have q1:=hC'.r;go_simp;first|done|exact rfl) ?_);walk_nrm)
 refine yR ?_;refine (GF (some ⟨w.heap.size,0,none⟩) 16 16 key.toList ⟨#[101,110,99,114,121,112,116]⟩ w4 (HK.o.bs om) om om (HG.o.below HG.o.1 Hb.o) dc dc).mono ?_;rintro _ w5 ⟨rfl,hb5⟩;have hXE:nL (cF key.toList [101,110,99,114,121,112,116])=AD key:=rfl;rw[hXE];obtain⟨XE,hXE2⟩:=eY (AD key);rw[hXE2];have HXE:=SM hXE2;clear hXE2 hXE;have hlt:=Hm.o.lt;replace HE:=SM (HE.o.below hb5);replace HM:=SM (HM.o.below hb5)
 replace Hm:=SM (Hm.o.below hb5);replace Hb:=SM (bt Hb.o hb5);refine kS Hm.o ?_;walk_nrm;have q1:=HE.o.k;refine dd rfl rfl (fun K hK=>?_);go_simp;replace HE:=SM (HE.o.all XE);replace HM:=SM (HM.o.apart P1 0 (fw B8 XE) om);replace Hm:=SM (Hm.o.apart P1 0 (fw B8 XE) om);replace Hb:=SM (aa Hb.o (b:=P1) om 0 (fw B8 XE));refine hK _ _ (fun u=>Row B8 u P3 XM) (fun _ h=>h) Hm.o ?_;clear hK q1;generalize setAt w5 P1 0 (fw B8 XE)=w6 at *
 have q1:=HM.o.k;refine et rfl rfl (fun K hK=>?_);go_simp;refine hK _ _ (fun _=>True) trivial (al ?_);replace HE:=SM (HE.o.apart P2 0 (fw B8 XM) om);replace HM:=SM (HM.o.all XM);replace Hb:=SM (aa Hb.o (b:=P2) om 0 (fw B8 XM));clear q1;generalize setAt w6 P2 0 (fw B8 XM)=w7 at *
 go_wp2
 refine bodyPost_ret (i9 _ _ ⟨P1,0,none⟩ ⟨P2,0,none⟩ (.agg (fw B8 XE)) (.agg (fw B8 XM)) rfl rfl rfl (Gy HE.o) (Gx HM.o)) rfl ⟨by rw[HXE.o,HXM.o],Hb.o⟩
end
end Go.Proofs.YtlcfaaodmickbaaGreatDoor
