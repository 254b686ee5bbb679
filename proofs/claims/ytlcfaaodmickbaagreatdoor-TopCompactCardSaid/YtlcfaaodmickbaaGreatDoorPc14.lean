/- Part 14 of the proof: texts merged and shortened by a program. No conditions. -/
import Derived.Test.YtlcfaaodmickbaaGreatDoorPc13
set_option linter.unusedSimpArgs false
set_option linter.unusedVariables false
set_option maxRecDepth 100000
set_option maxHeartbeats 8000000
namespace Go.Proofs.YtlcfaaodmickbaaGreatDoor
open Go.RowKit Go.Proofs.Tryz
section
theorem Pt:prog.underlying 36=some (.array 32 5):=kr
theorem Cx:(prog.info? 36).map (·.size)=some 32:=kr
theorem MT:(prog.info? 36).bind (·.zero)=some (.agg (fw B8 bO)):=kr
def A4(v x:Value):Sem Unit:=Instr.storeAt 36 v x
def ub:Sem Value:=Instr.alloc 36 true (.tuple #[])
@[go_sem ↓] theorem NI(v x:Value):Instr.storeAt 36 v x=A4 v x:=rfl
@[go_sem ↓] theorem PI:Instr.alloc 36 true (.tuple #[])=ub:=rfl
@[go_sem ↓] theorem LZ(w:World)(b o:Nat)(x:RU)(h:canAt w b o 32=true):
  (A4 (.pointer (some ⟨b,o,none⟩)) (.agg (fw B8 x))).run prog w = .ok () (setAt w b o (fw B8 x)) :=
 aH w b o 32 36 (fw B8 x) h (fd B8 x) Cx (ep B8 x ff)
@[go_sem] theorem LD(w:World):ub.run prog w = .ok (.pointer (some ⟨w.heap.size,0,none⟩)) (w.alloc (.cells (fw B8 bO) 36)):=by
 obtain⟨i,hi,hz⟩:=Option.bind_eq_some_iff.1 MT;unfold ub;simp[Instr.alloc,zeroValue,typeInfo,hi,hz,newVar,newRow,Value.cells]
theorem La{w:World}{b:Nat}{x:RU}(h:Row B8 w b x):(loadVar 36 ⟨b,0,none⟩).run prog w = .ok (.agg (fw B8 x)) w:=az w b 0 32 36 _ _ h.r Pt rfl Cx
theorem qS(w:World):(Instr.build 36 #[]).run prog w = .ok (.agg (fw B8 bO)) w:=kr
def AN(parts:Array (Nat × Value)):Sem Value:=Instr.build 36 parts
@[go_sem ↓] theorem PQ(parts:Array (Nat × Value)):Instr.build 36 parts=AN parts:=rfl
@[go_sem] theorem JB(w:World):(AN #[]).run prog w = .ok (.agg (fw B8 bO)) w:=qS w
end
section
theorem yw(r:ByteArray)(ad:Option Addr)(n c t m q:Nat)(L:List ByteArray)(w:World)(h:aM w ad n c L)(hv:el r L=true)(ht:t≤1099511627776)(hm:m≤999999):
  Calls prog 139 #[.agg (St r ad n c (t:Nat) (m:Nat) (q:Nat))] w fun e w'=>e = .returned (.bool true)∧Below w.heap.size w w':=by
 have H:=SM h;clear h;have hA:=gy.made w r ad n c (t:Nat) (m:Nat) (q:Nat);have hb0:=ba (.cells (St r ad n c (t:Nat) (m:Nat) (q:Nat)) 99) (Sy w);have d1:decide ((0:Int)≤(t:Int))=true:=dt;have d2:decide ((t:Int)≤1099511627776)=true:=dt;have d3:decide ((m:Int)≤999999)=true:=dt
 go_in
 have q0:(w.alloc (.cells (St r ad n c (t:Nat) (m:Nat) (q:Nat)) 99)).cell? ⟨w.heap.size,0,none⟩=some (.string r):=ab hA.r 0 _ rfl;have q1:(w.alloc (.cells (St r ad n c (t:Nat) (m:Nat) (q:Nat)) 99)).cell? ⟨w.heap.size,1,none⟩=some (.slice ad n c):=ab hA.r 1 _ rfl
 go_wp2_with fail
 generalize w.alloc (.cells (St r ad n c (t:Nat) (m:Nat) (q:Nat)) 99)=w0 at *;refine (oX r ad n c L w0 (H.o.below hb0)).mono ?_;rintro _ w1 ⟨rfl,hb1⟩;rw[hv];have HA:=SM (hA.below hb1);have q2:w1.cell? ⟨w.heap.size,2,none⟩=some (.int .i64 t):=ab HA.o.r 2 _ rfl;have q3:w1.cell? ⟨w.heap.size,3,none⟩=some (.int .u32 m):=ab HA.o.r 3 _ rfl;clear hA q0 q1
 go_wp2
 go_ret
 exact⟨rfl,bt hb0 hb1⟩
theorem jJ(w:World)(ob:Obj):(w.alloc ob).heap[w.heap.size]? = some ob:=by
 show (w.heap.push ob)[w.heap.size]? = some ob
 simp
structure Fe (w:World) (T base:Nat) (l:List UInt8):Prop where
 v:∃ v,w.cell? ⟨T,0,none⟩=some v∧ao w base v l
 f:w.frozen? ⟨T,0,none⟩=false
 t:∃ cs fr,w.heap[T]? = some (.cells cs 39 fr)
 b:base≤T
theorem Fe.lt{w:World}{T base:Nat}{l:List UInt8}(h:Fe w T base l):T < w.heap.size:=by
 obtain⟨cs,fr,e⟩:=h.t;exact (Array.getElem?_eq_some_iff.1 e).1
theorem uE{w:World}{base:Nat}{v:Value}{l:List UInt8}(h:ao w base v l){T:Nat}{ty:TypeId}{cs:Array Value}{fr:Nat × Nat}(e:w.heap[T]? = some (.cells cs ty fr))(hty:ty≠5)(g:Nat)(hg:v.ownBlock=some g):g≠T:=by
 rintro rfl
 rcases h.2 with ⟨rfl,_⟩ | ⟨g1,c1,u1,rfl,_,a1,_⟩
 ·cases hg
 simp only[Value.ownBlock] at hg;cases hg;rw[e] at a1;simp only[Option.some.injEq,Obj.cells.injEq] at a1;exact hty a1.2.1
theorem Fe.below{w w':World}{T base:Nat}{l:List UInt8}(h:Fe w T base l)(hb:Below w.heap.size w w'):Fe w' T base l:=by
 have hT:=h.lt;obtain⟨⟨v,h1,h2⟩,h3,h4,h5⟩:=h;exact⟨⟨v,by rw[hb.cell (p:=⟨T,0,none⟩) hT];exact h1,h2.below hb⟩,by rw[hb.frozen (p:=⟨T,0,none⟩) hT];exact h3,by rw[hb.block T hT];exact h4,h5⟩
def NW(T:Nat)(w w':World):Prop:=∀ b cs ty fr,w.heap[b]? = some (.cells cs ty fr)→ty≠5→b≠T→w'.heap[b]? = w.heap[b]?
theorem kt(T base k x:Nat)(l:List UInt8)(w:World)(h:Fe w T base l)(hk1:1≤k)(hk8:k≤8)(hx:x < 256 ^ k)(hx64:x < 18446744073709551616)(hl:l.length≤1000000):
  Calls prog 142 #[.int .i64 k,.int .u64 x,.pointer (some ⟨T,0,none⟩)] w fun e w'=>e = .returned (.tuple #[])∧Fe w' T base (l ++ be k x)∧Below base w w'∧NW T w w':=by
 have H:=SM h;have hTlt:=h.lt;clear h;obtain⟨i0,hi,hz,hsz,hby⟩:=info_parts fS
 go_in
 go_wp2_with fail
 refine (ii k x w hk1 hk8 hx hx64).mono ?_;rintro _ w1 ⟨⟨B,hB,rfl,hb⟩,hbw⟩;have h1:=H.o.below hbw;have hT1:=h1.lt;obtain⟨⟨v,q1,ho⟩,qf,⟨tc,tf,ht⟩,hbT⟩:=h1;have Ho:=SM ho;have hsrc:∀ j u,((be k x).map B8)[j]? = some u→w1.cell? ((⟨B,0,none⟩ : Addr).add j)=some u:=by
  rcases hb.src with ⟨h,_⟩ | ⟨a,ha,h⟩
  ·cases h
  ·cases ha;exact h
 have Hsrc:=SM hsrc;have Hbw:=SM hbw;clear hb ho hsrc hbw
 go_wp2_with (at_builtin;refine wpList_append_own _ rfl _ _ 39 rfl base 5 i0 _ 1 1 underlying39 hi hz hsz hby rfl dc _ l.length _ rfl Ho.o ⟨B,0,none⟩ k k ((be k x).map B8) rfl ?c1 Hsrc.o (dZ _) ?c4 ?c5 ?c6 ?_)
 case c1=>rw[List.length_map,aL,Nat.mul_one]
 case c4=>simp only[maxLen];omega
 case c5=>omega
 case c6=>omega
 intro v' w2 hown hgr _;obtain⟨ad',c',rfl,_⟩:=aG hown;have hne:∀ r,v.ownBlock=some r→base≤r:=fun r e=>(Ho.o.lt r e).1;have hb2:Below base w1 w2:=(Below.refl base w1).grown hgr om hne;have hTb:w2.heap[T]? = w1.heap[T]?:=hgr.block T hT1 (fun e=>uE Ho.o ht dc T e.symm rfl);have q1':w2.cell? ⟨T,0,none⟩=some v:=by rw[← q1];simp[World.cell?,hTb]
 have qf':w2.frozen? ⟨T,0,none⟩=false:=by rw[← qf];simp[World.frozen?,hTb]
 have ht':w2.heap[T]? = some (.cells tc 39 tf):=by rw[hTb];exact ht
 clear q1 qf;have hown':ao w2 base (.slice ad' (l.length+k) c') (l ++ be k x):=by
  show World.ownsRow _ _ _ _ _ _ _
  rw[List.length_append,aL,List.map_append];exact hown
 have hfin:Fe (w2.setCell ⟨T,0,none⟩ (.slice ad' (l.length+k) c')) T base (l ++ be k x):=by
  refine⟨⟨_,World.cell?_setCell_same' w2 _ _ (by rw[q1'];rfl),?_⟩,?_,?_,hbT⟩
  ·exact bu hown' (fun g hg hlt=>Below.heap_setCell _ _ _ _ (by have:=uE hown' ht' dc g hg;show g≠T;omega))
  ·simpa [go_sem] using qf'
  ·have h2:∃ cs fr,(w2.setCell ⟨T,0,none⟩ (.slice ad' (l.length+k) c')).heap[T]? = some (.cells cs 39 fr):=by
    have h3:=(Array.getElem?_eq_some_iff.1 ht').1;simp only[World.setCell,Array.getElem?_modify,if_pos,ht',Option.map_some];exact⟨_,_,rfl⟩
   exact h2
 have hfb:Below base w (w2.setCell ⟨T,0,none⟩ (.slice ad' (l.length+k) c')):=((Hbw.o.mono om).trans hb2).setCell (p:=⟨T,0,none⟩) (by show base≤T;exact hbT) _
 have hkt:NW T w (w2.setCell ⟨T,0,none⟩ (.slice ad' (l.length+k) c')):=fun b cs ty fr e hty hbT=>by
  have hlt:=(Array.getElem?_eq_some_iff.1 e).1;rw[Below.heap_setCell _ _ _ _ hbT];have e1:w1.heap[b]? = w.heap[b]?:=Hbw.o.block b hlt;rw[hgr.block b (by have:=Hbw.o.size;omega) (fun e3=>uE Ho.o (by rw[e1];exact e) hty b e3.symm rfl),e1]
 have HX:=SM (And.intro hfin (And.intro hfb hkt));clear hfin hfb hown hgr hb2 hkt hown'
 go_wp2
 go_end0
 exact⟨rfl,HX.o⟩
def bZ(r:ByteArray)(L:List ByteArray)(t m q:Nat):List UInt8:=[2] ++ bR r L ++ be 8 t ++ be 4 m ++ be 4 q
theorem yo(r:ByteArray)(ad:Option Addr)(n c t m q:Nat)(L:List ByteArray)(w:World)(h:aM w ad n c L)(hv:el r L=true)(ht:t≤1099511627776)(hm:m≤999999)(hq:q < 4294967296):
  Calls prog 92 #[.agg (St r ad n c (t:Nat) (m:Nat) (q:Nat))] w fun e w'=>(∃ v,e = .returned (.tuple #[v,.bool true])∧ao w' w.heap.size v (bZ r L t m q))∧Below w.heap.size w w':=by
 have H:=SM h;have Hv:=SM hv;have hnl:=kK hv;have Hnl:=SM hnl;clear h hv hnl;have hA:=gy.made w r ad n c (t:Nat) (m:Nat) (q:Nat);have hb0:=ba (.cells (St r ad n c (t:Nat) (m:Nat) (q:Nat)) 99) (Sy w);have w1t:IntKind.u64.wrap (t:Int)=t:=wu;have w1m:IntKind.u64.wrap (m:Int)=m:=wu;have w1q:IntKind.u64.wrap (q:Int)=q:=wu
 go_in
 have q0:=hA.r
 go_wp2_with fail
 generalize w.alloc (.cells (St r ad n c (t:Nat) (m:Nat) (q:Nat)) 99)=w0 at *;refine (yw r ad n c t m q L w0 (H.o.below hb0) Hv.o ht hm).mono ?_;rintro _ w1 ⟨rfl,hb1⟩;have HA:=SM (hA.below hb1);have Hb1:=SM (bt hb0 hb1);clear hA q0 hb0 hb1;have q0:w1.cell? ⟨w.heap.size,0,none⟩=some (.string r):=ab HA.o.r 0 _ rfl;have q1:w1.cell? ⟨w.heap.size,1,none⟩=some (.slice ad n c):=ab HA.o.r 1 _ rfl
 go_wp2_with fail
 refine (zy r ad n c L w1 (H.o.below Hb1.o) Hv.o).mono ?_;rintro _ w2 ⟨⟨v,rfl,_,ho⟩,hb2⟩;obtain⟨av',cv,rfl,hbv⟩:=ho.bs;have HA2:=SM (HA.o.below hb2);have Hb2:=SM (bt Hb1.o hb2);have Hbv:=SM hbv;obtain⟨nn,hnn⟩:=eY ((bR r L).length);rw[hnn] at Hbv Hnl ⊢;have Hnn:=SM hnn;clear q0 q1 HA Hb1 hb2 ho hbv hnn;have hb3:=ba (.cells #[.int .u8 2] 5) (Sy w2);have hb4:=ba (.cells #[.slice (some ⟨w2.heap.size,0,none⟩) 1 1,.slice av' nn cv] 39) hb3
 have hl2:Bs ((w2.alloc (.cells #[.int .u8 2] 5)).alloc (.cells #[.slice (some ⟨w2.heap.size,0,none⟩) 1 1,.slice av' nn cv] 39)) (some ⟨w2.heap.size,0,none⟩) 1 1 [2]:=Bs.lit 1 rfl om (by rw[b9 _ _ _ _ _ sm,aj _ _ _ _ _ _ _ rfl sm];simp[bv,B8])
 have hr4:readAt ((w2.alloc (.cells #[.int .u8 2] 5)).alloc (.cells #[.slice (some ⟨w2.heap.size,0,none⟩) 1 1,.slice av' nn cv] 39)) (w2.heap.size+1) 0 2=some #[.slice (some ⟨w2.heap.size,0,none⟩) 1 1,.slice av' nn cv]:=by simp[go_sem]
 go_wp2_with fail
 generalize (w2.alloc (.cells #[.int .u8 2] 5)).alloc (.cells #[.slice (some ⟨w2.heap.size,0,none⟩) 1 1,.slice av' nn cv] 39)=w4 at *;have hps:=Ps.two hr4 hl2 (Hbv.o.below hb4);have hfl : [[2],bR r L].flatten=[2] ++ bR r L:=sm;refine (jL _ 2 2 _ w4 hps (by rw[hfl];simp;have:=Hnl.o;have:=Hnn.o;omega)).mono ?_
 rintro _ w5 ⟨⟨v5,rfl,_,ho5⟩,hb5⟩;rw[hfl] at ho5;obtain⟨a5,c5,rfl,_⟩:=ho5.bs;have HA5:=SM ((HA2.o.below hb4).below hb5);have Hb5:=SM (bt (bt Hb2.o hb4) hb5);have Ho5:=SM (bj ho5 (bt Hb2.o hb4).size);obtain⟨m5,hm5⟩:=eY (([2] ++ bR r L).length);have hm5b:m5≤2001:=by rw[← hm5];simp;have:=Hnl.o;have:=Hnn.o;omega
 rw[hm5] at Ho5 ⊢;have Hm5:=SM hm5;clear hps hr4 hl2 hb4 hb3 ho5 hb5 Hb2 HA2 Hbv hfl hm5;have f2:w5.cell? ⟨w.heap.size,2,none⟩=some (.int .i64 t):=ab HA5.o.r 2 _ rfl;have f3:w5.cell? ⟨w.heap.size,3,none⟩=some (.int .u32 m):=ab HA5.o.r 3 _ rfl;have f4:w5.cell? ⟨w.heap.size,4,none⟩=some (.int .u32 q):=ab HA5.o.r 4 _ rfl;have hz5:=HA5.o.lt;have ne5:(w.heap.size=w5.heap.size)=False:=sO
 go_wp2_with fail
 have hT6:=ba (.cells #[.slice a5 m5 c5] 39) (Sy w5);have hF6:=ba (.cells #[.int .u64 t,.int .u64 m,.int .u64 q] 245) hT6;have ho6:Fe ((w5.alloc (.cells #[.slice a5 m5 c5] 39)).alloc (.cells #[.int .u64 t,.int .u64 m,.int .u64 q] 245)) w5.heap.size w.heap.size ([2] ++ bR r L):=by
  refine⟨⟨.slice a5 m5 c5,by simp[go_sem],?_⟩,by simp[go_sem],⟨_,_,((ba (.cells #[.int .u64 t,.int .u64 m,.int .u64 q] 245) (Below.refl _ _)).block w5.heap.size sm).trans (jJ w5 _)⟩,om⟩
  have h:=ah Ho5.o hF6
  show World.ownsRow _ _ _ _ _ _ _
  rw[Hm5.o];exact h
 have hf6:readAt ((w5.alloc (.cells #[.slice a5 m5 c5] 39)).alloc (.cells #[.int .u64 t,.int .u64 m,.int .u64 q] 245)) (w5.heap.size+1) 0 3=some #[.int .u64 t,.int .u64 m,.int .u64 q]:=by simp[go_sem]
 have ht6:∃ cs fr,((w5.alloc (.cells #[.slice a5 m5 c5] 39)).alloc (.cells #[.int .u64 t,.int .u64 m,.int .u64 q] 245)).heap[w5.heap.size+1]? = some (.cells cs 245 fr):=⟨_,_,by rw[show w5.heap.size+1=(w5.alloc (.cells #[.slice a5 m5 c5] 39)).heap.size by simp];exact jJ _ _⟩
 have hb6:=bt Hb5.o hF6;clear f2 f3 f4 Ho5;generalize (w5.alloc (.cells #[.slice a5 m5 c5] 39)).alloc (.cells #[.int .u64 t,.int .u64 m,.int .u64 q] 245)=w6 at *;refine (tE w6).mono ?_;rintro _ w7 ⟨rfl,hb7⟩;have HO7:=SM (ho6.below hb7);obtain⟨fcs,ffr,hft⟩:=ht6;have HT7:=SM ((hb7.block (w5.heap.size+1) (Array.getElem?_eq_some_iff.1 hft).1).trans hft);have HF7:Hd (readAt w7 (w5.heap.size+1) 0 3=some #[.int .u64 t,.int .u64 m,.int .u64 q]):=SM (by rw[← hf6];simp[readAt,HT7.o,hft])
 have Hb7:=SM (bt hb6 hb7);clear ho6 hf6 hb6 hb7 hT6 hF6 hft;have x0:∀ w,(Instr.index 246 (.agg #[.int .i64 8,.int .i64 4,.int .i64 4]) (.int .i64 0)).run prog w = .ok (.int .i64 8) w:=fun _=>kr;have x1:∀ w,(Instr.index 246 (.agg #[.int .i64 8,.int .i64 4,.int .i64 4]) (.int .i64 1)).run prog w = .ok (.int .i64 4) w:=fun _=>kr;have x2:∀ w,(Instr.index 246 (.agg #[.int .i64 8,.int .i64 4,.int .i64 4]) (.int .i64 2)).run prog w = .ok (.int .i64 4) w:=fun _=>kr
 go_wp2_with fail
 refine wp_loop_rounds 4 ?_;rw[rounds_succ];have g0:w7.cell? ⟨w5.heap.size+1,0,none⟩=some (.int .u64 t):=ab HF7.o 0 _ rfl
 go_wp2_with fail
 refine (kt w5.heap.size w.heap.size 8 t _ w7 HO7.o om om om om (by simp;have:=Hm5.o;have:=hm5b;simp at *;omega)).mono ?_
 rintro _ w8 ⟨rfl,ho8,hb8,hk8⟩;have HO8:=SM ho8;have HT8:=SM ((hk8 _ _ _ _ HT7.o dc om).trans HT7.o);have HF8:Hd (readAt w8 (w5.heap.size+1) 0 3=some #[.int .u64 t,.int .u64 m,.int .u64 q]):=SM (by rw[← HF7.o];simp[readAt,HT8.o,HT7.o])
 have Hb8:=SM (Hb7.o.trans hb8);clear ho8 hb8 hk8 HO7 HF7 Hb7 HT7 g0
 go_wp2_with fail
 rw[rounds_succ];have g1:w8.cell? ⟨w5.heap.size+1,1,none⟩=some (.int .u64 m):=ab HF8.o 1 _ rfl
 go_wp2_with fail
 refine (kt w5.heap.size w.heap.size 4 m _ w8 HO8.o om om om om (by simp;have:=Hm5.o;have:=hm5b;simp at *;omega)).mono ?_
 rintro _ w9 ⟨rfl,ho9,hb9,hk9⟩;have HO9:=SM ho9;have HT9:=SM ((hk9 _ _ _ _ HT8.o dc om).trans HT8.o);have HF9:Hd (readAt w9 (w5.heap.size+1) 0 3=some #[.int .u64 t,.int .u64 m,.int .u64 q]):=SM (by rw[← HF8.o];simp[readAt,HT9.o,HT8.o])
 have Hb9:=SM (Hb8.o.trans hb9);clear ho9 hb9 hk9 HO8 HF8 Hb8 HT8 g1
 go_wp2_with fail
 rw[rounds_succ];have g2:w9.cell? ⟨w5.heap.size+1,2,none⟩=some (.int .u64 q):=ab HF9.o 2 _ rfl
 go_wp2_with fail
 refine (kt w5.heap.size w.heap.size 4 q _ w9 HO9.o om om om om (by simp;have:=Hm5.o;have:=hm5b;simp at *;omega)).mono ?_
 rintro _ w10 ⟨rfl,ho10,hb10,hk10⟩;have HO10:=SM ho10;have HT10:=SM ((hk10 _ _ _ _ HT9.o dc om).trans HT9.o);have HF10:Hd (readAt w10 (w5.heap.size+1) 0 3=some #[.int .u64 t,.int .u64 m,.int .u64 q]):=SM (by rw[← HF9.o];simp[readAt,HT10.o,HT9.o])
 have Hb10:=SM (Hb9.o.trans hb10);clear ho10 hb10 hk10 HO9 HF9 Hb9 HT9 g2
 go_wp2_with fail
 rw[rounds_succ];obtain⟨⟨vf,qv,hov⟩,_,_,_⟩:=HO10.o;obtain⟨af,cf,rfl,_⟩:=hov.bs;have HX:=SM (And.intro hov Hb10.o);have efl : [2] ++ bR r L ++ be 8 t ++ be 4 m ++ be 4 q=bZ r L t m q:=by simp[bZ]
 rw[efl] at HX qv;generalize (bZ r L t m q).length=zl at *;have Efl:=SM efl;clear efl hov HO10 HF10 HT10 Hb10
 go_wp2
 go_ret2
 exact⟨⟨_,rfl,HX.o.1⟩,HX.o.2⟩
theorem ms(r:ByteArray)(ad:Option Addr)(n c t m q:Nat)(L:List ByteArray)(w:World)(hg:GK w)(h:aM w ad n c L)(hv:el r L=true)(ht:t≤1099511627776)(hm:m≤999999)(hq:q < 4294967296):
  Calls prog 63 #[.agg (St r ad n c (t:Nat) (m:Nat) (q:Nat))] w fun e w'=>e = .returned (.tuple #[.agg (fw B8 (d9 (bZ r L t m q))),.bool true])∧Below w.heap.size w w':=by
 have H:=SM h;have HG:=SM hg;have Hv:=SM hv;have hnl:=kK hv;have Hal:=SM (show 0 < (bZ r L t m q).length∧(bZ r L t m q).length≤3000 from ⟨by simp[bZ],by simp[bZ];omega⟩)
 clear h hg hv hnl;have hA:=gy.made w r ad n c (t:Nat) (m:Nat) (q:Nat);have hb0:=ba (.cells (St r ad n c (t:Nat) (m:Nat) (q:Nat)) 99) (Sy w);have hD:=Row.made (f:=B8) (w.alloc (.cells (St r ad n c (t:Nat) (m:Nat) (q:Nat)) 99)) 36 bO;have hbD:=ba (.cells (fw B8 bO) 36) hb0;have hA2:=(hA.below (ba (.cells (fw B8 bO) 36) (Below.refl _ _))).r;rw[show (w.alloc (.cells (St r ad n c (t:Nat) (m:Nat) (q:Nat)) 99)).heap.size=w.heap.size+1 by simp] at hD
 go_in
 go_upto_region 1 with fail
 generalize (w.alloc (.cells (St r ad n c (t:Nat) (m:Nat) (q:Nat)) 99)).alloc (.cells (fw B8 bO) 36)=w1 at *
 go_wp2_with fail
 refine (yo r ad n c t m q L w1 (H.o.below hbD) Hv.o ht hm hq).mono ?_;rintro _ w2 ⟨⟨v,rfl,ho⟩,hb2⟩;obtain⟨av',cv,rfl,hbv⟩:=ho.bs;have HD:=SM (hD.below hb2);have Hb2:=SM (bt hbD hb2);have HG2:=SM (HG.o.below HG.o.1 Hb2.o);have Hbv:=SM hbv;obtain⟨nn,hnn⟩:=eY ((bZ r L t m q).length);rw[hnn] at Hbv Hal ⊢;have Hnn:=SM hnn;clear hA hb0 hD hbD hA2 ho hbv hnn hb2;have hr4:readAt (w2.alloc (.cells #[.slice av' nn cv] 39)) w2.heap.size 0 1=some #[.slice av' nn cv]:=by simp[go_sem]
 have hb3:=ba (.cells #[.slice av' nn cv] 39) (Sy w2)
 go_wp2_with fail
 generalize w2.alloc (.cells #[.slice av' nn cv] 39)=w3 at *;have hps:=Ps.one hr4 (Hbv.o.below hb3);have hfl : [bZ r L t m q].flatten=bZ r L t m q:=sm;refine (pu _ 1 1 _ w3 (HG2.o.below HG2.o.1 hb3) hps (fun l hl=>by simp at hl;subst hl;have:=Hnn.o;have:=Hal.o.1;omega) (by rw[hfl,Hnn.o];have:=Hal.o.2;omega)).mono ?_
 rintro _ w4 ⟨rfl,hb4⟩;rw[hfl];have HS:=SM (rfl:d9 (bZ r L t m q)=d9 (bZ r L t m q));have HD4:=SM ((HD.o.below hb3).below hb4);have Hb4:=SM (bt (bt Hb2.o hb3) hb4);obtain⟨S,hS⟩:=eY (d9 (bZ r L t m q));rw[hS];clear HS;have HS:=SM hS;clear hS;have q1:=HD4.o.k;clear hps hr4 hb3 hb4 HD Hb2 Hbv
 go_wp2
 refine bodyPost_ret (aD _ _ ⟨w.heap.size+1,0,none⟩ (.agg (fw B8 S)) (.bool true) rfl rfl rfl (La (HD4.o.all S))) rfl ⟨by rw[HS.o],aa Hb4.o om _ _⟩
end
section
open Go.RowKit Go.ChangeMaps
theorem GV(w:World)(a1 a2 a3:Option Addr)(n1 n2 n3 c1 c2 c3:Nat)(l1 l2 l3:List UInt8)(h1:Bs w a1 n1 c1 l1)(h2:Bs w a2 n2 c2 l2)(h3:Bs w a3 n3 c3 l3):
  Ps (w.alloc (.cells #[.slice a1 n1 c1,.slice a2 n2 c2,.slice a3 n3 c3] 39)) (some ⟨w.heap.size,0,none⟩) 3 3 [l1,l2,l3]:=by
 have hb:=ba (.cells #[.slice a1 n1 c1,.slice a2 n2 c2,.slice a3 n3 c3] 39) (Sy w);have hr:readAt (w.alloc (.cells #[.slice a1 n1 c1,.slice a2 n2 c2,.slice a3 n3 c3] 39)) w.heap.size 0 3=some #[.slice a1 n1 c1,.slice a2 n2 c2,.slice a3 n3 c3]:=by simp[go_sem]
 refine⟨rfl,Nat.le_refl _,om,fun i hi=>?_⟩
 match i,hi with
 | 0,_=>exact⟨_,0,_,_,_,rfl,aB hr 0 1 om om,h1.below hb⟩
 | 1,_=>exact⟨_,0,_,_,_,rfl,aB hr 1 1 om om,h2.below hb⟩
 | 2,_=>exact⟨_,0,_,_,_,rfl,aB hr 2 1 om om,h3.below hb⟩
 | i+3,h=>omega
theorem jV(w:World)(a1 a2 a3 a4 a5:Option Addr)(n1 n2 n3 n4 n5 c1 c2 c3 c4 c5:Nat)(l1 l2 l3 l4 l5:List UInt8)(h1:Bs w a1 n1 c1 l1)(h2:Bs w a2 n2 c2 l2)(h3:Bs w a3 n3 c3 l3)(h4:Bs w a4 n4 c4 l4)(h5:Bs w a5 n5 c5 l5):
  Ps (w.alloc (.cells #[.slice a1 n1 c1,.slice a2 n2 c2,.slice a3 n3 c3,.slice a4 n4 c4,.slice a5 n5 c5] 39)) (some ⟨w.heap.size,0,none⟩) 5 5 [l1,l2,l3,l4,l5]:=by
 have hb:=ba (.cells #[.slice a1 n1 c1,.slice a2 n2 c2,.slice a3 n3 c3,.slice a4 n4 c4,.slice a5 n5 c5] 39) (Sy w);have hr:readAt (w.alloc (.cells #[.slice a1 n1 c1,.slice a2 n2 c2,.slice a3 n3 c3,.slice a4 n4 c4,.slice a5 n5 c5] 39)) w.heap.size 0 5=some #[.slice a1 n1 c1,.slice a2 n2 c2,.slice a3 n3 c3,.slice a4 n4 c4,.slice a5 n5 c5]:=by simp[go_sem]
 refine⟨rfl,Nat.le_refl _,om,fun i hi=>?_⟩
 match i,hi with
 | 0,_=>exact⟨_,0,_,_,_,rfl,aB hr 0 1 om om,h1.below hb⟩
 | 1,_=>exact⟨_,0,_,_,_,rfl,aB hr 1 1 om om,h2.below hb⟩
 | 2,_=>exact⟨_,0,_,_,_,rfl,aB hr 2 1 om om,h3.below hb⟩
 | 3,_=>exact⟨_,0,_,_,_,rfl,aB hr 3 1 om om,h4.below hb⟩
 | 4,_=>exact⟨_,0,_,_,_,rfl,aB hr 4 1 om om,h5.below hb⟩
 | i+5,h=>omega
theorem fM(x:Nat)(w:World)(hx:x < 9223372036854775808):
  Calls prog 105 #[.int .i64 x] w fun e w'=>(∃ v,e = .returned v∧ao w' w.heap.size v (be 8 x))∧Below w.heap.size w w':=by
 have w1x:IntKind.u64.wrap (x:Int)=x:=wu
 go_in
 go_wp2_with fail
 refine (iP 8 x w om om om om).mono ?_;rintro _ w1 ⟨⟨v,rfl,ho⟩,hb⟩;have HO:=SM ho;have HB:=SM hb;clear ho hb
 go_wp2
 go_ret
 exact⟨⟨_,rfl,HO.o⟩,HB.o⟩
theorem zS(r s:ByteArray)(ad:Option Addr)(c t m q:Nat)(w:World)(h:aM w ad 1 c [s])(hr:r.size≤200)(hs:s.size≤200)(ht:t≤1099511627776)(hm:m≤999999)(hq:q < 4294967296):
  Calls prog 69 #[.agg (St r ad 1 c (t:Nat) (m:Nat) (q:Nat))] w fun e w'=>(∃ v,e = .returned v∧ao w' w.heap.size v (bZ r [s] t m q))∧Below w.heap.size w w':=by
 have H:=SM h;clear h;have hA:=gy.made w r ad 1 c (t:Nat) (m:Nat) (q:Nat);have hb0:=ba (.cells (St r ad 1 c (t:Nat) (m:Nat) (q:Nat)) 99) (Sy w);have w1t:IntKind.u64.wrap (t:Int)=t:=wu;have w1m:IntKind.u64.wrap (m:Int)=m:=wu;have w1q:IntKind.u64.wrap (q:Int)=q:=wu
 go_in
 go_upto_region 1 with fail
 generalize w.alloc (.cells (St r ad 1 c (t:Nat) (m:Nat) (q:Nat)) 99)=w0 at *;have HA:=SM hA;have Hb0:=SM hb0;clear hA hb0;have q2:w0.cell? ⟨w.heap.size,1+1,none⟩=some (.int .i64 t):=ab HA.o.r 2 _ rfl
 go_wp2_with fail
 refine (iP 8 t w0 om om om om).mono ?_;rintro _ w1 ⟨⟨v1,rfl,ho1⟩,hb1⟩;replace HA:=SM (HA.o.below hb1);replace Hb0:=SM (bt Hb0.o hb1);have HO1:=SM ho1;clear ho1 hb1 q2;have q3:w1.cell? ⟨w.heap.size,2,none⟩=some (.int .i64 t):=ab HA.o.r 2 _ rfl;have q4:w1.cell? ⟨w.heap.size,3,none⟩=some (.int .u32 m):=ab HA.o.r 3 _ rfl
 go_wp2_with fail
 refine (iP 4 m w1 om om om om).mono ?_;rintro _ w2 ⟨⟨v2,rfl,ho2⟩,hb2⟩;replace HA:=SM (HA.o.below hb2);replace Hb0:=SM (bt Hb0.o hb2);replace HO1:=SM (HO1.o.below hb2);have HO2:=SM ho2;clear ho2 hb2 q3 q4;have q3:w2.cell? ⟨w.heap.size,4,none⟩=some (.int .u32 q):=ab HA.o.r 4 _ rfl
 go_wp2_with fail
 refine (iP 4 q w2 om om om om).mono ?_;rintro _ w3 ⟨⟨v3,rfl,ho3⟩,hb3⟩;replace HA:=SM (HA.o.below hb3);replace Hb0:=SM (bt Hb0.o hb3);replace HO1:=SM (HO1.o.below hb3);replace HO2:=SM (HO2.o.below hb3);have HO3:=SM ho3;clear ho3 hb3 q3
 go_upto_region 4 with fail
 have hb4:=ba (.cells #[.int .u8 2] 5) (Sy w3);have Hs4:=SM (fD w3 2 2 rfl);have q5:(w3.alloc (.cells #[.int .u8 2] 5)).cell? ⟨w.heap.size,0,none⟩=some (.string r):=ab (HA.o.below hb4).r 0 _ rfl;have q6:(w3.alloc (.cells #[.int .u8 2] 5)).cell? ⟨w.heap.size,1,none⟩=some (.slice ad 1 c):=ab (HA.o.below hb4).r 1 _ rfl
 go_wp2_with fail
 generalize w3.alloc (.cells #[.int .u8 2] 5)=w4 at *;replace HO1:=SM (HO1.o.below hb4);replace HO2:=SM (HO2.o.below hb4);replace HO3:=SM (HO3.o.below hb4);replace Hb0:=SM (bt Hb0.o hb4);clear q5 q6 HA hb4;refine (kQ r s ad c w4 (H.o.below Hb0.o) hr hs).mono ?_;rintro _ w5 ⟨⟨v5,rfl,ho5⟩,hb5⟩;replace Hb0:=SM (bt Hb0.o hb5);obtain⟨a1,c1,rfl,hs1⟩:=(HO1.o.below hb5).bs;obtain⟨a2,c2,rfl,hs2⟩:=(HO2.o.below hb5).bs
 obtain⟨a3,c3,rfl,hs3⟩:=(HO3.o.below hb5).bs;obtain⟨a5,c5,rfl,hs5⟩:=ho5.bs;have hs4:=Hs4.o.below hb5;rw[aL] at hs1 hs2 hs3 ⊢;obtain⟨k5,hk5⟩:=eY ((bR r [s]).length);have hk5':k5≤1000:=by
  have e1:r.data.toList.length=r.size:=rfl;have e2:s.data.toList.length=s.size:=rfl;rw[← hk5];simp[bR,iI,gi,my,e1,e2];omega
 rw[hk5] at hs5 ⊢;have hps:=jV w5 (some ⟨w3.heap.size,0,none⟩) a5 a1 a2 a3 1 k5 8 4 4 1 c5 c1 c2 c3 [2] (bR r [s]) (be 8 t) (be 4 m) (be 4 q) hs4 hs5 hs1 hs2 hs3;have hfl : [[2],bR r [s],be 8 t,be 4 m,be 4 q].flatten=bZ r [s] t m q:=by simp[bZ,aL]
 have hll:(bZ r [s] t m q).length≤1099511627776:=by simp only[bZ,List.length_append,aL,hk5];simp;omega
 have hb6:=ba (.cells #[.slice (some ⟨w3.heap.size,0,none⟩) 1 1,.slice a5 k5 c5,.slice a1 8 c1,.slice a2 4 c2,.slice a3 4 c3] 39) (Sy w5);have HPs:=SM hps;clear hps hs1 hs2 hs3 hs4 hs5 ho5 hb5 hk5 HO1 HO2 HO3
 go_wp2_with fail
 generalize w5.alloc (.cells #[.slice (some ⟨w3.heap.size,0,none⟩) 1 1,.slice a5 k5 c5,.slice a1 8 c1,.slice a2 4 c2,.slice a3 4 c3] 39)=w6 at *;refine (gI _ 5 5 _ w6 HPs.o (by rw[hfl];exact hll)).mono ?_
 rintro _ w7 ⟨⟨v7,rfl,ho7⟩,hb7⟩;rw[hfl] at ho7;have HB:=SM (bt (bt Hb0.o hb6) hb7);have HO:=SM (ho7.wider' (bt Hb0.o hb6).size);clear ho7 hb7 hb6 hfl hll HPs
 go_wp2
 go_ret
 exact⟨⟨_,rfl,HO.o⟩,HB.o⟩
end
section
open Go.RowKit Go.ChangeMaps
def fR(r:ByteArray)(L:List ByteArray)(st en:Nat)(k:RX):List UInt8:=[1] ++ bR r L ++ be 8 st ++ be 8 en ++ k.toList
theorem JW{w:World}{B:Nat}{r:ByteArray}{ad:Option Addr}{n c:Nat}{s e:Int}{k:RX}(h:oB w B r ad n c s e k):readAt w B 4 16=some (av k):=by
 have:=aB h 4 16 om om;rw[tQ] at this;have e:(av k).extract 0 16=av k:=by
  exact (congrArg (fun z=>(av k).extract 0 z) (by simp:16=(av k).size)).trans sm
 simpa [e] using this
theorem IF{w:World}{B:Nat}{r:ByteArray}{ad:Option Addr}{n c:Nat}{s e:Int}{k:RX}(h:oB w B r ad n c s e k):Bs w (some ⟨B,4,none⟩) 16 16 k.toList:=by
 have h2:=JW h;refine⟨sm,Nat.le_refl _,om,fun h0=>(by cases h0),fun _=>⟨B,4,rfl,?_⟩⟩
 rw[h2];refine congrArg some (Array.ext' ?_);simp[bv,av,Vector.toList]
theorem Ab(r s:ByteArray)(ad:Option Addr)(c st en:Nat)(k:RX)(w:World)(h:aM w ad 1 c [s])(hr:r.size≤200)(hs:s.size≤200)(hst:st≤1099511627776)(hen:en≤1099511627776):
  Calls prog 68 #[.agg (tv r ad 1 c (st:Nat) (en:Nat) k)] w fun e w'=>(∃ v,e = .returned v∧ao w' w.heap.size v (fR r [s] st en k))∧Below w.heap.size w w':=by
 have H:=SM h;clear h;obtain⟨k5,hk5⟩:=eY ((bR r [s]).length);have hk5':k5≤1000:=by
  have e1:r.data.toList.length=r.size:=rfl;have e2:s.data.toList.length=s.size:=rfl;rw[← hk5];simp[bR,iI,gi,my,e1,e2];omega
 have hfl : [[1],bR r [s],be 8 st,be 8 en,k.toList].flatten=fR r [s] st en k:=by simp[fR]
 have hll:(fR r [s] st en k).length≤1099511627776:=by simp only[fR,List.length_append,aL,hk5];simp;omega
 have HK:=SM (oB.new w r ad 1 c (st:Nat) (en:Nat) k);have HB:=SM (ba (.cells (tv r ad 1 c (st:Nat) (en:Nat) k) 97) (Sy w))
 go_in
 go_upto_region 1 with fail
 generalize w.alloc (.cells (tv r ad 1 c (st:Nat) (en:Nat) k) 97)=w0 at *;have hdb:=(Sy w0).drew;replace HK:=SM (HK.o.below hdb);replace HB:=SM (bt HB.o hdb);refine yW (tk 1 2 (tk 4 2 (tk 7 2 (tk 10 2 (.two 0 (.run 3 (.run 6 (.run 9 (.run 12 (.run 13 (.take 14 .done)))))) 3 (.two 0 (.run 6 (.run 9 (.run 12 (.run 13 (.take 14 .done))))) 6 (.two 0 (.run 9 (.run 12 (.run 13 (.take 14 .done)))) 9 (.run 0 (.run 12 (.run 13 (.take 14 .done))))))))))) (fun u=>oB u w.heap.size r ad 1 c (st:Nat) (en:Nat) k) HK.o ?_
 clear hdb;generalize w0.drew=w1 at *
 repeat((first|refine yO ?_|refine yM ?_|refine yF rfl rfl (fun w' hC'=>by obtain⟨c0,c1,c2,c3,c4⟩:=hC'.cells;go_simp;first|done|exact rfl) ?_);walk_nrm)
 refine Iz ?_ ?_
 ·have htr:=True.intro;have hb:=ba (.cells #[.int .u8 1] 5) (Sy w1);have HA:=SM (fD w1 1 1 rfl);replace HK:=SM (HK.o.below hb);replace HB:=SM (bt HB.o hb);refine fJ rfl rfl ?_;apply Exists.intro;apply Exists.intro;refine⟨?_,?_⟩;(go_simp;exact⟨rfl,rfl⟩);refine kC HK.o ?_;walk_nrm;clear hb;generalize w1.alloc (.cells #[.int .u8 1] 5)=w2 at *;refine yR ?_;refine (kQ r s ad c w2 (H.o.below HB.o) hr hs).mono ?_
  rintro _ w3 ⟨⟨v,rfl,ho⟩,hb⟩;obtain⟨aN,cN,rfl,hsN⟩:=ho.bs;rw[hk5] at hsN ⊢;have HN:=SM hsN;replace HA:=SM (HA.o.below hb);replace HK:=SM (HK.o.below hb);replace HB:=SM (bt HB.o hb);refine kS HK.o ?_;walk_nrm;clear hb ho hsN;refine yR ?_;refine (fM st w3 om).mono ?_;rintro _ w4 ⟨⟨v,rfl,ho⟩,hb⟩;obtain⟨aS,cS,rfl,hsS⟩:=ho.bs;rw[aL] at hsS ⊢;have HS:=SM hsS;replace HA:=SM (HA.o.below hb);replace HN:=SM (HN.o.below hb)
  replace HK:=SM (HK.o.below hb);replace HB:=SM (bt HB.o hb);refine kS HK.o ?_;walk_nrm;clear hb ho hsS;refine yR ?_;refine (fM en w4 om).mono ?_;rintro _ w5 ⟨⟨v,rfl,ho⟩,hb⟩;obtain⟨aE,cE,rfl,hsE⟩:=ho.bs;rw[aL] at hsE ⊢;have HE:=SM hsE;replace HA:=SM (HA.o.below hb);replace HN:=SM (HN.o.below hb);replace HS:=SM (HS.o.below hb);replace HK:=SM (HK.o.below hb);replace HB:=SM (bt HB.o hb);refine kS HK.o ?_;walk_nrm
  clear hb ho hsE;have hsK:=IF HK.o;have HPs:=SM (jV w5 (some ⟨w1.heap.size,0,none⟩) aN aS aE (some ⟨w.heap.size,4,none⟩) 1 k5 8 8 16 1 cN cS cE 16 [1] (bR r [s]) (be 8 st) (be 8 en) k.toList HA.o HN.o HS.o HE.o hsK);have hb6:=ba (.cells #[.slice (some ⟨w1.heap.size,0,none⟩) 1 1,.slice aN k5 cN,.slice aS 8 cS,.slice aE 8 cE,.slice (some ⟨w.heap.size,4,none⟩) 16 16] 39) (Sy w5);replace HK:=SM (HK.o.below hb6)
  replace HB:=SM (bt HB.o hb6);clear hsK HA HN HS HE;refine fJ rfl rfl ?_;apply Exists.intro;apply Exists.intro;refine⟨?_,?_⟩;(go_simp;exact⟨rfl,rfl⟩);refine kC HK.o ?_;walk_nrm;generalize w5.alloc (.cells #[.slice (some ⟨w1.heap.size,0,none⟩) 1 1,.slice aN k5 cN,.slice aS 8 cS,.slice aE 8 cE,.slice (some ⟨w.heap.size,4,none⟩) 16 16] 39)=w6 at *;clear hb6;refine yR ?_;refine (gI _ 5 5 _ w6 HPs.o (by rw[hfl];exact hll)).mono ?_
  rintro _ w7 ⟨⟨v7,rfl,ho7⟩,hb7⟩;rw[hfl] at ho7;have HO:=SM (ho7.wider' HB.o.size);replace HK:=SM (HK.o.below hb7);replace HB:=SM (bt HB.o hb7);refine kS HK.o ?_;walk_nrm;clear ho7 hb7 HPs
  repeat(refine yA ?_;walk_nrm)
  refine al ?_
  go_wp2
  go_ret
  exact⟨⟨_,rfl,HO.o⟩,HB.o⟩
 ·have htr:=True.intro;refine yR ?_;refine (kQ r s ad c w1 (H.o.below HB.o) hr hs).mono ?_;rintro _ w2 ⟨⟨v,rfl,ho⟩,hb⟩;obtain⟨aN,cN,rfl,hsN⟩:=ho.bs;rw[hk5] at hsN ⊢;have HN:=SM hsN;replace HK:=SM (HK.o.below hb);replace HB:=SM (bt HB.o hb);refine kS HK.o ?_;walk_nrm;clear hb ho hsN;refine Iz ?_ ?_
  ·have htr:=True.intro;have hb:=ba (.cells #[.int .u8 1] 5) (Sy w2);have HA:=SM (fD w2 1 1 rfl);replace HN:=SM (HN.o.below hb);replace HK:=SM (HK.o.below hb);replace HB:=SM (bt HB.o hb);refine fJ rfl rfl ?_;apply Exists.intro;apply Exists.intro;refine⟨?_,?_⟩;(go_simp;exact⟨rfl,rfl⟩);refine kC HK.o ?_;walk_nrm;clear hb;generalize w2.alloc (.cells #[.int .u8 1] 5)=w3 at *;refine yR ?_;refine (fM st w3 om).mono ?_
   rintro _ w4 ⟨⟨v,rfl,ho⟩,hb⟩;obtain⟨aS,cS,rfl,hsS⟩:=ho.bs;rw[aL] at hsS ⊢;have HS:=SM hsS;replace HN:=SM (HN.o.below hb);replace HA:=SM (HA.o.below hb);replace HK:=SM (HK.o.below hb);replace HB:=SM (bt HB.o hb);refine kS HK.o ?_;walk_nrm;clear hb ho hsS;refine yR ?_;refine (fM en w4 om).mono ?_;rintro _ w5 ⟨⟨v,rfl,ho⟩,hb⟩;obtain⟨aE,cE,rfl,hsE⟩:=ho.bs;rw[aL] at hsE ⊢;have HE:=SM hsE;replace HN:=SM (HN.o.below hb)
   replace HA:=SM (HA.o.below hb);replace HS:=SM (HS.o.below hb);replace HK:=SM (HK.o.below hb);replace HB:=SM (bt HB.o hb);refine kS HK.o ?_;walk_nrm;clear hb ho hsE;have hsK:=IF HK.o;have HPs:=SM (jV w5 (some ⟨w2.heap.size,0,none⟩) aN aS aE (some ⟨w.heap.size,4,none⟩) 1 k5 8 8 16 1 cN cS cE 16 [1] (bR r [s]) (be 8 st) (be 8 en) k.toList HA.o HN.o HS.o HE.o hsK);have hb6:=ba (.cells #[.slice (some ⟨w2.heap.size,0,none⟩) 1 1,.slice aN k5 cN,.slice aS 8 cS,.slice aE 8 cE,.slice (some ⟨w.heap.size,4,none⟩) 16 16] 39) (Sy w5)
   replace HK:=SM (HK.o.below hb6);replace HB:=SM (bt HB.o hb6);clear hsK HA HN HS HE;refine fJ rfl rfl ?_;apply Exists.intro;apply Exists.intro;refine⟨?_,?_⟩;(go_simp;exact⟨rfl,rfl⟩);refine kC HK.o ?_;walk_nrm;generalize w5.alloc (.cells #[.slice (some ⟨w2.heap.size,0,none⟩) 1 1,.slice aN k5 cN,.slice aS 8 cS,.slice aE 8 cE,.slice (some ⟨w.heap.size,4,none⟩) 16 16] 39)=w6 at *;clear hb6;refine yR ?_
   refine (gI _ 5 5 _ w6 HPs.o (by rw[hfl];exact hll)).mono ?_
   rintro _ w7 ⟨⟨v7,rfl,ho7⟩,hb7⟩;rw[hfl] at ho7;have HO:=SM (ho7.wider' HB.o.size);replace HK:=SM (HK.o.below hb7);replace HB:=SM (bt HB.o hb7);refine kS HK.o ?_;walk_nrm;clear ho7 hb7 HPs
   repeat(refine yA ?_;walk_nrm)
   refine al ?_
   go_wp2
   go_ret
   exact⟨⟨_,rfl,HO.o⟩,HB.o⟩
  ·have htr:=True.intro;refine yR ?_;refine (fM st w2 om).mono ?_;rintro _ w3 ⟨⟨v,rfl,ho⟩,hb⟩;obtain⟨aS,cS,rfl,hsS⟩:=ho.bs;rw[aL] at hsS ⊢;have HS:=SM hsS;replace HN:=SM (HN.o.below hb);replace HK:=SM (HK.o.below hb);replace HB:=SM (bt HB.o hb);refine kS HK.o ?_;walk_nrm;clear hb ho hsS;refine Iz ?_ ?_
   ·have htr:=True.intro;have hb:=ba (.cells #[.int .u8 1] 5) (Sy w3);have HA:=SM (fD w3 1 1 rfl);replace HN:=SM (HN.o.below hb);replace HS:=SM (HS.o.below hb);replace HK:=SM (HK.o.below hb);replace HB:=SM (bt HB.o hb);refine fJ rfl rfl ?_;apply Exists.intro;apply Exists.intro;refine⟨?_,?_⟩;(go_simp;exact⟨rfl,rfl⟩);refine kC HK.o ?_;walk_nrm;clear hb;generalize w3.alloc (.cells #[.int .u8 1] 5)=w4 at *
    refine yR ?_;refine (fM en w4 om).mono ?_;rintro _ w5 ⟨⟨v,rfl,ho⟩,hb⟩;obtain⟨aE,cE,rfl,hsE⟩:=ho.bs;rw[aL] at hsE ⊢;have HE:=SM hsE;replace HN:=SM (HN.o.below hb);replace HS:=SM (HS.o.below hb);replace HA:=SM (HA.o.below hb);replace HK:=SM (HK.o.below hb);replace HB:=SM (bt HB.o hb);refine kS HK.o ?_;walk_nrm;clear hb ho hsE;have hsK:=IF HK.o;have HPs:=SM (jV w5 (some ⟨w3.heap.size,0,none⟩) aN aS aE (some ⟨w.heap.size,4,none⟩) 1 k5 8 8 16 1 cN cS cE 16 [1] (bR r [s]) (be 8 st) (be 8 en) k.toList HA.o HN.o HS.o HE.o hsK)
    have hb6:=ba (.cells #[.slice (some ⟨w3.heap.size,0,none⟩) 1 1,.slice aN k5 cN,.slice aS 8 cS,.slice aE 8 cE,.slice (some ⟨w.heap.size,4,none⟩) 16 16] 39) (Sy w5);replace HK:=SM (HK.o.below hb6);replace HB:=SM (bt HB.o hb6);clear hsK HA HN HS HE;refine fJ rfl rfl ?_;apply Exists.intro;apply Exists.intro;refine⟨?_,?_⟩;(go_simp;exact⟨rfl,rfl⟩);refine kC HK.o ?_;walk_nrm;generalize w5.alloc (.cells #[.slice (some ⟨w3.heap.size,0,none⟩) 1 1,.slice aN k5 cN,.slice aS 8 cS,.slice aE 8 cE,.slice (some ⟨w.heap.size,4,none⟩) 16 16] 39)=w6 at *
    clear hb6;refine yR ?_;refine (gI _ 5 5 _ w6 HPs.o (by rw[hfl];exact hll)).mono ?_
    rintro _ w7 ⟨⟨v7,rfl,ho7⟩,hb7⟩;rw[hfl] at ho7;have HO:=SM (ho7.wider' HB.o.size);replace HK:=SM (HK.o.below hb7);replace HB:=SM (bt HB.o hb7);refine kS HK.o ?_;walk_nrm;clear ho7 hb7 HPs
    repeat(refine yA ?_;walk_nrm)
    refine al ?_
    go_wp2
    go_ret
    exact⟨⟨_,rfl,HO.o⟩,HB.o⟩
   ·have htr:=True.intro;refine yR ?_;refine (fM en w3 om).mono ?_;rintro _ w4 ⟨⟨v,rfl,ho⟩,hb⟩;obtain⟨aE,cE,rfl,hsE⟩:=ho.bs;rw[aL] at hsE ⊢;have HE:=SM hsE;replace HN:=SM (HN.o.below hb);replace HS:=SM (HS.o.below hb);replace HK:=SM (HK.o.below hb);replace HB:=SM (bt HB.o hb);refine kS HK.o ?_;walk_nrm;clear hb ho hsE;have hb:=ba (.cells #[.int .u8 1] 5) (Sy w4);have HA:=SM (fD w4 1 1 rfl);replace HN:=SM (HN.o.below hb)
    replace HS:=SM (HS.o.below hb);replace HE:=SM (HE.o.below hb);replace HK:=SM (HK.o.below hb);replace HB:=SM (bt HB.o hb);refine fJ rfl rfl ?_;apply Exists.intro;apply Exists.intro;refine⟨?_,?_⟩;(go_simp;exact⟨rfl,rfl⟩);refine kC HK.o ?_;walk_nrm;clear hb;generalize w4.alloc (.cells #[.int .u8 1] 5)=w5 at *;have hsK:=IF HK.o;have HPs:=SM (jV w5 (some ⟨w4.heap.size,0,none⟩) aN aS aE (some ⟨w.heap.size,4,none⟩) 1 k5 8 8 16 1 cN cS cE 16 [1] (bR r [s]) (be 8 st) (be 8 en) k.toList HA.o HN.o HS.o HE.o hsK)
    have hb6:=ba (.cells #[.slice (some ⟨w4.heap.size,0,none⟩) 1 1,.slice aN k5 cN,.slice aS 8 cS,.slice aE 8 cE,.slice (some ⟨w.heap.size,4,none⟩) 16 16] 39) (Sy w5);replace HK:=SM (HK.o.below hb6);replace HB:=SM (bt HB.o hb6);clear hsK HA HN HS HE;refine fJ rfl rfl ?_;apply Exists.intro;apply Exists.intro;refine⟨?_,?_⟩;(go_simp;exact⟨rfl,rfl⟩);refine kC HK.o ?_;walk_nrm;generalize w5.alloc (.cells #[.slice (some ⟨w4.heap.size,0,none⟩) 1 1,.slice aN k5 cN,.slice aS 8 cS,.slice aE 8 cE,.slice (some ⟨w.heap.size,4,none⟩) 16 16] 39)=w6 at *
    clear hb6;refine yR ?_;refine (gI _ 5 5 _ w6 HPs.o (by rw[hfl];exact hll)).mono ?_
    rintro _ w7 ⟨⟨v7,rfl,ho7⟩,hb7⟩;rw[hfl] at ho7;have HO:=SM (ho7.wider' HB.o.size);replace HK:=SM (HK.o.below hb7);replace HB:=SM (bt HB.o hb7);refine kS HK.o ?_;walk_nrm;clear ho7 hb7 HPs
    repeat(refine yA ?_;walk_nrm)
    refine al ?_
    go_wp2
    go_ret
    exact⟨⟨_,rfl,HO.o⟩,HB.o⟩
end
section
open Go.RowKit Go.ChangeMaps
def zW(a b:List UInt8):List UInt8:=[65,80,1] ++ gi 2 a ++ gi 2 b
theorem sW(ad bd:Option Addr)(n c m c2:Nat)(a b:List UInt8)(w:World)(ha:Bs w ad n c a)(hb:Bs w bd m c2 b)(hn:n≤30000)(hm:m≤30000):
  Calls prog 70 #[.slice ad n c,.slice bd m c2] w fun e w'=>(∃ v,e = .returned (.tuple #[v,.bool true])∧ao w' w.heap.size v (zW a b))∧Below w.heap.size w w':=by
 have HA:=SM ha;have HC:=SM hb;have Hla:=SM ha.1;have Hlb:=SM hb.1;clear ha hb
 go_in
 go_wp2_with fail
 refine (tj 2 ad n c a w HA.o om om om om).mono ?_;rintro _ w1 ⟨⟨v1,rfl,ho1⟩,hb1⟩;have HB:=SM hb1;have HO1:=SM ho1;clear ho1 hb1
 go_wp2_with fail
 refine (tj 2 bd m c2 b w1 (HC.o.below HB.o) om om om om).mono ?_;rintro _ w2 ⟨⟨v2,rfl,ho2⟩,hb2⟩;replace HB:=SM (bt HB.o hb2);replace HO1:=SM (HO1.o.below hb2);have HO2:=SM ho2;clear ho2 hb2;obtain⟨a1,c1,rfl,hs1⟩:=HO1.o.bs;obtain⟨a2,c2',rfl,hs2⟩:=HO2.o.bs;have l1:(gi 2 a).length=2+n:=by simp[gi,Hla.o]
 have l2:(gi 2 b).length=2+m:=by simp[gi,Hlb.o]
 rw[l1] at hs1 ⊢;rw[l2] at hs2 ⊢;have Hs1:=SM hs1;have Hs2:=SM hs2;clear HO1 HO2 hs1 hs2
 go_upto_region 3 with fail
 have hb3:=ba (.cells #[.int .u8 65,.int .u8 80,.int .u8 1] 5) (Sy w2);have hs3:Bs (w2.alloc (.cells #[.int .u8 65,.int .u8 80,.int .u8 1] 5)) (some ⟨w2.heap.size,0,none⟩) 3 3 [65,80,1]:=Bs.made w2 5 [65,80,1] sm sm;have hps:=GV (w2.alloc (.cells #[.int .u8 65,.int .u8 80,.int .u8 1] 5)) (some ⟨w2.heap.size,0,none⟩) a1 a2 3 (2+n) (2+m) 3 c1 c2' [65,80,1] (gi 2 a) (gi 2 b) hs3 (Hs1.o.below hb3) (Hs2.o.below hb3)
 have hb4:=ba (.cells #[.slice (some ⟨w2.heap.size,0,none⟩) 3 3,.slice a1 (2+n) c1,.slice a2 (2+m) c2'] 39) hb3;have hsz:(w2.alloc (.cells #[.int .u8 65,.int .u8 80,.int .u8 1] 5)).heap.size=w2.heap.size+1:=sm;rw[hsz] at hps;have HPs:=SM hps;have HB4:=SM (bt HB.o hb4);have hfl : [[65,80,1],gi 2 a,gi 2 b].flatten=zW a b:=by simp[zW]
 have hll:(zW a b).length=7+n+m:=by simp only[zW,List.length_append,l1,l2];simp;omega
 clear hps hb3 hs3 hb4 hsz Hs1 Hs2 HB
 go_wp2_with fail
 generalize (w2.alloc (.cells #[.int .u8 65,.int .u8 80,.int .u8 1] 5)).alloc (.cells #[.slice (some ⟨w2.heap.size,0,none⟩) 3 3,.slice a1 (2+n) c1,.slice a2 (2+m) c2'] 39)=w4 at *;refine (gI _ 3 3 _ w4 HPs.o (by rw[hfl,hll];omega)).mono ?_
 rintro _ w5 ⟨⟨v5,rfl,ho5⟩,hb5⟩;rw[hfl] at ho5;obtain⟨a5,c5,rfl⟩:=ho5.len;rw[hll] at ho5 ⊢;have HO:=SM (ho5.wider' HB4.o.size);have HB:=SM (bt HB4.o hb5);have d1:((65536:Int) < ((7+n+m:Nat):Int))=False:=sO;have d2:decide ((65536:Int) < ((7+n+m:Nat):Int))=false:=df;clear ho5 hb5 HPs HB4 hfl hll l1 l2
 go_wp2
 go_ret2
 exact⟨⟨_,rfl,HO.o⟩,HB.o⟩
end
section
theorem jA{p:UInt8→Bool}(h:(List.range 256).all (fun n=>p (UInt8.ofNat n))=true)(a:UInt8):p a=true:=by
 have:=List.all_eq_true.1 h a.toNat (List.mem_range.2 a.toNat_lt)
 simpa using this
theorem II(a:UInt8)(h:(255:Int) < 2 * bI a):IntKind.u8.wrap (bits .xor .i64 (2 * bI a) 283)=bI (xt a):=by
 have h1:=jA (p:=fun a => !decide ((255:Int) < 2 * bI a) || decide (IntKind.u8.wrap (bits .xor .i64 (2 * bI a) 283)=bI (xt a))) (by decide +kernel) a
 rw[decide_eq_true h] at h1
 simpa using h1
theorem IJ(a:UInt8)(h : ¬ (255:Int) < 2 * bI a):IntKind.u8.wrap (2 * bI a)=bI (xt a):=by
 have h1:=jA (p:=fun a=>decide ((255:Int) < 2 * bI a) || decide (IntKind.u8.wrap (2 * bI a)=bI (xt a))) (by decide +kernel) a
 rw[decide_eq_false h] at h1
 simpa using h1
theorem nM(a:UInt8)(w:World):Calls prog 232 #[.int .u8 (bI a)] w fun e w'=>e = .returned (.int .u8 (bI (xt a)))∧w=w':=by
 have h0:=oe a;have h1:=od a;have e1:IntKind.i64.wrap (bI a)=bI a:=wi;have e2:IntKind.i64.wrap (2 * bI a)=2 * bI a:=wi
 go_in
 by_cases h:(255:Int) < 2 * bI a
 ·have e3:=II a h;have d1:decide ((255:Int) < 2 * bI a)=true:=decide_eq_true h;have d2:decide (2 * bI a > (255:Int))=true:=decide_eq_true h
  go_wp2
  go_ret
  first | exact⟨rfl,rfl⟩ | (rw[e3];exact⟨rfl,rfl⟩)
 ·have e3:=IJ a h;have d1:decide ((255:Int) < 2 * bI a)=false:=decide_eq_false h;have d2:decide (2 * bI a > (255:Int))=false:=decide_eq_false h
  go_wp2
  go_ret
  first | exact⟨rfl,rfl⟩ | (rw[e3];exact⟨rfl,rfl⟩)
def S4(a:Int):Int:=bits .xor .i64 a (IntKind.i64.wrap (a * 2))
def S2(a:Int):Nat→Int
 | 0=>0
 | 1=>a
 | _=>S4 a
def S5(a:UInt8):UInt8:=xt a ^^^ a
theorem C3(a:UInt8):0≤S4 (bI a)∧S4 (bI a) < 512∧bits .xor .i64 0 (bI a)=bI a∧IntKind.i64.wrap (bI a * 2)=bI a * 2 ∧
  (if bits .and .i64 (S4 (bI a) / 256) 1=1 then IntKind.u8.wrap (bits .xor .i64 (S4 (bI a)) 283)=bI (S5 a) else IntKind.u8.wrap (S4 (bI a))=bI (S5 a)):=by
 have h:=jA (p:=fun a=>decide (0≤S4 (bI a)∧S4 (bI a) < 512∧bits .xor .i64 0 (bI a)=bI a∧IntKind.i64.wrap (bI a * 2)=bI a * 2 ∧
  (if bits .and .i64 (S4 (bI a) / 256) 1=1 then IntKind.u8.wrap (bits .xor .i64 (S4 (bI a)) 283)=bI (S5 a) else IntKind.u8.wrap (S4 (bI a))=bI (S5 a)))) (by decide +kernel) a
 simpa using h
theorem Bl:bits .and .i64 (0:Int) 1=0:=by decide +kernel
theorem Fm:bits .and .i64 (1:Int) 1=1:=by decide +kernel
theorem GG(a:UInt8)(w:World):Calls prog 225 #[.int .u8 (bI a),.int .u8 3] w fun e w'=>e = .returned (.int .u8 (bI (S5 a)))∧w=w':=by
 have h0:=oe a;have h1:=od a;obtain⟨f0,f1,f2,f3,f4⟩:=C3 a;have e1:IntKind.i64.wrap (bI a)=bI a:=wi;have F4:=SM f4;have F0:=SM f0;have F1:=SM f1;clear f4 f0 f1;have q0:bits .and .i64 (3:Int) 1=1:=by decide +kernel
 have q1:=Fm;have q2:=Bl
 go_in
 go_wp2
 go_loopw [5,6] (fun p i wr=>w=wr∧∃ k:Nat,k≤8∧i = .int .i64 k∧p = .int .i64 (S2 (bI a) k)) (fun _ i _=>8 - (intOf i).toNat)
 case atStart=>exact⟨rfl,0,om,rfl,rfl⟩
 case round =>
  obtain⟨rfl,k,hk,rfl,rfl⟩:=hrel
  by_cases hlt:k < 8
  ·obtain rfl | rfl | rfl | rfl | rfl | rfl | rfl | rfl:k=0∨k=1∨k=2∨k=3∨k=4∨k=5∨k=6∨k=7:=om
   all_goals
    go_wp2
    go_roundw
    case rel=>exact⟨by first | rfl | trivial,_,(by decide:_≤8),rfl,by first | rfl | (simp[S2,f2];done) | (simp[S2,S4,f3];done)⟩
    case measure=>simp[intOf]
  ·obtain rfl:k=8:=om;have hm:S2 (bI a) 8=S4 (bI a):=rfl;rw[hm];generalize S4 (bI a)=P at *
   go_wp2
   go_loopw [5,7] (fun p i wr=>w=wr∧((∃ k:Nat,k≤6∧i = .int .i64 ((k:Int)+8)∧p = .int .i64 P)∨(i = .int .i64 7∧∃ R,p = .int .i64 R∧IntKind.u8.wrap R=bI (S5 a)))) (fun _ i _=>(intOf i).toNat)
   case atStart=>exact⟨rfl,.inl ⟨6,om,rfl,rfl⟩⟩
   case round =>
    obtain⟨rfl,⟨k,hk,rfl,rfl⟩ | ⟨rfl,R,rfl,hR⟩⟩:=hrel
    ·by_cases hk0:k=0
     ·subst hk0
      by_cases hb:bits .and .i64 (P / 256) 1=1
      ·have hf:=F4.o;rw[if_pos hb] at hf;have HF:=SM hf;have d1:(bits .and .i64 (P / 256) 1 == 1)=true:=by rw[hb];rfl
       go_wp2
       go_roundw
       case rel=>exact⟨by first | rfl | trivial,.inr ⟨rfl,_,rfl,HF.o⟩⟩
       case measure=>simp[intOf]
      ·have hf:=F4.o;rw[if_neg hb] at hf;have HF:=SM hf;have d1:(bits .and .i64 (P / 256) 1 == 1)=false:=by simpa using hb
       clear hb
       go_wp2
       go_roundw
       case rel=>exact⟨by first | rfl | trivial,.inr ⟨rfl,_,rfl,HF.o⟩⟩
       case measure=>simp[intOf]
     ·have p0:=F0.o;have p1:=F1.o;have z1:P / 512=0:=om;have z2:P / 1024=0:=om;have z3:P / 2048=0:=om;have z4:P / 4096=0:=om;have z5:P / 8192=0:=om;have z6:P / 16384=0:=om;clear p0 p1;obtain rfl | rfl | rfl | rfl | rfl | rfl:k=1∨k=2∨k=3∨k=4∨k=5∨k=6:=om
      all_goals
       go_wp2
       go_roundw
       case rel=>exact⟨by first | rfl | trivial,.inl ⟨_,(by decide:_≤6),rfl,rfl⟩⟩
       case measure=>simp[intOf]
    ·go_wp2
     go_ret
     exact⟨rfl,rfl⟩
def Su(b:Int)(i:Nat):Nat→Int
 | 0=>wrap64 (bits .and .i64 (99 / 2 ^ i) 1+bits .and .i64 (b / 2 ^ i) 1)
 | k+1=>wrap64 (Su b i k+bits .and .i64 (b / 2 ^ ((i+(k+4)) % 8)) 1)
def Ss(b:Int):Nat→Int
 | 0=>0
 | i+1=>wrap64 (Ss b i+wrap64 ((Su b i 4).tmod 2 * 2 ^ i))
def pV(b:UInt8):UInt8:=UInt8.ofNat (IntKind.u8.wrap (Ss (bI b) 8)).toNat
theorem Kk(b:UInt8):IntKind.u8.wrap (Ss (bI b) 8)=bI (pV b):=by
 have h:=jA (p:=fun b=>decide (IntKind.u8.wrap (Ss (bI b) 8)=bI (pV b))) (by decide +kernel) b
 simpa using h
theorem oD(b:UInt8)(w:World):Calls prog 226 #[.int .i64 (bI b)] w fun e w'=>e = .returned (.int .u8 (bI (pV b)))∧w=w':=by
 have hfin:=SM (Kk b);generalize pV b=R at *;generalize bI b=B at *
 go_in
 go_wp2
 go_loopw [3,4] (fun p i wr=>w=wr∧∃ k:Nat,k≤8∧i = .int .i64 k∧p = .int .i64 (Ss B k)) (fun _ i _=>8 - (intOf i).toNat)
 case atStart=>exact⟨by first | rfl | trivial,0,om,rfl,rfl⟩
 case round =>
  obtain⟨rfl,k,hk,rfl,rfl⟩:=hrel
  by_cases hlt:k < 8
  ·have i1:(0:Int)≤(k:Int):=om;have i2:(k:Int) < 8:=om;have i3:(k:Int)≤64:=om;have w1:IntKind.u64.wrap (k:Int)=(k:Int):=wu;obtain⟨O,hO⟩:=eY (Ss B k);have HO:Hd (Ss B (k+1)=wrap64 (O+wrap64 ((Su B k 4).tmod 2 * 2 ^ k))):=by rw[← hO];rfl
   rw[hO];clear hO
   go_wp2_with fail
   rw[show (4:Int)=(((0:Nat):Int)+4) from rfl]
   go_loopw [5,6] (fun x q wr=>w=wr∧∃ m:Nat,m≤4∧q = .int .i64 ((m:Int)+4)∧x = .int .i64 (Su B k m)) (fun _ q _=>8 - (intOf q).toNat)
   case atStart=>exact⟨by first | rfl | trivial,0,om,rfl,rfl⟩
   case round =>
    obtain⟨rfl,m,hm,rfl,rfl⟩:=hrel
    by_cases hmt:m < 4
    ·have j1:(m:Int)+4 < 8:=om;have w2:IntKind.i64.wrap ((k:Int)+((m:Int)+4))=(k:Int)+((m:Int)+4):=wi;obtain⟨r,hr⟩:=eY ((k+(m+4)) % 8);have w3:((k:Int)+((m:Int)+4)).tmod 8=(r:Int):=by rw[Int.tmod_eq_emod_of_nonneg om];omega
     have w4:((k:Int)+((m:Int)+4)) % 8=(r:Int):=om;have w5:IntKind.u64.wrap (r:Int)=(r:Int):=wu;have j2:(0:Int)≤(r:Int):=om;have j3:(r:Int)≤64:=om;obtain⟨A,hA⟩:=eY (Su B k m);have HAx:Hd (Su B k (m+1)=wrap64 (A+bits .and .i64 (B / 2 ^ r) 1)):=by rw[← hA,← hr];rfl
     rw[hA];clear hA hr
     go_wp2
     go_roundw
     case rel=>exact⟨by first | rfl | trivial,m+1,om,by go_num,by rw[HAx.o]⟩
     case measure=>simp[intOf];omega
    ·obtain rfl:m=4:=om;obtain⟨A,hA⟩:=eY (Su B k 4);rw[hA];rw[hA] at HO;clear hA;rw[show (((4:Nat):Int)+4)=8 from rfl]
     go_wp2
     go_roundw
     case rel=>exact⟨by first | rfl | trivial,k+1,om,by go_num,by rw[HO.o]⟩
     case measure=>simp[intOf];omega
  ·obtain rfl:k=8:=om;rw[show ((8:Nat):Int)=8 from rfl]
   have hf:=hfin.o
   go_wp2
   go_ret
   exact⟨by first | rfl | (rw[hf]),rfl⟩
end
section
def Th:List UInt8:=[
 1,3,5,15,17,51,85,255,26,46,114,150,161,248,19,53,95,225,56,72,216,115,149,164,247,2,6,10,30,34,102,170,
 229,52,92,228,55,89,235,38,106,190,217,112,144,171,230,49,83,245,4,12,20,60,68,204,79,209,104,184,211,110,178,205,
 76,212,103,169,224,59,77,215,98,166,241,8,24,40,120,136,131,158,185,208,107,189,220,127,129,152,179,206,73,219,118,154,
 181,196,87,249,16,48,80,240,11,29,39,105,187,214,97,163,254,25,43,125,135,146,173,236,47,113,147,174,233,32,96,160,
 251,22,58,78,210,109,183,194,93,231,50,86,250,21,63,65,195,94,226,61,71,201,64,192,91,237,44,116,156,191,218,117,
 159,186,213,100,172,239,42,126,130,157,188,223,122,142,137,128,155,182,193,88,232,35,101,175,234,37,111,177,200,67,197,84,
 252,31,33,99,165,244,7,9,27,45,119,153,176,203,70,202,69,207,74,222,121,139,134,145,168,227,62,66,198,81,243,14,
 18,54,90,238,41,123,141,140,143,138,133,148,167,242,13,23,57,75,221,124,132,151,162,253,28,36,108,180,199,82,246,1,
 3]
def pw(i:Nat):UInt8:=Th.toArray.getD i 0
theorem QG:(List.range 256).all (fun i=>decide (S5 (pw i)=pw (i+1)∧pV (pw (255 - i))=sb (pw i)∧(i=0∨((List.range 256).any fun m=>(pw m).toNat == i)=true)))=true:=by decide +kernel
theorem Dz(i:Nat)(hi:i < 256):S5 (pw i)=pw (i+1)∧pV (pw (255 - i))=sb (pw i)∧(i=0∨((List.range 256).any fun m=>(pw m).toNat == i)=true):=by
 have:=List.all_eq_true.1 QG i (List.mem_range.2 hi)
 simpa using this
def AG(n:Nat):M0:=Vector.ofFn fun j=>if j.val < n then pw j.val else 0
theorem Dw:jg=AG 0:=by apply Vector.ext;intro i hi;simp[AG,jg]
theorem Du(n i:Nat)(hi:i < n)(h:i < 256):(AG n)[i]=pw i:=by simp[AG,hi]
theorem Dv(n:Nat)(h:n < 256):(AG n).set n (pw n)=AG (n+1):=by
 apply Vector.ext;intro i hi
 by_cases e:i=n
 ·subst e;simp[AG]
 ·rw[Vector.getElem_set_ne _ _ (Ne.symm e)];simp only[AG,Vector.getElem_ofFn]
  by_cases h1:i < n
  ·rw[if_pos h1,if_pos om]
  ·rw[if_neg h1,if_neg om]
def jj(n j:Nat):Bool:=j == 0 || (List.range n).any fun m=>(pw m).toNat == j
def E4(n:Nat):M0:=Vector.ofFn fun j=>if jj n j.val then sb (UInt8.ofNat j.val) else 0
def jl:M0:=Vector.ofFn fun j=>sb (UInt8.ofNat j.val)
theorem Bj:pV 0=sb 0:=by decide +kernel
theorem Dm:jg.set 0 (pV 0)=E4 0:=by
 apply Vector.ext;intro i hi
 by_cases e:i=0
 ·subst e;rw[Vector.getElem_set_self,Bj];simp only[E4,Vector.getElem_ofFn];rw[show jj 0 0=true from rfl,if_pos rfl];rfl
 ·rw[Vector.getElem_set_ne _ _ (Ne.symm e)];have:jj 0 i=false:=by simp[jj,e]
  simp[E4,this,jg]
theorem Dl(n:Nat)(h:n < 256)(hp:(pw n).toNat < 256):(E4 n).set (pw n).toNat (pV (pw (255 - n)))=E4 (n+1):=by
 apply Vector.ext;intro i hi
 have hs:jj (n+1) i=(jj n i || (pw n).toNat == i):=by
  unfold jj;rw[List.range_succ];simp[Bool.or_assoc]
 by_cases e:i=(pw n).toNat
 ·subst e;rw[Vector.getElem_set_self,(Dz n h).2.1];simp[E4,hs]
 ·rw[Vector.getElem_set_ne _ _ (Ne.symm e)];have:((pw n).toNat == i)=false:=by simpa using Ne.symm e
  simp only[E4,Vector.getElem_ofFn,hs,this,Bool.or_false]
theorem GO:E4 256=jl:=by
 apply Vector.ext;intro i hi
 have:jj 256 i=true:=by
  unfold jj
  rcases (Dz i hi).2.2 with h | h
  ·simp[h]
  ·rw[h];simp
 simp[E4,jl,this]
theorem Oi(a:UInt8)(h:a.toNat < 256):jl[a.toNat]=sb a:=by simp[jl]
theorem Kt(w:World):Calls prog 218 #[] w fun e w'=>e = .returned (.agg (fw B8 jl))∧Below w.heap.size w w':=by
 go_in
 go_upto_region 2 with fail
 obtain⟨hR,hP,hb,hs⟩:=iH w 299 299 B8 jg B8 jg;generalize (w.alloc (.cells (fw B8 jg) 299)).alloc (.cells (fw B8 jg) 299)=w1 at *;rw[Dw] at hP;have HR:=SM hR;have HP:=SM hP;have HB:=SM hb;clear hR hP hb;generalize hPB:w.heap.size+1=PB at *
 go_wp2
 go_loopw [2,3] (fun x i wr=>∃ k:Nat,k≤256∧i = .int .i64 k∧x = .int .u8 (bI (pw k))∧Row B8 wr PB (AG k)∧Row B8 wr w.heap.size jg∧Below w.heap.size w wr) (fun _ i _=>256 - (intOf i).toNat)
 case atStart=>exact⟨0,om,rfl,rfl,HP.o,HR.o,HB.o⟩
 case round =>
  clear HR HP HB;obtain⟨k,hk,rfl,rfl,hP,hR,hb⟩:=hrel;have HR:=SM hR;have HP:=SM hP;have HB:=SM hb;clear hR hP hb
  by_cases hlt:k < 256
  ·have i1:(0:Int)≤(k:Int):=om;have i2:(k:Int) < 256:=om;have q1:=HP.o.cell k hlt;have q2:=HP.o.free k;have hs1:=HP.o.set k hlt (pw k);rw[Dv k hlt] at hs1;have hmu:=(Dz k hlt).1;replace HR:=SM (HR.o.other ⟨PB,k,none⟩ (B8 (pw k)) (by show PB≠_;omega))
   replace HB:=SM (HB.o.setCell (p:=⟨PB,k,none⟩) (by show _≤PB;omega) (B8 (pw k)))
   have HP2:=SM hs1;have Hmu:=SM hmu;clear hs1 hmu HP
   go_upto_region 7 with fail
   simp only[jk] at HP2 HR HB;generalize wr.setCell ⟨PB,k,none⟩ (.int .u8 (bI (pw k)))=w2 at *;clear q1 q2
   go_wp2_with fail
   refine (GG (pw k) w2).mono ?_;rintro _ _ ⟨rfl,rfl⟩;rw[Hmu.o]
   go_wp2
   go_roundw
   case rel=>exact⟨k+1,om,by go_num,rfl,HP2.o,HR.o,HB.o⟩
   case measure=>simp[intOf];omega
  ·obtain rfl:k=256:=om
   go_upto_region 9 with fail
   obtain⟨hO,hb9,hs9⟩:=dU wr 299 B8 jg;have hlP:PB < wr.heap.size:=HP.o.lt;generalize wr.alloc (.cells (fw B8 jg) 299)=w3 at *;generalize hOB:wr.heap.size=OB at *;have HO:=SM hO;replace HP:=SM (HP.o.same (hb9.block _ om));replace HR:=SM (HR.o.same (hb9.block _ om));replace HB:=SM (HB.o.trans (hb9.mono om));have haf:=oD 0 w3;rw[show bI 0=0 from rfl] at haf
   have Haf:=SM haf;clear haf hb9 hO
   go_wp2_with fail
   refine Haf.o.mono ?_;rintro _ _ ⟨rfl,rfl⟩;have q2:=HO.o.free 0;have q1:=HO.o.cell 0 dc;have hs1:=HO.o.set 0 dc (pV 0);rw[Dm] at hs1;replace HP:=SM (HP.o.other ⟨OB,0,none⟩ (B8 (pV 0)) (by show OB≠_;omega))
   replace HR:=SM (HR.o.other ⟨OB,0,none⟩ (B8 (pV 0)) (by show OB≠_;omega))
   replace HB:=SM (HB.o.setCell (p:=⟨OB,0,none⟩) (by show _≤OB;omega) (B8 (pV 0)))
   replace HO:=SM hs1;clear hs1 Haf
   go_upto_region 10 with fail
   clear q1 q2;simp only[jk] at HP HR HB HO;generalize w3.setCell ⟨OB,0,none⟩ (.int .u8 (bI (pV 0)))=w4 at *
   go_wp2
   go_loopw [5] (fun i wr=>∃ k:Nat,k≤256∧i = .int .i64 k∧Row B8 wr OB (E4 k)∧Row B8 wr PB (AG 256)∧Row B8 wr w.heap.size jg∧Below w.heap.size w wr) (fun i _=>256 - (intOf i).toNat)
   case atStart=>exact⟨0,om,rfl,HO.o,HP.o,HR.o,HB.o⟩
   case round =>
    clear HO HR HP HB;obtain⟨k,hk,rfl,hO,hP,hR,hb⟩:=hrel;have HO:=SM hO;have HR:=SM hR;have HP:=SM hP;have HB:=SM hb;clear hO hR hP hb
    by_cases hlt:k < 256
    ·have i1:(0:Int)≤(k:Int):=om;have i2:(k:Int) < 256:=om;have i3:(k:Int)≤255:=om;have w1:IntKind.i64.wrap (255 - (k:Int))=((255 - k:Nat):Int):=wi;have p1:=Du 256 k hlt hlt;have p2:=Du 256 (255 - k) om om;have hst:=Dl k hlt (UInt8.toNat_lt _);have hnn:=oe (pw k);have hll:=od (pw k);have hn:=oe (pw (255 - k));have hl:=od (pw (255 - k));have w2:IntKind.i64.wrap (bI (pw (255 - k)))=bI (pw (255 - k)):=wi
     have hix:(bI (pw k)).toNat=(pw k).toNat:=rfl;obtain⟨x,hx⟩:=eY (pw k);obtain⟨y,hy⟩:=eY (pw (255 - k));rw[hx] at p1 hst hnn hll hix;rw[hy] at p2 hst w2 hn hl;have j1:(0:Int)≤((255 - k:Nat):Int):=om;have j2:((255 - k:Nat):Int) < 256:=om;have hxl:x.toNat < 256:=x.toNat_lt;have c1:(AG 256).toArray.size=256:=sm;have hcells:∀ u,Row B8 u PB (AG 256)→u.cell? ⟨PB,k,none⟩=some (B8 x)∧u.cell? ⟨PB,255 - k,none⟩=some (B8 y):=fun u hu=>by
      have q1:=hu.cell k hlt;have q2:=hu.cell (255 - k) om;rw[p1] at q1;rw[p2] at q2;exact⟨q1,q2⟩
     have Hcells:=SM hcells;clear hcells;have Hst:=SM hst;clear p1 p2 hx hy hst c1;generalize (255 - k:Nat)=g at *
     go_upto_region 13 with fail
     refine yW (tk 0 8 (.run 8 (.take 9 (.brk 10 .done)))) (fun u=>u=wr.drew) rfl ?_;replace HO:=SM HO.o.drew;replace HP:=SM HP.o.drew;replace HR:=SM HR.o.drew;replace HB:=SM HB.o.drew;generalize wr.drew=wr at *;obtain⟨q1,q2⟩:=Hcells.o _ HP.o
     repeat(refine yB ?_;walk_nrm)
     refine yR ?_;refine (oD y wr).mono ?_;rintro _ _ ⟨rfl,rfl⟩;refine kS rfl ?_;walk_nrm
     repeat(refine yB ?_;walk_nrm)
     have q3:=HO.o.free x.toNat;have q4:=HO.o.cell x.toNat hxl;have hs1:=HO.o.set x.toNat hxl (pV y);rw[Hst.o] at hs1;replace HP:=SM (HP.o.other ⟨OB,x.toNat,none⟩ (B8 (pV y)) (by show OB≠_;omega))
     replace HR:=SM (HR.o.other ⟨OB,x.toNat,none⟩ (B8 (pV y)) (by show OB≠_;omega))
     replace HB:=SM (HB.o.setCell (p:=⟨OB,x.toNat,none⟩) (by show _≤OB;omega) (B8 (pV y)))
     replace HO:=SM hs1;clear hs1;refine et rfl rfl (fun K hK=>?_);go_simp;refine hK _ _ (fun _=>True) trivial (al ?_);clear q1 q2 q3 q4;simp only[jk] at HP HR HB HO;generalize wr.setCell ⟨OB,x.toNat,none⟩ (.int .u8 (bI (pV y)))=w5 at *
     go_wp2
     go_roundw
     case rel=>exact⟨k+1,om,by go_num,HO.o,HP.o,HR.o,HB.o⟩
     case measure=>simp[intOf];omega
    ·obtain rfl:k=256:=om;rw[GO] at HO;have q1:=HO.o.r;have q2:=HR.o.k
     go_wp2
     refine bodyPost_ret (lp rfl _ _ w.heap.size 0 (fw B8 jl) rfl (HR.o.all jl).r) rfl ⟨rfl,aa HB.o (Nat.le_refl _) _ _⟩
end
end Go.Proofs.YtlcfaaodmickbaaGreatDoor
