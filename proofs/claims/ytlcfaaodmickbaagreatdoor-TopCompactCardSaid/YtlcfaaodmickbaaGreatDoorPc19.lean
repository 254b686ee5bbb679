/- Part 19 of the proof: texts merged and shortened by a program. No conditions. -/
import Derived.Maps.RangeWalk
import Derived.Lib.Bytealg
import Derived.Lib.BytesEntry
import Derived.Sort.Grow
import Derived.Shelf.SlSortCmp.Insertion
import Derived.Shelf.SlSortCmp.NoneTotal
import Derived.Shelf.Lay
import Derived.Ground.SlsfProg
import Derived.Test.YtlcfaaodmickbaaGreatDoorPc18
set_option linter.unusedSimpArgs false
set_option linter.unusedVariables false
set_option maxRecDepth 100000
set_option maxHeartbeats 8000000
namespace Go.Proofs.YtlcfaaodmickbaaGreatDoor
open Go.RowKit Go.Proofs.Tryz
section
open Go.RowKit Go.ChangeMaps
def SN(ix:RP→Option Nat):RP→Option Value:=fun d=>(ix d).map fun (n:Nat)=>Value.int .i64 (n:Int)
structure iu (w:World) (x b:Nat) (ix:RP→Option Nat):Prop where
 s:Bk w x #[.map (some b)]
 m:RN w b (SN ix)
section
variable {w w':World} {x b:Nat} {ix:RP→Option Nat}
theorem iu.below(h:iu w x b ix)(hb:Below w.heap.size w w'):iu w' x b ix:=⟨h.s.below hb,h.m.kept (hb.block b h.m.lt)⟩
theorem iu.drew(h:iu w x b ix):iu w.drew x b ix:=⟨h.s.drew,h.m.kept rfl⟩
end
theorem nN:prog.underlying 147=some (.map 36 2):=kr
theorem I0(w:World):(zeroValue 2).run prog w = .ok (.int .i64 0) w:=kr
def Nd(o:Option Nat):Value:=.tuple #[.int .i64 ((o.getD 0:Nat):Int),.bool o.isSome]
theorem CQ{w:World}{x b:Nat}{ix:RP→Option Nat}(h:iu w x b ix)(d:RP):(Instr.lookup 147 (.map (some b)) (.agg (av d)) true).run prog w = .ok (Nd (ix d)) w:=by
 have:=h.m.look (k:=d) nN (I0 w) true;rw[this];unfold Nd SN;cases ix d <;> rfl
theorem Gh(x b:Nat)(ix:RP→Option Nat)(d:RP)(w:World)(h:iu w x b ix):
  Calls prog 149 #[.pointer (some ⟨x,0,none⟩),.agg (fw B8 d)] w fun e w'=>e = .returned (Nd (ix d))∧Below w.heap.size w w':=by
 have H:=SM h;clear h;have hR:=Row.made (f:=B8) w 36 d;have hb:=ba (.cells (fw B8 d) 36) (Sy w);obtain⟨o,ho⟩:=eY (ix d);rw[ho];have Ho:=SM ho;clear ho
 go_in
 go_upto_region 3 with fail
 generalize w.alloc (.cells (fw B8 d) 36)=w1 at *;have hI:=H.o.below hb;refine yW (tk 0 11 .done) (fun u=>iu u x b ix∧Row B8 u w.heap.size d) ⟨hI.drew,hR.drew⟩ ?_;have hb1:=hb.drew;generalize w1.drew=w2 at *;clear hb hR hI
 repeat((first|refine yO ?_|refine yM ?_|refine yF rfl rfl (fun w' hC'=>by have c0:w'.cell? ⟨x,0,none⟩=some (.map (some b)):=hC'.1.s.cell 0 _ rfl;have qd:=hC'.2.r;have lk:=CQ hC'.1 d;rw[Ho.o] at lk;unfold Nd at lk;rw[nZ] at lk;go_simp;first|done|exact rfl) ?_);walk_nrm)
 refine al ?_
 go_wp2
 go_ret2
 exact⟨rfl,hb1⟩
theorem Gi(x b:Nat)(ix:RP→Option Nat)(d:RP)(now:Int)(w:World)(h:iu w x b ix):
  Calls prog 94 #[.pointer (some ⟨x,0,none⟩),.agg (fw B8 d),.int .i64 now] w fun e w'=>e = .returned (.bool ((ix d).any fun n=>decide (now≤(n:Int))))∧Below w.heap.size w w':=by
 have H:=SM h;clear h;have hR:=Row.made (f:=B8) w 36 d;have hb:=ba (.cells (fw B8 d) 36) (Sy w);obtain⟨o,ho⟩:=eY (ix d);rw[ho];have Ho:=SM ho;clear ho
 go_in
 go_upto_region 1 with fail
 generalize w.alloc (.cells (fw B8 d) 36)=w1 at *;have qd:=hR.r
 go_wp2_with fail
 have hg:=Gh x b ix d w1 (H.o.below hb);rw[Ho.o] at hg;refine hg.mono ?_;rintro _ w2 ⟨rfl,hb2⟩;unfold Nd;clear qd;cases o with
 | none =>
  go_wp2
  go_ret
  exact⟨rfl,bt hb hb2⟩
 | some n =>
  go_wp2
  go_ret
  exact⟨rfl,bt hb hb2⟩
theorem Gp{w:World}{x b:Nat}{ix:RP→Option Nat}(h:iu w x b ix):x≠b:=by
 rintro rfl;obtain⟨c,t,hb,_⟩:=cg h.s.k;obtain⟨es,ck,he,_⟩:=h.m;rw[hb] at he;cases he
theorem rZ{w:World}{b:Nat}{d:RP}{n:Int}(h:readAt w b 0 33=some (ev d n)):readAt w b 0 32=some (av d):=by
 rw[aB h 0 32 om om];refine congrArg some ?_
 apply Array.ext'
 simp[ev,List.extract_eq_take_drop]
def oh(ix:RP→Option Nat)(d:RP)(n:Nat):(RP→Option Nat) × Bool :=
 if ((ix d).any fun m=>decide (n≤m))=true then (ix,false) else (fun e=>if e=d then some n else ix e,true)
theorem x9{w:World}{x b:Nat}{ix:RP→Option Nat}(h:iu w x b ix)(d:RP)(n:Nat):∃ o,(Instr.mapUpdate 147 (.map (some b)) (.agg (av d)) (.int .i64 n)).run prog w = .ok () (setBlock w b o)∧iu (setBlock w b o) x b (fun e=>if e=d then some n else ix e)∧Kb (fun i=>i=b) w (setBlock w b o):=by
 obtain⟨o,h1,h2⟩:=h.m.store (k:=d) nN (.int .i64 n);have hoth:∀ j,j≠b→(setBlock w b o).heap[j]? = w.heap[j]?:=fun j hj=>by obtain⟨es,ck,he,_⟩:=h.m;exact heap_setBlock_other he o hj
 refine⟨o,h1,⟨h.s.same (hoth x (Gp h)),h2.ext (fun k=>?_)⟩,⟨rfl,rfl,rfl,by simp[setBlock],fun k _ hk=>hoth k hk⟩⟩
 unfold SN AJ
 by_cases e:k=d
 ·simp[e]
 ·simp[e]
theorem qD(x b:Nat)(ix:RP→Option Nat)(d:RP)(n:Nat)(w:World)(h:iu w x b ix):
  Calls prog 85 #[.pointer (some ⟨x,0,none⟩),.agg (ev d (n:Int))] w fun e w'=>e = .returned (.bool (oh ix d n).2)∧iu w' x b (oh ix d n).1∧Kb (fun i=>i=b) w w':=by
 have H:=SM h;clear h;have hE:=lx w d (n:Int);have hb:=ba (.cells (ev d (n:Int)) 89) (Sy w);obtain⟨R,hR⟩:=eY (oh ix d n);rw[hR];have HR:=SM hR;obtain⟨o,ho⟩:=eY (ix d);have Ho:=SM ho;clear hR ho
 go_in
 go_upto_region 3 with fail
 generalize w.alloc (.cells (ev d (n:Int)) 89)=w1 at *;have hI:=H.o.below hb;refine yW (tk 0 12 .done) (fun u=>iu u x b ix∧readAt u w.heap.size 0 33=some (ev d (n:Int))) ⟨hI.drew,hE⟩ ?_;have hb1:=hb.drew;have hI1:iu w1.drew x b ix:=hI.drew;have hE1:readAt w1.drew w.heap.size 0 33=some (ev d (n:Int)):=hE;generalize w1.drew=w2 at *;clear hb hI hE
 repeat((first|refine yO ?_|refine yM ?_|refine yF rfl rfl (fun w' hC'=>by have c0:w'.cell? ⟨x,0,none⟩=some (.map (some b)):=hC'.1.s.cell 0 _ rfl;have qd:=rZ hC'.2;have lk:=CQ hC'.1 d;rw[Ho.o] at lk;unfold Nd at lk;go_simp;first|done|exact rfl) ?_);walk_nrm)
 refine al ?_;have c32:w2.cell? ⟨w.heap.size,32,none⟩=some (.int .i64 n):=by have:=ab hE1 32 _ (qo d (n:Int));rwa [Nat.zero_add] at this
 have no:((o.any fun m=>decide (n≤m))=false)→R=(fun e=>if e=d then some n else ix e,true):=fun h=>by rw[← HR.o];unfold oh;rw[Ho.o,h];rfl
 cases o with
 | none =>
  have hRn:=no rfl;subst hRn
  go_wp2_with fail
  have hb3:=hb1.drew;have hI3:iu w2.drew x b ix:=hI1.drew;have hE3:readAt w2.drew w.heap.size 0 33=some (ev d (n:Int)):=hE1;refine yW (tk 0 8 (.brk 8 .done)) (fun u=>u=w2.drew) rfl ?_;generalize w2.drew=w3 at *;have c0:w3.cell? ⟨x,0,none⟩=some (.map (some b)):=hI3.s.cell 0 _ rfl;have qd:=rZ hE3;have c33:w3.cell? ⟨w.heap.size,32,none⟩=some (.int .i64 n):=by have:=ab hE3 32 _ (qo d (n:Int));rwa [Nat.zero_add] at this
  obtain⟨ob,hs1,hs2,hs3⟩:=x9 hI3 d n
  repeat(refine yB ?_;walk_nrm)
  refine et rfl rfl (fun K hK=>?_);go_simp;refine hK _ _ (fun _=>True) trivial (al ?_);have hkf:=(Kb.of_below (X:=fun i=>i=b) hb3).trans hs3 (fun i hi=>.inl hi);clear hs1 hs3 c0 qd c33
  go_wp2
  go_ret
  exact⟨rfl,hs2,hkf⟩
 | some m =>
  by_cases hle:n≤m
  ·have hRn:R=(ix,false):=by rw[← HR.o];unfold oh;rw[Ho.o];simp[hle]
   have d1:decide ((n:Int)≤(m:Int))=true:=dt;subst hRn
   go_wp2
   go_ret
   exact⟨rfl,hI1,Kb.of_below hb1⟩
  ·have hRn:=no sO;have d1:decide ((n:Int)≤(m:Int))=false:=df;subst hRn
   go_wp2_with fail
   have hb3:=hb1.drew;have hI3:iu w2.drew x b ix:=hI1.drew;have hE3:readAt w2.drew w.heap.size 0 33=some (ev d (n:Int)):=hE1;refine yW (tk 0 8 (.brk 8 .done)) (fun u=>u=w2.drew) rfl ?_;generalize w2.drew=w3 at *;have c0:w3.cell? ⟨x,0,none⟩=some (.map (some b)):=hI3.s.cell 0 _ rfl;have qd:=rZ hE3;have c33:w3.cell? ⟨w.heap.size,32,none⟩=some (.int .i64 n):=by have:=ab hE3 32 _ (qo d (n:Int));rwa [Nat.zero_add] at this
   obtain⟨ob,hs1,hs2,hs3⟩:=x9 hI3 d n
   repeat(refine yB ?_;walk_nrm)
   refine et rfl rfl (fun K hK=>?_);go_simp;refine hK _ _ (fun _=>True) trivial (al ?_);have hkf:=(Kb.of_below (X:=fun i=>i=b) hb3).trans hs3 (fun i hi=>.inl hi);clear hs1 hs3 c0 qd c33
   go_wp2
   go_ret
   exact⟨rfl,hs2,hkf⟩
end
section
open Go.RowKit Go.ChangeMaps
def gR(L:List RQ):RP→Option Nat:=L.foldl (fun ix e=>(oh ix e.1 e.2).1) (fun _=>none)
theorem jK(L:List RQ)(e:RQ):gR (L ++ [e])=(oh (gR L) e.1 e.2).1:=by simp[gR]
theorem Gj(ad:Option Addr)(n c:Nat)(L:List RQ)(w:World)(hL:L.length=n)(hn:n≤5000)(h:Se w (.slice ad n c) n 33 (aZ SK L)):
  Calls prog 58 #[.slice ad n c] w fun e w'=>(∃ x b,e = .returned (.pointer (some ⟨x,0,none⟩))∧w.heap.size≤x∧w.heap.size≤b∧iu w' x b (gR L))∧Below w.heap.size w w':=by
 have H:=SM h;have HL:=SM hL;clear h hL;have hmm:=@run_makeMap prog
 go_in
 go_wp2_with fail
 have hm1:=RN.made w;have hS:=Bk.new (w.alloc (.map #[] 0)) #[.map (some w.heap.size)] 149;rw[show (w.alloc (.map #[] 0)).heap.size=w.heap.size+1 by simp] at hS
 have hb1:=(Sy w).alloc (Nat.le_refl _) (.map #[] 0);have hb2:=ba (.cells #[.map (some w.heap.size)] 149) hb1;have hI0:iu ((w.alloc (.map #[] 0)).alloc (.cells #[.map (some w.heap.size)] 149)) (w.heap.size+1) w.heap.size (gR []) :=
  ⟨hS,(hm1.kept ((ba (.cells #[.map (some w.heap.size)] 149) (Below.refl _ _)).block w.heap.size sm)).ext (fun _=>rfl)⟩
 generalize (w.alloc (.map #[] 0)).alloc (.cells #[.map (some w.heap.size)] 149)=w1 at *;have HI:=SM hI0;clear hmm hm1 hS hb1 hI0
 go_loopw [11] (fun i wr=>∃ k:Nat,k≤n∧i = .int .i64 k∧iu wr (w.heap.size+1) w.heap.size (gR (L.take k))∧Below w.heap.size w wr) (fun i _=>n - (intOf i).toNat)
 case atStart=>exact⟨0,Nat.zero_le _,rfl,by simpa using HI.o,hb2⟩
 case round =>
  clear HI;obtain⟨k,hk,rfl,hI,hbw⟩:=hrel;have HI:=SM hI;have Hbw:=SM hbw;clear hI hbw
  by_cases hlt:k < n
  ·obtain⟨b1,o1,c1,e1,_,_,hr1⟩:=(H.o.below Hbw.o).at k hlt;simp only[Value.slice.injEq,true_and] at e1;obtain⟨rfl,rfl⟩:=e1;have hkL:k < L.length:=by rw[HL.o];exact hlt
   rw[dC SK 33 eL L k hkL] at hr1;have hsn:L.take (k+1)=L.take k ++ [L[k]]:=List.take_succ_eq_append_getElem hkL;obtain⟨⟨d,x⟩,he⟩ : ∃ e,L[k]=e:=⟨_,rfl⟩;rw[he] at hr1 hsn;have hr1':readAt wr b1 (o1+k * 33) 33=some (ev d (x:Int)):=hr1;have q3:readAt (wr.alloc (.cells (ev d (x:Int)) 89)) wr.heap.size 0 33=some (ev d (x:Int)):=lx wr d x;have hb3:=ba (.cells (ev d (x:Int)) 89) (Sy wr);have Hsn:=SM hsn
   clear hr1 he hsn
   go_wp2_with fail
   generalize wr.alloc (.cells (ev d (x:Int)) 89)=w3 at *;refine (qD (w.heap.size+1) w.heap.size (gR (L.take k)) d x w3 (HI.o.below hb3)).mono ?_;rintro _ w4 ⟨rfl,hI4,hk4⟩;have HI4:Hd (iu w4 (w.heap.size+1) w.heap.size (gR (L.take (k+1)))):=SM (by rw[Hsn.o,jK];exact hI4)
   have Hb4:=SM ((bt Hbw.o hb3).trans (hk4.below (fun i hi=>by subst hi;exact Nat.le_refl _) (by have:=Hbw.o.size;have:=hb3.size;omega)))
   clear hI4 hk4 hb3 q3 hr1'
   go_wp2
   go_roundw
   case rel=>exact⟨k+1,om,by go_num,HI4.o,Hb4.o⟩
   case measure=>simp[intOf];omega
  ·obtain rfl:k=n:=om
   go_wp2
   go_ret
   exact⟨⟨_,_,rfl,om,Nat.le_refl _,by rw[List.take_of_length_le (by rw[HL.o];exact Nat.le_refl _)] at HI;exact HI.o⟩,Hbw.o⟩
end
section
open Go Go.RowKit Go.ChangeMaps Go.MapKept
def RO(w:World)(b r:Nat)(M:RP→Option Value)(S:RP→Bool)(cnt:Nat):Prop :=
 ∃ es clock since jj c0,w.heap[b]? = some (.map es clock)∧(∀ e ∈ es.toList,∃ a:RP,e.key = .agg (av a)) ∧
  (∀ (i j:Nat) (e f:MapEntry),es.toList[i]? = some e→es.toList[j]? = some f→e.key=f.key→i=j)∧(∀ k v,M k=some v↔∃ e ∈ es.toList,e.key = .agg (av k)∧e.val=v)∧Stamped es clock ∧
  w.heap[r]? = some (.mapIter (some b) since jj c0)∧(∀ x ∈ es.toList,x.born < since)∧(leftOf es jj).size=cnt∧(∀ x ∈ es.toList,∀ d:RP,x.key = .agg (av d)→S d = !jj.contains x.born)∧(∀ d,S d=true→(M d).isSome=true)∧since≤c0∧since≤clock
section
variable {w:World} {b r:Nat} {M:RP→Option Value} {S:RP→Bool} {cnt:Nat}
theorem RO.map(h:RO w b r M S cnt):RN w b M:=by
 obtain⟨es,clock,since,jj,c0,hb,hks,hun,hM,hst,_⟩:=h;exact⟨es,clock,hb,hks,hun,hM,hst⟩
theorem RO.ne(h:RO w b r M S cnt):r≠b:=by
 obtain⟨es,clock,since,jj,c0,hb,_,_,_,_,hr,_⟩:=h;rintro rfl;rw[hb] at hr;cases hr
theorem RO.lt(h:RO w b r M S cnt):r < w.heap.size:=by
 obtain⟨es,clock,since,jj,c0,_,_,_,_,_,hr,_⟩:=h;exact (Array.getElem?_eq_some_iff.1 hr).1
theorem RO.left_eq(h:RO w b r M S cnt):w.rangeLeft b r=cnt:=by
 obtain⟨es,clock,since,jj,c0,hb,_,_,_,_,hr,_,hc,_⟩:=h;simp only[World.rangeLeft,hb,hr];exact hc
theorem RO.same{w':World}(h:RO w b r M S cnt)(hb:w'.heap[b]? = w.heap[b]?)(hr:w'.heap[r]? = w.heap[r]?):RO w' b r M S cnt:=by
 obtain⟨es,clock,since,jj,c0,h1,h2,h3,h4,h5,h6,h7⟩:=h;exact⟨es,clock,since,jj,c0,hb.trans h1,h2,h3,h4,h5,hr.trans h6,h7⟩
theorem RN.range(h:RN w b M){t e:TypeId}(ht:prog.underlying t=some (.map 36 e)):
  ∃ w' cnt,(Instr.range t (.map (some b))).run prog w = .ok (.pointer (some ⟨w.heap.size,0,none⟩)) w'∧RO w' b w.heap.size M (fun d=>(M d).isSome) cnt∧Below w.heap.size w w'∧w'.heap.size=w.heap.size+1:=by
 have hlt:=h.lt;obtain⟨es,clock,hb,hks,hun,hM,hst⟩:=h;refine⟨_,_,run_range_map w t 36 e b es clock ht hb,⟨es,clock,clock,#[],clock,((MapKept.heap_alloc w _).2 b hlt).trans hb,hks,hun,hM,hst,(MapKept.heap_alloc w _).1,hst.1,rfl,?_,fun _ h=>h,Nat.le_refl _,Nat.le_refl _⟩,(Below.refl _ _).alloc (Nat.le_refl _) _,sm⟩;intro x hx d hd
 show (M d).isSome=_
 rw[(hM d x.val).2 ⟨x,hx,hd,rfl⟩];simp
theorem RO.next(h:RO w b r M S cnt)(ty:TypeId):
  (cnt=0∧(∀ d,S d=false)∧(Instr.next (.pointer (some ⟨r,0,none⟩)) false ty).run prog w = .ok (.tuple #[.bool false]) w) ∨
  ∃ d v w' cnt',M d=some v∧S d=true∧(Instr.next (.pointer (some ⟨r,0,none⟩)) false ty).run prog w = .ok (.tuple #[.bool true,.agg (av d),v]) w' ∧
   RO w' b r M (fun e=>S e && !(e == d)) cnt'∧cnt' < cnt∧w.grownBy w' (some r)∧w'.heap.size=w.heap.size∧(Instr.entry (.pointer (some ⟨r,0,none⟩))).run prog w' = .ok (.tuple #[.agg (av d),v]) w':=by
 have hne:=h.ne;obtain⟨es,clock,since,jj,c0,hb,hks,hun,hM,hst,hr,hold,rfl,hl1,hl2,hsc,hsk⟩:=h
 rcases run_next_at (P:=prog) w ty r b since c0 jj es clock hr hb hold hsc with ⟨h0,hrun⟩ | ⟨e,he,w1,hal,hrun⟩
 ·refine Or.inl ⟨h0,fun d=>?_,hrun⟩;cases hk:S d
  ·rfl
  ·obtain⟨v,hv⟩:=Option.isSome_iff_exists.1 (hl2 d hk);obtain⟨x,hx,hxk,_⟩:=(hM d v).1 hv;rw[hl1 x hx d hxk,all_seen es jj h0 x hx] at hk;cases hk
 ·obtain⟨hem,hes⟩:=mem_left he;obtain⟨d,hd⟩:=hks e hem;have hr1:w1.heap[r]? = some (.mapIter (some b) since jj c0):=by rcases hal with rfl | rfl <;> exact hr
  have hb1:w1.heap[b]? = some (.map es clock):=by rcases hal with rfl | rfl <;> exact hb
  have hset:=heap_set (o':=.mapIter (some b) since (jj.push e.born) clock) hr1;have hb':(setBlock w1 r (.mapIter (some b) since (jj.push e.born) clock)).heap[b]? = some (.map es clock):=(hset.2 b (fun e1=>hne e1.symm)).trans hb1;have hnd:=((stamped_iff es clock).1 hst).2.1;rw[hd] at hrun;refine Or.inr ⟨d,e.val,_,_,(hM d e.val).2 ⟨e,hem,hd,rfl⟩,by rw[hl1 e hem d hd,hes];rfl,hrun,
   ⟨es,clock,since,jj.push e.born,clock,hb',hks,hun,hM,hst,hset.1,hold,rfl,fun x hx d' SM=>?_,fun d' h'=>hl2 d' (by simp at h';exact h'.1),hsk,hsk⟩,left_shrinks es jj e he,?_,?_,?_⟩
  ·show (S d' && !(d' == d))=_
   rw[hl1 x hx d' SM,contains_push]
   by_cases hdd:d'=d
   ·subst hdd;obtain⟨i,hi⟩:=List.getElem?_of_mem hx;obtain⟨j,hj⟩:=List.getElem?_of_mem hem;have:=hun i j x e hi hj (by rw[SM,hd])
    subst this;rw[hi] at hj;cases hj;simp
   ·have hb2:x.born≠e.born:=fun hbe=>hdd (mw (by rw[← SM,born_inj hnd hx hem hbe,hd]))
    have h1:(d' == d)=false:=by simpa using hdd
    have h2:(x.born == e.born)=false:=by simpa using hb2
    rw[h1,h2];simp
  ·rcases hal with rfl | rfl <;> exact⟨rfl,rfl,rfl,by simp[setBlock],fun i _ hi=>hset.2 i (fun e1=>hi (by rw[e1]))⟩
  ·rcases hal with rfl | rfl <;> simp[setBlock]
  ·have:=run_entry_at (P:=prog) _ r b since jj es clock e hset.1 hb' hem hnd;rw[hd] at this;exact this
theorem RO.drop(h:RO w b r M S cnt)(k:RP){t e:TypeId}(ht:prog.underlying t=some (.map 36 e))(ty:TypeId):
  ∃ o cnt',(Builtin.delete_ #[t,36] ty #[.map (some b),.agg (av k)]).run prog w = .ok (.tuple #[]) (setBlock w b o)∧RO (setBlock w b o) b r (AJ M k none) (fun d=>S d && !(d == k)) cnt'∧cnt'≤cnt:=by
 have hne:=h.ne;have hm:=h.map;obtain⟨es,clock,since,jj,c0,hb,hks,hun,hM,hst,hr,hold,hcnt,hl1,hl2,hsc,hsk⟩:=h;obtain⟨o,hrun,es',clock',hb',hks',hun',hM',hst'⟩:=hm.drop (k:=k) ht ty;have hsub:∃ es2,o = .map es2 clock∧es2.toList.Sublist es.toList:=by
  rcases iD.find w (zm k).choose_spec es.toList (fun e he=>by obtain⟨a,e1⟩:=hks e he;exact⟨_,by rw[e1];exact (zm a).choose_spec⟩) with ⟨h1,h2⟩ | ⟨j,e0,h1,h2,h3⟩
  ·have hr2:(Builtin.delete_ #[t,36] ty #[.map (some b),.agg (av k)]).run prog w = .ok (.tuple #[]) (setBlock w b (.map es clock)):=by
    simp[Builtin.delete_,run_underlying ht,MapKept.run_getObj_map hb,iD.check w _ (zm k).choose_spec,h1,MapKept.run_setObj_map _ hb,Result.andThen,setBlock]
   rw[hr2] at hrun;have hw:setBlock w b (.map es clock)=setBlock w b o:=by injection hrun
   have h3:=heap_setBlock_same hb (.map es clock);rw[hw,heap_setBlock_same hb o] at h3;exact⟨es,by simpa using h3,List.Sublist.refl _⟩
  ·have hjs:j < es.size:=by simpa using (List.getElem?_eq_some_iff.1 h2).1
   have hr2:(Builtin.delete_ #[t,36] ty #[.map (some b),.agg (av k)]).run prog w = .ok (.tuple #[]) (setBlock w b (.map (es.eraseIdxIfInBounds j) clock)):=by
    simp[Builtin.delete_,run_underlying ht,MapKept.run_getObj_map hb,iD.check w _ (zm k).choose_spec,h1,MapKept.run_setObj_map _ hb,Result.andThen,setBlock]
   rw[hr2] at hrun;have hw:setBlock w b (.map (es.eraseIdxIfInBounds j) clock)=setBlock w b o:=by injection hrun
   have h3:=heap_setBlock_same hb (.map (es.eraseIdxIfInBounds j) clock);rw[hw,heap_setBlock_same hb o] at h3;refine⟨es.eraseIdxIfInBounds j,by simpa using h3,?_⟩
   unfold Array.eraseIdxIfInBounds;rw[dif_pos hjs]
   simpa using List.eraseIdx_sublist _ _
 obtain⟨es2,rfl,hs⟩:=hsub;rw[heap_setBlock_same hb] at hb';simp only[Option.some.injEq,Obj.map.injEq] at hb';obtain⟨rfl,rfl⟩:=hb';refine⟨_,_,hrun,⟨es2,clock,since,jj,c0,heap_setBlock_same hb _,hks',hun',hM',hst',(heap_setBlock_other hb _ hne).trans hr,fun x hx=>hold x (hs.subset hx),rfl,fun x hx d hd=>?_,fun d hd=>?_,hsc,hsk⟩,?_⟩
 ·show (S d && !(d == k))=_
  have hdk:d≠k:=by
   rintro rfl;have:=(hM' d x.val).2 ⟨x,hx,hd,rfl⟩;simp[AJ] at this
  have h1:(d == k)=false:=by simpa using hdk
  rw[hl1 x (hs.subset hx) d hd,h1];simp
 ·simp only[Bool.and_eq_true,Bool.not_eq_true',beq_eq_false_iff_ne] at hd;unfold AJ;rw[if_neg hd.2];exact hl2 d hd.1
 ·rw[← hcnt];have e1:∀ a:Array MapEntry,(leftOf a jj).size=(a.toList.filter fun e => !jj.contains e.born).length:=fun a=>by
   unfold leftOf;rw[← Array.toList_filter,Array.length_toList]
  rw[e1,e1];exact (hs.filter _).length_le
end
end
section
open Go.RowKit Go.ChangeMaps
def aO(ix:RP→Option Nat)(now:Int):RP→Option Nat:=fun d=>(ix d).filter fun n=>decide (now≤(n:Int))
theorem nI{a:Bool}{e d:RP}(he:e≠d)(h:(a && !(e == d))=false):a=false:=by
 have h1:(e == d)=false:=by simpa using he
 rw[h1] at h;simpa using h
theorem ss(x b:Nat)(ix:RP→Option Nat)(now:Int)(w:World)(h:iu w x b ix):
  Calls prog 56 #[.pointer (some ⟨x,0,none⟩),.int .i64 now] w fun e w'=>(∃ z,e = .returned (.int .i64 z))∧iu w' x b (aO ix now)∧Kb (fun i=>i=b) w w':=by
 have H:=SM h;have hxb:=Gp h;have hblt:=h.m.lt;have c0:w.cell? ⟨x,0,none⟩=some (.map (some b)):=h.s.cell 0 _ rfl;obtain⟨w1,cnt,hrun,hR,hb1,hs1⟩:=h.m.range nN;clear h
 go_in
 go_wp2_with fail
 have HR:=SM hR;have Hb1:=SM hb1;clear hrun hR hb1 c0
 go_loopw [5] (fun dr wr=>∃ (ixk:RP→Option Nat) (S:RP→Bool) (cnt:Nat) (z:Int),dr = .int .i64 z∧RO wr b w.heap.size (SN ixk) S cnt∧Bk wr x #[.map (some b)]∧Hd (∀ d,(S d=true→ixk d=ix d)∧(S d=false→ixk d=aO ix now d))∧Kb (fun i=>i=b) w wr) (fun _ wr=>wr.rangeLeft b w.heap.size)
 case atStart=>exact⟨ix,_,cnt,0,rfl,HR.o,H.o.s.below Hb1.o,fun d=>⟨fun _=>rfl,fun hs=>by
  have hn:ix d=none:=by
   cases hq:ix d with
   | none=>rfl
   | some n=>simp[SN,hq] at hs
  unfold aO;rw[hn];rfl⟩,Kb.of_below Hb1.o⟩
 case round =>
  clear HR;obtain⟨ixk,S,cnt,z,rfl,hR,hx,hS,hkb⟩:=hrel;have HX:=SM hx;have Hkb:=SM hkb;have hle:=hR.left_eq;have hz:=hkb.size;clear hx hkb
  rcases hR.next 0 with ⟨h0,hno,hrun⟩ | ⟨d,v,w2,cnt2,hMd,hSd,hrun,hR2,hlt,hg2,hz2,hent⟩
  ·have hfin:Hd (iu wr x b (aO ix now)):=SM ⟨HX.o,hR.map.ext (fun d=>by unfold SN;rw[(hS.o d).2 (hno d)])⟩
   clear hR
   go_wp2
   go_ret
   exact⟨⟨_,rfl⟩,hfin.o,Hkb.o⟩
  ·have hixd:=(hS.o d).1 hSd;obtain⟨n,hn,rfl⟩ : ∃ n:Nat,ix d=some n∧v = .int .i64 n:=by
    unfold SN at hMd;rw[hixd] at hMd;cases hq:ix d with
    | none=>rw[hq] at hMd;cases hMd
    | some n=>rw[hq] at hMd;exact⟨n,rfl,by simpa using hMd.symm⟩
   rw[nZ] at hent hrun;have hkg:=Kb.of_grown (X:=fun i=>i=w.heap.size) hg2 (fun r e=>by cases e;rfl)
   have hxlt:=HX.o.lt;have hx0:x≠w.heap.size:=by have:=H.o.s.lt;omega
   have hb3:=ba (.cells (fw B8 d) 36) (Sy w2);have hbr:b < w2.heap.size:=om;have hR3:=hR2.same (hb3.block b hbr) (hb3.block w.heap.size (by have:=hR2.lt;exact this))
   have hx3:Bk (w2.alloc (.cells (fw B8 d) 36)) x #[.map (some b)]:=(HX.o.same (hkg.block x hxlt hx0)).below hb3;have hq3:=Row.made (f:=B8) w2 36 d;rw[hz2] at hq3;have hk3:=((Hkb.o.trans hkg (fun i hi=>.inr om)).blw hb3);have HR3:=SM hR3;have HX3:=SM hx3;have HQ3:=SM hq3;have HK3:=SM hk3;have hle2:=hR3.left_eq;clear hR hR2 hMd hg2 hkg hb3 hR3 hx3 hq3 hk3
   by_cases hlow:(n:Int) < now
   ·have d1:decide ((n:Int) < now)=true:=decide_eq_true hlow
    go_wp2_with fail
    clear hrun hent;generalize w2.alloc (.cells (fw B8 d) 36)=w3 at *;have hR4:RO w3.drew b w.heap.size (SN ixk) (fun e=>S e && !(e == d)) cnt2:=HR3.o.same rfl rfl;have hX4:=HX3.o.drew;have hQ4:=HQ3.o.drew;have hK4:=HK3.o.drew;refine yW (tk 0 5 (.brk 5 .done)) (fun u=>u=w3.drew) rfl ?_;generalize w3.drew=w4 at *;have c0:w4.cell? ⟨x,0,none⟩=some (.map (some b)):=hX4.cell 0 _ rfl;have qd:=hQ4.r;obtain⟨ob,cnt5,hdel,hR5,hle5⟩:=hR4.drop d nN 0
    repeat(refine yB ?_;walk_nrm)
    rw[nZ] at hdel;have hk5:Kb (fun i=>i=b) w4 (setBlock w4 b ob):=by
     have hm4:=hR4.map;refine⟨rfl,rfl,rfl,by simp[setBlock],fun k _ hk=>?_⟩
     obtain⟨es,ck,he,_⟩:=hm4;exact heap_setBlock_other he ob hk
    have hx5:=hX4.same (hk5.block x hX4.lt hxb);have hKf:=hK4.trans hk5 (fun i hi=>.inl hi);have hle6:=hR5.left_eq;have hix:Hd (RO (setBlock w4 b ob) b w.heap.size (SN (fun e=>if e=d then none else ixk e)) (fun e=>(S e && !(e == d)) && !(e == d)) cnt5):=SM (by
     have e:AJ (SN ixk) d none=SN (fun e=>if e=d then none else ixk e):=by
      funext k;unfold AJ SN
      by_cases hk:k=d
      ·simp[hk]
      ·simp[hk]
     rw[← e];exact hR5)
    have hS2:Hd (∀ e,(((S e && !(e == d)) && !(e == d))=true→(if e=d then none else ixk e)=ix e)∧(((S e && !(e == d)) && !(e == d))=false→(if e=d then none else ixk e)=aO ix now e)):=SM (fun e=>by
     by_cases he:e=d
     ·subst he;refine⟨fun h=>by simp at h,fun _=>?_⟩
      rw[if_pos rfl];unfold aO;rw[hn,Option.filter_some,if_neg sO]
     ·rw[if_neg he];exact⟨fun h=>(hS.o e).1 (by rw[Bool.and_eq_true,Bool.and_eq_true] at h;exact h.1.1),fun h=>(hS.o e).2 (nI he (nI he h))⟩)
    refine et rfl rfl (fun K hK=>?_);go_simp;refine hK _ _ (fun _=>True) trivial (al ?_);clear hdel c0 qd hR5 hR4
    go_wp2
    go_roundw
    case rel=>exact⟨_,_,cnt5,_,rfl,hix.o,hx5,hS2,hKf⟩
    case measure=>rw[hle6,hle];omega
   ·have d1:decide ((n:Int) < now)=false:=decide_eq_false hlow;have hS2:Hd (∀ e,((S e && !(e == d))=true→ixk e=ix e)∧((S e && !(e == d))=false→ixk e=aO ix now e)):=SM (fun e=>⟨fun h=>(hS.o e).1 (by rw[Bool.and_eq_true] at h;exact h.1),fun h=>by
     by_cases he:e=d
     ·subst he;rw[hixd];unfold aO;rw[hn,Option.filter_some,if_pos (dt)]
     ·exact (hS.o e).2 (nI he h)⟩)
    go_wp2
    go_roundw
    case rel=>exact⟨ixk,_,cnt2,z,rfl,HR3.o,HX3.o,hS2,HK3.o⟩
    case measure=>rw[hle2,hle];exact hlt
end
section
def yN(a b:Int):Int:=if a < b then -1 else if b < a then 1 else 0
theorem C4(a:Int)(w:World):Calls prog 168 #[.int .i64 a] w fun e w'=>e = .returned (.bool false)∧w=w':=by
 go_in
 go_wp2
 go_ret
 exact⟨sm,rfl⟩
theorem FA(a b:Int)(w:World):Calls prog 114 #[.int .i64 a,.int .i64 b] w fun e w'=>e = .returned (.int .i64 (yN a b))∧w=w':=by
 go_in
 go_wp2_with fail
 refine (C4 a w).mono ?_;rintro _ _ ⟨rfl,rfl⟩
 go_wp2_with fail
 refine (C4 b w).mono ?_;rintro _ _ ⟨rfl,rfl⟩
 by_cases h1:a < b
 ·have d1:decide (a < b)=true:=decide_eq_true h1;have hc:Hd (yN a b = -1):=SM (if_pos h1);clear h1
  go_wp2
  go_ret
  exact⟨by rw[hc.o];rfl,rfl⟩
 ·have d1:decide (a < b)=false:=decide_eq_false h1
  by_cases h2:b < a
  ·have d2:decide (b < a)=true:=decide_eq_true h2;have hc:Hd (yN a b=1):=SM (by unfold yN;rw[if_neg h1,if_pos h2])
   clear h1 h2
   go_wp2
   go_ret
   exact⟨by rw[hc.o];rfl,rfl⟩
  ·have d2:decide (b < a)=false:=decide_eq_false h2;have hc:Hd (yN a b=0):=SM (by unfold yN;rw[if_neg h1,if_neg h2])
   clear h1 h2
   go_wp2
   go_ret
   exact⟨by rw[hc.o];rfl,rfl⟩
end
section
theorem nt{w:World}{ad:Option Addr}{n c:Nat}{l:List UInt8}(h:Bs w ad n c l):∃ s:ByteArray,(Extern.Bytes.bytesOf (.slice ad n c)).run prog w = .ok s w∧s.data.toList=l:=by
 rcases h.src with ⟨rfl,rfl,rfl,rfl⟩ | ⟨a,rfl,hc⟩
 ·exact⟨_,rfl,rfl⟩
 ·have hl:=h.1;subst hl;have h2:=Lib.run_loadBytesX (P:=prog) (w:=w) (l.map fun x=>(x.toNat:Int)) a .empty (fun j x hx=>by
   rw[List.getElem?_map] at hx;cases hq:l[j]? with
   | none=>rw[hq] at hx;cases hx
   | some y=>rw[hq] at hx;cases hx;exact hc j _ (by rw[List.getElem?_map,hq];rfl))
  rw[List.length_map] at h2;refine⟨_,h2,?_⟩;have e:Lib.bytesOf (l.map fun x=>(x.toNat:Int))=l:=by
   unfold Lib.bytesOf;rw[List.map_map]
   conv=>rhs;rw[← List.map_id l]
   apply List.map_congr_left
   intro x _;simp
  rw[e]
  show ((ByteArray.empty.data ++ l.toArray).toList)=l
  simp
theorem Qt(ad bd:Option Addr)(n m c c2:Nat)(l k:List UInt8)(w:World)(h:Bs w ad n c l)(h2:Bs w bd m c2 k):
  (Extern.BytealgCompare.compare #[.slice ad n c,.slice bd m c2]).run prog w = .ok (.int .i64 (Lib.compareBytes l k)) w:=by
 obtain⟨s,hs,rfl⟩:=nt h;obtain⟨t,ht,rfl⟩:=nt h2;change Sem.run prog (do pure (goInt (Extern.BytealgCompare.cmp (← Extern.Bytes.bytesOf (.slice ad n c)) (← Extern.Bytes.bytesOf (.slice bd m c2))))) w=_
 simp only[Sem.run_bind,Sem.run_pure,Result.andThen,hs,ht];rw[Lib.cmp_eq]
 rfl
set_option maxRecDepth 100000 in
theorem Fq(ad bd:Option Addr)(n m c c2:Nat)(l k:List UInt8)(w:World)(h:Bs w ad n c l)(h2:Bs w bd m c2 k):
  Calls prog 115 #[.slice ad n c,.slice bd m c2] w fun e w'=>e = .returned (.int .i64 (Lib.compareBytes l k))∧w=w':=by
 have hc:=Qt ad bd n m c c2 l k w h h2;have hx:(callFunc 169 #[.slice ad n c,.slice bd m c2]).run prog w=((Extern.BytealgCompare.compare #[.slice ad n c,.slice bd m c2]).run prog w).andThen fun v w'=>.ok (.value v) w':=by
  rw[run_callFunc_extern func169 kr kr kr (e:=Extern.BytealgCompare.compare) kr]
 rw[hc] at hx;simp only[Result.andThen] at hx;clear hc h h2;generalize Lib.compareBytes l k=z at *
 go_in
 go_wp2
 go_ret
 exact⟨rfl,rfl⟩
end
section
def BQ(a b:RQ):Int:=if yN a.2 b.2=0 then Lib.compareBytes a.1.toList b.1.toList else yN a.2 b.2
theorem Cd{w:World}{b:Nat}{d:RP}{x:Int}(h:readAt w b 0 33=some (ev d x)):Bs w (some ⟨b,0,none⟩) 32 32 d.toList:=by
 refine⟨sm,Nat.le_refl _,om,fun h=>(by cases h),fun _=>⟨b,0,rfl,?_⟩⟩
 rw[rZ h];refine congrArg some ?_
 apply Array.ext'
 simp[av,bv,Vector.toList]
theorem Gg(a b:RQ)(w:World):Calls prog 76 #[.agg (SK a),.agg (SK b)] w fun e w'=>e = .returned (.int .i64 (BQ a b))∧∃ q os',w'=Go.Sort.grow (w.drewN q) os':=by
 obtain⟨d,x⟩:=a;obtain⟨f,y⟩:=b
 show Calls prog _ #[.agg (ev d (x:Int)),.agg (ev f (y:Int))] w _
 have hA:=lx w d (x:Int);have hB:=lx (w.alloc (.cells (ev d (x:Int)) 89)) f (y:Int);have hA2:readAt ((w.alloc (.cells (ev d (x:Int)) 89)).alloc (.cells (ev f (y:Int)) 89)) w.heap.size 0 33=some (ev d (x:Int)):=by rw[b9 _ _ _ _ _ sm];exact hA
 rw[show (w.alloc (.cells (ev d (x:Int)) 89)).heap.size=w.heap.size+1 by simp] at hB
 have hb:∃ os',(w.alloc (.cells (ev d (x:Int)) 89)).alloc (.cells (ev f (y:Int)) 89)=Go.Sort.grow w os':=⟨_,by rw[Go.Sort.alloc_eq_grow,Go.Sort.alloc_eq_grow,Go.Sort.grow_grow]⟩
 obtain⟨R,hR⟩:=eY (BQ (d,x) (f,y));rw[hR];unfold BQ at hR;have HR:=SM hR;clear hR hA
 go_in
 go_upto_region 1 with fail
 generalize (w.alloc (.cells (ev d (x:Int)) 89)).alloc (.cells (ev f (y:Int)) 89)=w1 at *;have ca:w1.cell? ⟨w.heap.size,32,none⟩=some (.int .i64 x):=by have:=ab hA2 32 _ (qo d (x:Int));rwa [Nat.zero_add] at this
 have cb:w1.cell? ⟨w.heap.size+1,32,none⟩=some (.int .i64 y):=by have:=ab hB 32 _ (qo f (y:Int));rwa [Nat.zero_add] at this
 go_wp2_with fail
 refine (FA x y w1).mono ?_;rintro _ _ ⟨rfl,rfl⟩;obtain⟨z,hz⟩:=eY (yN x y);rw[hz] at HR ⊢;clear ca cb hz
 by_cases h0:z=0
 ·subst h0;have hr:=HR.o;rw[if_pos rfl] at hr;have Hr:=SM hr;clear hr HR;have s1:=fun u=>nC u w.heap.size 0;have s2:=fun u=>nC u (w.heap.size+1) 0
  go_wp2_with fail
  have B1:=Cd hA2;have B2:=Cd hB;have hb2:∃ q os',w1.drew=Go.Sort.grow (w.drewN q) os':=by obtain⟨os',e⟩:=hb;exact⟨1,os',by rw[e];rfl⟩
  have HB1:=SM (B1.below (Below.refl _ _).drew);have HB2:=SM (B2.below (Below.refl _ _).drew);refine yW (tk 0 4 (.brk 4 (.take 5 .done))) (fun u=>u=w1.drew) rfl ?_;generalize w1.drew=w2 at *
  repeat(refine yB ?_;walk_nrm)
  refine xa rfl rfl ?_;apply Exists.intro;apply Exists.intro;refine⟨?_,?_⟩;(go_simp;exact⟨rfl,rfl⟩);refine (Fq _ _ 32 32 32 32 d.toList f.toList w2 HB1.o HB2.o).mono ?_;rintro _ _ ⟨rfl,rfl⟩;rw[Hr.o];refine⟨_,rfl,fun _=>True,trivial,?_⟩
  repeat(refine yA ?_;walk_nrm)
  refine al ?_
  go_wp2
  go_ret
  exact⟨rfl,hb2⟩
 ·have hr:=HR.o;rw[if_neg h0] at hr;subst hr;have d1:(z != 0)=true:=bne_iff_ne.2 h0;clear HR
  go_wp2
  go_ret
  obtain⟨os',e⟩:=hb;exact⟨rfl,0,os',by rw[e];rfl⟩
end
section
open Go.RowKit Go.Shelf
theorem Pq(a b:UInt8):a < b∨a=b∨b < a:=by
 rcases Nat.lt_trichotomy a.toNat b.toNat with h | h | h
 ·exact .inl (UInt8.lt_iff_toNat_lt.2 h)
 ·exact .inr (.inl (UInt8.toNat_inj.1 h))
 ·exact .inr (.inr (UInt8.lt_iff_toNat_lt.2 h))
theorem BH:∀ {a b:List UInt8},Lib.compareBytes a b=0→a=b
 | [],[],_=>rfl
 | [],_ :: _,h=>by simp[Lib.compareBytes] at h
 | _ :: _,[],h=>by simp[Lib.compareBytes] at h
 | a :: as',b :: bs,h=>by
  unfold Lib.compareBytes at h
  split at h
  ·cases h
  ·split at h
   ·cases h
   ·rename_i h1 h2
    rcases Pq a b with h3 | h3 | h3
    ·exact absurd h3 h1
    ·rw[h3,BH h]
    ·exact absurd h3 h2
theorem BG:∀ a:List UInt8,Lib.compareBytes a a=0
 | []=>rfl
 | a :: as'=>by
  unfold Lib.compareBytes;have h : ¬ a < a:=by rw[UInt8.lt_iff_toNat_lt];omega
  rw[if_neg h,if_neg h,BG as']
theorem mz:∀ {a b c:List UInt8},Lib.compareBytes a b < 0→Lib.compareBytes b c < 0→Lib.compareBytes a c < 0
 | [],[],c,h,_=>by simp[Lib.compareBytes] at h
 | _ :: _,[],c,h,_=>by simp[Lib.compareBytes] at h
 | a,_ :: _,[],_,h=>by simp[Lib.compareBytes] at h
 | [],_ :: _,c :: cs,_,_=>by simp[Lib.compareBytes]
 | a :: as',b :: bs,c :: cs,h,k=>by
  unfold Lib.compareBytes at h k ⊢;simp only[UInt8.lt_iff_toNat_lt] at *
  by_cases h1:a.toNat < b.toNat
  ·by_cases h2:b.toNat < c.toNat
   ·rw[if_pos om];decide
   ·rw[if_neg h2] at k
    by_cases h3:c.toNat < b.toNat
    ·rw[if_pos h3] at k;cases k
    ·rw[if_pos om];decide
  ·rw[if_neg h1] at h
   by_cases h4:b.toNat < a.toNat
   ·rw[if_pos h4] at h;cases h
   ·rw[if_neg h4] at h
    by_cases h2:b.toNat < c.toNat
    ·rw[if_pos om];decide
    ·rw[if_neg h2] at k
     by_cases h3:c.toNat < b.toNat
     ·rw[if_pos h3] at k;cases k
     ·rw[if_neg h3] at k;rw[if_neg om,if_neg om];exact mz h k
theorem Je:∀ {a b:List UInt8},0 < Lib.compareBytes a b→Lib.compareBytes b a < 0
 | [],[],h=>by simp[Lib.compareBytes] at h
 | [],_ :: _,h=>by simp[Lib.compareBytes] at h
 | _ :: _,[],_=>by simp[Lib.compareBytes]
 | a :: as',b :: bs,h=>by
  unfold Lib.compareBytes at h ⊢
  by_cases h1:a < b
  ·rw[if_pos h1] at h;cases h
  ·rw[if_neg h1] at h
   by_cases h2:b < a
   ·rw[if_pos h2];decide
   ·rw[if_neg h2] at h;rw[if_neg h2,if_neg h1];exact Je h
theorem yP(x y:Int):(x < y∧yN x y = -1)∨(x=y∧yN x y=0)∨(y < x∧yN x y=1):=by
 unfold yN
 rcases Int.lt_trichotomy x y with h | h | h
 ·exact .inl ⟨h,by simp[h]⟩
 ·subst h;exact .inr (.inl ⟨rfl,sm⟩)
 ·exact .inr (.inr ⟨h,by rw[if_neg om,if_pos h]⟩)
def SZ(a b:RQ):Prop:=a.2 < b.2∨(a.2=b.2∧Lib.compareBytes a.1.toList b.1.toList < 0)
theorem iG(a b:RQ):ltOf BQ a b=true↔SZ a b:=by
 unfold ltOf BQ SZ;rw[decide_eq_true_iff]
 rcases yP a.2 b.2 with ⟨h,e⟩ | ⟨h,e⟩ | ⟨h,e⟩
 ·rw[e,if_neg dc];exact⟨fun _=>.inl om,fun _=>dc⟩
 ·rw[e,if_pos rfl];refine⟨fun k=>.inr ⟨om,k⟩,fun k=>?_⟩
  rcases k with k | k
  ·omega
  ·exact k.2
 ·rw[e,if_neg dc];refine⟨fun k=>(by cases k),fun k=>?_⟩
  rcases k with k | k <;> omega
theorem gG(a:RQ): ¬ SZ a a:=by
 rintro (h | ⟨_,h⟩)
 ·omega
 ·rw[BG] at h;cases h
theorem jO{a b c:RQ}(h:SZ a b)(k:SZ b c):SZ a c:=by
 rcases h with h | ⟨h,h2⟩ <;> rcases k with k | ⟨k,k2⟩
 ·exact .inl om
 ·exact .inl om
 ·exact .inl om
 ·exact .inr ⟨om,mz h2 k2⟩
theorem vg(a b:RQ):SZ a b∨a=b∨SZ b a:=by
 rcases Nat.lt_trichotomy a.2 b.2 with h | h | h
 ·exact .inl (.inl h)
 ·rcases Int.lt_trichotomy (Lib.compareBytes a.1.toList b.1.toList) 0 with k | k | k
  ·exact .inl (.inr ⟨h,k⟩)
  ·refine .inr (.inl (Prod.ext ?_ h));have:=BH k;exact Vector.toArray_inj.1 (Array.toList_inj.1 (by simpa [Vector.toList] using this))
  ·exact .inr (.inr (.inr ⟨h.symm,Je k⟩))
 ·exact .inr (.inr (.inl h))
theorem Rw:Sort.SWO (ltOf BQ) where
 irrefl x:=by
  cases h:ltOf BQ x x
  ·rfl
  ·exact absurd ((iG x x).1 h) (gG x)
 trans x y z h1 h2:=(iG x z).2 (jO ((iG x y).1 h1) ((iG y z).1 h2))
 ntrans x y z h1 h2:=by
  cases h:ltOf BQ x z
  ·rfl
  ·have h:=(iG x z).1 h;have n1 : ¬ SZ x y:=fun k=>by rw[(iG x y).2 k] at h1;cases h1
   have n2 : ¬ SZ y z:=fun k=>by rw[(iG y z).2 k] at h2;cases h2
   rcases vg x y with k | k | k
   ·exact absurd k n1
   ·subst k;exact absurd h n2
   ·exact absurd (jO k h) n2
structure ef (ix:RP→Option Nat) (now:Int) (L:List RQ):Prop where
 ord:L.Pairwise SZ
 mem:∀ e:RQ,e ∈ L↔ix e.1=some e.2∧now≤(e.2:Int)
theorem oY:∀ {L K:List RQ},L.Pairwise SZ→K.Pairwise SZ→(∀ e,e ∈ L↔e ∈ K)→L=K
 | [],[],_,_,_=>rfl
 | [],a :: _,_,_,h=>by have:=(h a).2 sm;cases this
 | a :: _,[],_,_,h=>by have:=(h a).1 sm;cases this
 | a :: L,b :: K,h1,h2,h=>by
  rw[List.pairwise_cons] at h1 h2;have hab:a=b:=by
   rcases List.mem_cons.1 ((h a).1 sm) with e | e
   ·exact e
   ·rcases List.mem_cons.1 ((h b).2 sm) with e2 | e2
    ·exact e2.symm
    ·exact absurd (jO (h1.1 b e2) (h2.1 a e)) (gG a)
  subst hab;rw[oY h1.2 h2.2 (fun e=>⟨fun he=>by
   rcases List.mem_cons.1 ((h e).1 (List.mem_cons_of_mem _ he)) with k | k
   ·subst k;exact absurd (h1.1 _ he) (gG _)
   ·exact k,fun he=>by
   rcases List.mem_cons.1 ((h e).2 (List.mem_cons_of_mem _ he)) with k | k
   ·subst k;exact absurd (h2.1 _ he) (gG _)
   ·exact k⟩)]
theorem ef.unique{ix:RP→Option Nat}{now:Int}{L K:List RQ}(h:ef ix now L)(k:ef ix now K):L=K :=
 oY h.ord k.ord (fun e=>by rw[h.mem,k.mem])
open Classical in
noncomputable def cy(ix:RP→Option Nat)(now:Int):List RQ:=if h:∃ L,ef ix now L then h.choose else []
theorem ef.eq{ix:RP→Option Nat}{now:Int}{L:List RQ}(h:ef ix now L):cy ix now=L:=by
 have hx:∃ L,ef ix now L:=⟨L,h⟩;unfold cy;rw[dif_pos hx];exact hx.choose_spec.unique h
theorem vW{d d':Array RQ}(hp:Sort.PermIn 0 d.size d d')(hs:Sort.SortedIn (ltOf BQ) 0 d.size d')(hn:d.toList.Nodup):d'.toList.Pairwise SZ∧(∀ e,e ∈ d'.toList↔e ∈ d.toList)∧d'.size=d.size:=by
 obtain⟨h1,h2,h3⟩:=hp;have e1:d.extract 0 d.size=d:=sm;have e2:d'.extract 0 d.size=d':=by rw[← h1];simp
 rw[e1,e2] at h3;refine⟨?_,fun e=>h3.mem_iff,h1⟩;rw[List.pairwise_iff_getElem];intro i j hi hj hij;have hi':i < d'.size:=by simpa using hi
 have hj':j < d'.size:=by simpa using hj
 have hs2:=hs i j (Nat.zero_le _) hij om;rw[getElem!_pos d' i hi',getElem!_pos d' j hj'] at hs2;have n1 : ¬ SZ d'[j] d'[i]:=fun k=>by rw[(iG _ _).2 k] at hs2;cases hs2
 have hne:d'[i]≠d'[j]:=fun e=>by
  have hnd:=h3.nodup_iff.2 hn;exact List.pairwise_iff_getElem.1 hnd i j hi hj hij (by simpa using e)
 rcases vg d'[i] d'[j] with k | k | k
 ·simpa using k
 ·exact absurd k hne
 ·exact absurd k n1
end
section
open Go.RowKit Go.Shelf Go.Sort
theorem KY(w:World):(isAgg 89).run prog w = .ok true w:=kr
theorem Iv(w:World):(Go.sizeOf 89).run prog w = .ok 33 w:=kr
def lw(e:RQ):List Value:=(SK e).toList
theorem xl(e:RQ):(lw e).length=33:=by unfold lw;rw[Array.length_toList];exact eL e
theorem FV(e:RQ):∀ v ∈ lw e,v.oneCell'=true:=fun v hv=>xo _ _ v (Array.mem_toList_iff.1 hv)
theorem BR(blk off size:Nat)(w:World):CmpLays prog 76 #[] lw 33 BQ blk off size w:=by
 intro m os dk hs x y;have:=Gg x y (sortWorldK lw 33 w blk off m dk os)
 simpa [lw] using this
theorem Cs(L:List RQ)(t:Nat)(ht:t < L.length * 33):(aZ SK L)[t]? = (lw (L[t / 33]'om))[t % 33]?:=by
 have h1:=dC SK 33 eL L (t / 33) om;have hlen:=bH SK 33 eL L;have h2:((aZ SK L).toArray.extract (t / 33 * 33) (t / 33 * 33+33))[t % 33]? = (SK (L[t / 33]'om))[t % 33]?:=by rw[h1]
 rw[cO _ _ _ _ (by simp only[List.size_toArray,hlen];omega),if_pos om] at h2
 rw[show t / 33 * 33+t % 33=t by omega] at h2
 simpa [lw] using h2
theorem xr(d:Array RQ):flatK lw 33 d=(aZ SK d.toList).toArray:=by
 have hlen:=bH SK 33 eL d.toList
 apply Array.ext
 ·simp only[size_flatK,List.size_toArray,hlen,Array.length_toList]
 ·intro t h1 h2;have h1':t < d.size * 33:=by simpa using h1
  have h3:=get_flatK lw 33 d t h1';rw[getElem!_pos (flatK lw 33 d) t h1] at h3;have hd:t / 33 < d.size:=om;have h4:=Cs d.toList t (by simpa using h1')
  have h5:(lw (d.toList[t / 33]'(by simpa using hd)))=lw d[t / 33]:=sm
  rw[h5] at h4;rw[h3,getElem!_pos d _ hd];have h6:t % 33 < (lw d[t / 33]).length:=by rw[xl];omega
  rw[getElem!_pos (lw d[t / 33]) _ h6];have h7:(aZ SK d.toList)[t]? = some (lw d[t / 33])[t % 33]:=by rw[h4];exact List.getElem?_eq_getElem h6
  have h8:=(List.getElem?_eq_some_iff.1 h7).2
  simpa using h8.symm
theorem Cv{W:World}{base E n g cap:Nat}{es:List RQ}(h:W.ownsRow base E 33 (.slice (some ⟨g,0,none⟩) n cap) n (aZ SK es))(hn:es.length=n):HoldsK lw 33 W g 0 es.toArray:=by
 have hlen:=bH SK 33 eL es;unfold HoldsK Holds;rw[xr]
 rcases h.2 with ⟨h1,_⟩ | ⟨g',cap',cur,h1,h2,h3,h4,h5,h6,h7⟩
 ·cases h1
 ·simp only[Value.slice.injEq,Option.some.injEq,Addr.mk.injEq,true_and,and_true] at h1;obtain⟨rfl,rfl⟩:=h1;intro j hj;have hj':j < n * 33:=by simpa [hlen,hn] using hj
  rw[getElem!_pos (aZ SK es).toArray j hj];have hx:(aZ SK es)[j]? = cur.toList[j]?:=by rw[← h7,List.getElem?_take_of_lt hj']
  have hj2:j < (aZ SK es).length:=by simpa using hj
  rw[List.getElem?_eq_getElem hj2] at hx;refine⟨?_,?_⟩
  ·simp only[World.cell?,h3,Nat.zero_add];have:cur[j]? = some ((aZ SK es)[j]):=by simpa using hx.symm
   simpa [id] using this
  ·simp[World.frozen?,h3]
theorem zC{W:World}{base E n g cap q:Nat}{es:List RQ}{d':Array RQ}{os:Array Obj}(h:W.ownsRow base E 33 (.slice (some ⟨g,0,none⟩) n cap) n (aZ SK es))(hn:es.length=n)(hd:d'.size=n):
  (sortWorldK lw 33 W g 0 q d' os).ownsRow base E 33 (.slice (some ⟨g,0,none⟩) n cap) n (aZ SK d'.toList)∧W.grownBy (sortWorldK lw 33 W g 0 q d' os) (some g):=by
 have hlen:=bH SK 33 eL d'.toList
 rcases h.2 with ⟨h1,_⟩ | ⟨g',cap',cur,h1,h2,h3,h4,h5,h6,h7⟩
 ·cases h1
 ·simp only[Value.slice.injEq,Option.some.injEq,Addr.mk.injEq,true_and,and_true] at h1;obtain⟨rfl,rfl⟩:=h1;have hg:=(Array.getElem?_eq_some_iff.1 h3).1;have hsz:(sortWorldK lw 33 W g 0 q d' os).heap.size=W.heap.size+os.size:=by
   unfold sortWorldK putRowK;simp[grow,Go.Sort.ahead]
  have hk:∀ k,k < W.heap.size→(sortWorldK lw 33 W g 0 q d' os).heap[k]? = (putRowK lw 33 (Go.Sort.ahead W q) g 0 d').heap[k]?:=by
   intro k hk;unfold sortWorldK grow;simp only;rw[Array.getElem?_append_left (by unfold putRowK;simpa [Go.Sort.ahead] using hk)]
  have hb:(sortWorldK lw 33 W g 0 q d' os).heap[g]? = some (.cells (putCells id 0 (flatK lw 33 d') cur) E (0,0)):=by
   rw[hk g hg];unfold putRowK putRow mapBlock;simp only[Go.Sort.ahead];rw[Array.getElem?_modify];simp[h3,onCells]
  refine⟨⟨by rw[hlen];simp[hd],.inr ⟨g,cap,_,rfl,h2,hb,h4,h5,?_,?_⟩⟩,rfl,rfl,rfl,by rw[hsz];omega,fun k hk' hne=>?_⟩
  ·unfold putCells;simp[h6]
  ·rw[xr]
   apply List.ext_getElem?
   intro i
   by_cases hi:i < n * 33
   ·have hi2:i < cur.size:=by rw[h6];have:=Nat.mul_le_mul_right 33 h4;omega
    have hi3:i < (aZ SK d'.toList).length:=by rw[hlen];simpa [hd] using hi
    rw[List.getElem?_take_of_lt hi,List.getElem?_eq_getElem hi3];unfold putCells;simp only[Array.getElem?_toList,Array.getElem?_mapIdx,Array.getElem?_eq_getElem hi2,Option.map_some,Nat.zero_le,Nat.zero_add,true_and,List.size_toArray,if_pos hi3,Nat.sub_zero,id];rw[getElem!_pos (aZ SK d'.toList).toArray i (by simpa using hi3)]
    simp
   ·rw[List.getElem?_eq_none (by rw[List.length_take];omega),List.getElem?_eq_none (by rw[hlen];simp[hd];omega)]
  ·rw[hk k hk'];unfold putRowK putRow mapBlock;simp only[Go.Sort.ahead];rw[Array.getElem?_modify,if_neg (fun e=>hne (by rw[e]))]
def Tryz.sortE_ren:Ren:=⟨fun | 6=>75 | 15=>113 | 14=>112 | 28=>166 | 29=>167 | 20=>158 | 21=>159 | 22=>160 | 23=>161 | 24=>162 | 25=>163 | 26=>164 | 27=>165 | 46=>198 | 47=>199 | 48=>200 | 49=>201 | 50=>202 | 57=>221 | n=>n,fun | 22=>50 | 24=>89 | 25=>151 | 3=>3 | 39=>207 | 0=>0 | 53=>56 | 55=>195 | 4=>4 | 46=>260 | 45=>259 | 50=>264 | 5=>5 | 9=>9 | 66=>304 | 70=>308 | 76=>323 | 77=>324 | n=>n,fun | n=>n⟩
theorem Tryz.sortE:SlLaysF0.n6 prog Tryz.sortE_ren:={
 mixed:=kr
 f6:=⟨Tryz.f75.name,dc,func75.trans (congrArg some kr)⟩
 f14:=⟨Tryz.f112.name,dc,func112.trans (congrArg some kr)⟩
 f15:=func113.trans (congrArg some kr)
 f20:=⟨Tryz.f158.name,dc,func158.trans (congrArg some kr)⟩
 f21:=⟨Tryz.f159.name,dc,func159.trans (congrArg some kr)⟩
 f22:=⟨Tryz.f160.name,dc,func160.trans (congrArg some kr)⟩
 f23:=⟨Tryz.f161.name,dc,func161.trans (congrArg some kr)⟩
 f24:=⟨Tryz.f162.name,dc,func162.trans (congrArg some kr)⟩
 f25:=⟨Tryz.f163.name,dc,func163.trans (congrArg some kr)⟩
 f26:=⟨Tryz.f164.name,dc,func164.trans (congrArg some kr)⟩
 f27:=⟨Tryz.f165.name,dc,func165.trans (congrArg some kr)⟩
 f28:=func166.trans (congrArg some kr)
 f29:=func167.trans (congrArg some kr)
 f46:=⟨Tryz.f198.name,dc,func198.trans (congrArg some kr)⟩
 f47:=func199.trans (congrArg some kr)
 f48:=func200.trans (congrArg some kr)
 f49:=⟨Tryz.f201.name,dc,func201.trans (congrArg some kr)⟩
 f50:=⟨Tryz.f202.name,dc,func202.trans (congrArg some kr)⟩
 f57:=⟨Tryz.f221.name,dc,func221.trans (congrArg some kr)⟩
 t0:=underlying0
 a0:=Tryz.isAgg0
 z0:=Tryz.sizeOf0
 v0:=Tryz.zeroValue0
 t3:=underlying3
 a3:=Tryz.isAgg3
 z3:=Tryz.sizeOf3
 v3:=Tryz.zeroValue3
 t4:=underlying4
 a4:=Tryz.isAgg4
 z4:=Tryz.sizeOf4
 v4:=Tryz.zeroValue4
 t5:=underlying5
 a5:=Tryz.isAgg5
 z5:=Tryz.sizeOf5
 v5:=Tryz.zeroValue5
 t9:=underlying9
 a9:=Tryz.isAgg9
 z9:=Tryz.sizeOf9
 v9:=Tryz.zeroValue9
 t22:=underlying50
 a22:=Tryz.isAgg50
 z22:=Tryz.sizeOf50
 v22:=Tryz.zeroValue50
 t25:=underlying151
 a25:=Tryz.isAgg151
 z25:=Tryz.sizeOf151
 v25:=Tryz.zeroValue151
 t39:=underlying207
 a39:=Tryz.isAgg207
 z39:=Tryz.sizeOf207
 v39:=Tryz.zeroValue207
 t45:=underlying259
 a45:=Tryz.isAgg259
 z45:=Tryz.sizeOf259
 v45:=Tryz.zeroValue259
 t46:=underlying260
 a46:=Tryz.isAgg260
 z46:=Tryz.sizeOf260
 v46:=Tryz.zeroValue260
 t50:=underlying264
 a50:=Tryz.isAgg264
 z50:=Tryz.sizeOf264
 v50:=Tryz.zeroValue264
 t53:=underlying56
 a53:=Tryz.isAgg56
 z53:=Tryz.sizeOf56
 v53:=Tryz.zeroValue56
 t55:=underlying195
 a55:=Tryz.isAgg195
 z55:=Tryz.sizeOf195
 v55:=Tryz.zeroValue195
 t66:=underlying304
 a66:=Tryz.isAgg304
 z66:=Tryz.sizeOf304
 v66:=Tryz.zeroValue304
 t70:=underlying308
 a70:=Tryz.isAgg308
 z70:=Tryz.sizeOf308
 v70:=Tryz.zeroValue308
 t76:=underlying323
 a76:=Tryz.isAgg323
 z76:=Tryz.sizeOf323
 v76:=Tryz.zeroValue323
 t77:=underlying324
 a77:=Tryz.isAgg324
 z77:=Tryz.sizeOf324
 v77:=Tryz.zeroValue324 }
theorem y8:∀ args w,(callFunc 76 args).run prog w = .ok (.enter 76 args) w:=enters_of func76 kr rfl
theorem Iw(base E n:Nat)(v:Value)(es:List RQ)(w:World)(h:w.ownsRow base E 33 v n (aZ SK es))(hn:es.length=n)(h5:n≤5000)(hnd:es.Nodup):
  Calls prog 75 #[v,.func (.func 76) #[] #[]] w fun e w'=>e = .returned (.tuple #[]) ∧
   ∃ L:List RQ,L.length=n∧L.Pairwise SZ∧(∀ x,x ∈ L↔x ∈ es)∧w'.ownsRow base E 33 v n (aZ SK L)∧w.grownBy w' v.ownBlock:=by
 rcases h.2 with ⟨rfl,rfl⟩ | ⟨g,cap,cur,rfl,hrest⟩
 ·obtain rfl:es=[]:=List.eq_nil_of_length_eq_zero hn;have hc:=AnyF.slices_SortFunc_none Tryz.sortE none 0 (.func (.func 76) #[] #[]) w;refine hc.mono ?_;rintro _ _ ⟨rfl,rfl⟩;exact⟨rfl,[],rfl,.nil,fun _=>Iff.rfl,h,rfl,rfl,rfl,Nat.le_refl _,fun _ _ _=>rfl⟩
 ·have hg:=(Array.getElem?_eq_some_iff.1 hrest.2.1).1;have hsz:es.toArray.size=n:=by simpa using hn
  have hH:=Cv h hn;have hc:=AnyQ.slices_SortFunc Tryz.sortE 33 KY Iv lw xl FV BQ Rw 76 #[] g 0 cap es.toArray w y8 (BR g 0 es.toArray.size w) hH hg (by rw[hsz];omega)
  rw[hsz] at hc;refine hc.mono ?_;rintro _ _ ⟨rfl,d',q,os,hp,hs,rfl⟩;rw[← hsz] at hp hs;obtain⟨ho,hm,hsz'⟩:=vW hp hs (by simpa using hnd)
  obtain⟨h1,h2⟩:=zC (q:=q) (os:=os) h hn (hsz'.trans hsz);exact⟨rfl,d'.toList,by rw[Array.length_toList,hsz',hsz],ho,fun x=>by simpa using hm x,h1,h2⟩
end
section
open Go.RowKit Go.ChangeMaps
structure RZ (ix:RP→Option Nat) (now:Int) (K:List RP) (S:RP→Bool) (es:List RQ):Prop where
 mem:∀ e:RQ,e ∈ es↔ix e.1=some e.2∧now≤(e.2:Int)∧S e.1=false
 nd:(es.map Prod.fst).Nodup
theorem xJ{α:Type}{K:List α}: ∀ {D:List α},D.Nodup→(∀ d ∈ D,d ∈ K)→D.length≤K.length:=fun hd hs=>hd.length_le_of_subset hs
theorem RZ.len{ix:RP→Option Nat}{now:Int}{K:List RP}{S:RP→Bool}{es:List RQ}(h:RZ ix now K S es)(hK:∀ d,ix d≠none→d ∈ K):es.length≤K.length:=by
 have:=xJ (K:=K) h.nd (fun d hd=>by
  obtain⟨e,he,rfl⟩:=List.mem_map.1 hd;refine hK _ ?_;rw[((h.mem e).1 he).1];simp)
 simpa using this
theorem RZ.nodup{ix:RP→Option Nat}{now:Int}{K:List RP}{S:RP→Bool}{es:List RQ}(h:RZ ix now K S es):es.Nodup:=List.Pairwise.of_map Prod.fst (fun a b hab e=>hab (by rw[e])) h.nd
theorem RZ.skip{ix:RP→Option Nat}{now:Int}{K:List RP}{S:RP→Bool}{es:List RQ}(h:RZ ix now K S es){d:RP}{n:Nat}(hd:ix d=some n)(hl:(n:Int) < now):RZ ix now K (fun e=>S e && !(e == d)) es:=by
 refine⟨fun e=>?_,h.nd⟩;rw[h.mem]
 by_cases he:e.1=d
 ·constructor
  ·rintro ⟨a,b,c⟩;exfalso;rw[he,hd] at a;cases a;omega
  ·rintro ⟨a,b,c⟩;exfalso;rw[he,hd] at a;cases a;omega
 ·have h1:(e.1 == d)=false:=by simpa using he
  simp[h1]
theorem RZ.take{ix:RP→Option Nat}{now:Int}{K:List RP}{S:RP→Bool}{es:List RQ}(h:RZ ix now K S es){d:RP}{n:Nat}(hd:ix d=some n)(hs:S d=true)(hl:now≤(n:Int)):RZ ix now K (fun e=>S e && !(e == d)) (es ++ [(d,n)]):=by
 refine⟨fun e=>?_,?_⟩
 ·rw[List.mem_append,h.mem,List.mem_singleton]
  by_cases he:e.1=d
  ·constructor
   ·rintro (⟨a,b,c⟩ | rfl)
    ·exfalso;rw[he,hs] at c;cases c
    ·exact⟨hd,hl,sm⟩
   ·rintro ⟨a,b,c⟩;refine .inr (Prod.ext he ?_);rw[he,hd] at a;cases a;rfl
  ·have h1:(e.1 == d)=false:=by simpa using he
   have h2:e≠(d,n):=fun hx=>he (by rw[hx])
   simp[h1,h2]
 ·rw[List.map_append,List.map_singleton,List.nodup_append];refine⟨h.nd,sm,?_⟩;rintro a ha b hb rfl;obtain rfl:a=d:=by simpa using hb
  obtain⟨e,he,h1⟩:=List.mem_map.1 ha;have:=((h.mem e).1 he).2.2;rw[h1,hs] at this;cases this
@[go_sem] theorem JR(w:World)(d:RP)(x:Int):(wJ #[(0,.agg (fw B8 d)),(1,.int .i64 x)]).run prog w = .ok (.agg (ev d x)) w:=by rw[← nZ];exact vM w d x
theorem su(x b:Nat)(ix:RP→Option Nat)(now:Int)(K:List RP)(w:World)(h:iu w x b ix)(hK:∀ d,ix d≠none→d ∈ K)(hn:K.length≤5000):
  Calls prog 53 #[.pointer (some ⟨x,0,none⟩),.int .i64 now] w fun e w'=>(∃ v,e = .returned v∧w'.ownsRow w.heap.size 89 33 v (cy ix now).length (aZ SK (cy ix now))∧ef ix now (cy ix now))∧Below w.heap.size w w':=by
 have H:=SM h;have HK:=SM hK;have hxb:=Gp h;have hblt:=h.m.lt;have c0:w.cell? ⟨x,0,none⟩=some (.map (some b)):=h.s.cell 0 _ rfl;obtain⟨w1,cnt,hrun,hR,hb1,hs1⟩:=h.m.range nN;clear h hK
 go_in
 go_wp2_with fail
 have HR:=SM hR;have Hb1:=SM hb1;have hz1:=hs1;clear hrun hR hb1 c0 hs1
 go_loopw [5] (fun dr wr=>∃ (S:RP→Bool) (cnt:Nat) (es:List RQ) (v0:Value),v0=dr∧RO wr b w.heap.size (SN ix) S cnt∧wr.ownsRow (w.heap.size+1) 89 33 v0 es.length (aZ SK es)∧Hd (RZ ix now K S es)∧Below w.heap.size w wr) (fun _ wr=>wr.rangeLeft b w.heap.size)
 case atStart=>exact⟨_,cnt,[],_,rfl,HR.o,World.ownsRow_nil _ _ _ _,⟨fun e=>⟨fun h=>(by cases h),fun ⟨a,_,c⟩=>by simp[SN,a] at c⟩,.nil⟩,Hb1.o⟩
 case round =>
  clear HR Hb1;obtain⟨S,cnt,es,v0,hv0,hR,hown,hS,hbw⟩:=hrel;subst hv0;have Hown:=SM hown;have Hbw:=SM hbw;have hle:=hR.left_eq;have hz:=hbw.size;have hlen:=hS.o.len HK.o;clear hbw hown
  rcases hR.next 0 with ⟨h0,hno,hrun⟩ | ⟨d,v,w2,cnt2,hMd,hSd,hrun,hR2,hlt,hg2,hz2,hent⟩
  ·have hmem:∀ e:RQ,e ∈ es↔ix e.1=some e.2∧now≤(e.2:Int):=fun e=>by rw[hS.o.mem,hno];simp
   have Hmem:=SM hmem;clear hmem hno hR
   go_wp2_with fail
   refine (Iw (w.heap.size+1) 89 es.length v0 es wr Hown.o rfl om hS.o.nodup).mono ?_;rintro _ w3 ⟨rfl,L,hL1,hL2,hL3,hL4,hL5⟩;have hlive:ef ix now L:=⟨hL2,fun e=>(hL3 e).trans (Hmem.o e)⟩;have heq:=hlive.eq;rw[← hL1] at hL4;rw[← heq] at hlive hL4;have Hl:=SM hlive;have Ho:=SM hL4;have Hg:=SM hL5;clear hlive hL4 hL5 heq hL1 hL2 hL3
   go_wp2
   go_ret
   exact⟨⟨_,rfl,bj Ho.o om,Hl.o⟩,Hbw.o.grown Hg.o hz (fun r e=>by have:=(Hown.o.lt r e).1;omega)⟩
  ·obtain⟨n,hn',rfl⟩ : ∃ n:Nat,ix d=some n∧v = .int .i64 n:=by
    unfold SN at hMd;cases hq:ix d with
    | none=>rw[hq] at hMd;cases hMd
    | some n=>rw[hq] at hMd;exact⟨n,rfl,by simpa using hMd.symm⟩
   rw[nZ] at hent hrun;have hbg:=(Below.refl w.heap.size wr).grown hg2 hz (fun r e=>by cases e;exact Nat.le_refl _)
   have hb3:=ba (.cells (fw B8 d) 36) (Sy w2);have hbr:b < w2.heap.size:=om;have hR3:=hR2.same (hb3.block b hbr) (hb3.block w.heap.size (by have:=hR2.lt;exact this))
   have hown2:=ah (bu Hown.o (fun g hg hl=>hg2.block g hl (fun e=>by have:=(Hown.o.lt g hg).1;cases e;omega))) hb3
   have hq3:=Row.made (f:=B8) w2 36 d;rw[hz2] at hq3;have qd:=hq3.r;have hk3:=(Hbw.o.trans hbg).trans (hb3.mono om);have HR3:=SM hR3;have HO3:=SM hown2;have HK3:=SM hk3;have hz3:(w2.alloc (.cells (fw B8 d) 36)).heap.size=w2.heap.size+1:=sm;have hle2:=hR3.left_eq;clear hR hR2 hMd hg2 hbg hb3 hR3 hown2 hk3
   by_cases hlow:now≤(n:Int)
   ·have d1:decide (now≤(n:Int))=true:=decide_eq_true hlow;have hS2:=SM (hS.o.take hn' hSd hlow);have hlen2:=hS2.o.len HK.o;obtain⟨i0,hi,hz0,hsz0,hby⟩:=info_parts tU
    go_upto_region 8 with fail
    clear hrun hent;generalize w2.alloc (.cells (fw B8 d) 36)=w3 at *;have hE4:=lx w3 d (n:Int);have hb4:=ba (.cells (ev d (n:Int)) 89) (Sy w3);have hown4:=ah HO3.o hb4;have hsrc:∀ j u,(ev d (n:Int)).toList[j]? = some u→(w3.alloc (.cells (ev d (n:Int)) 89)).cell? ((⟨w3.heap.size,0,none⟩ : Addr).add j)=some u:=fv (n:=33) hE4;rw[hz3,hz2] at hsrc;have HO4:=SM hown4;have HS4:=SM hsrc;have Hb4:=SM hb4
    clear hE4 hb4 hown4 hsrc
    go_wp2_with (at_builtin;refine wpList_append_own _ rfl _ _ 50 rfl (w.heap.size+1) 89 i0 _ 33 40 underlying50 hi hz0 hsz0 hby (by simp[Value.cells]) dc _ es.length _ rfl HO4.o ⟨wr.heap.size+1,0,none⟩ 1 1 (ev d (n:Int)).toList rfl ?c1 HS4.o ?c3 ?c4 ?c5 ?c6 ?_)
    case c1=>simp
    case c3=>intro u hu;exact xo _ _ u (Array.mem_toList_iff.1 hu)
    case c4=>simp only[maxLen];omega
    case c5=>omega
    case c6=>simp;omega
    intro v' W4 hown hgr hnil;have hR4:RO W4 b w.heap.size (SN ix) (fun e=>S e && !(e == d)) cnt2:=by
     have hvr:∀ r,v0.ownBlock=some r→w.heap.size+1≤r:=fun r e=>(HO4.o.lt r e).1;have h1:∀ k,k < w3.heap.size→k≤w.heap.size→W4.heap[k]? = w3.heap[k]?:=fun k hk hk2=>(hgr.block k sO (fun e=>by have:=hvr k e.symm;omega)).trans (Hb4.o.block k hk)
     exact HR3.o.same (h1 b om om) (h1 w.heap.size om (Nat.le_refl _))
    have hk4:Below w.heap.size w W4:=((HK3.o.trans (Hb4.o.mono om))).grown hgr sO (fun r e=>by have:=(HO4.o.lt r e).1;omega)
    have hle4:=hR4.left_eq;have HO5:Hd (W4.ownsRow (w.heap.size+1) 89 33 v' (es ++ [(d,n)]).length (aZ SK (es ++ [(d,n)]))):=by
     show World.ownsRow _ _ _ _ _ _ _
     rw[iB,List.length_append];exact hown
    have HR4:=SM hR4;have Hk4:=SM hk4;clear hown hgr hnil hR4 hk4 HO4 HS4 Hb4 HR3 HO3 HK3
    go_wp2
    go_roundw
    case rel=>exact⟨_,cnt2,_,_,rfl,HR4.o,HO5.o,hS2,Hk4.o⟩
    case measure=>rw[hle4,hle];exact hlt
   ·have d1:decide (now≤(n:Int))=false:=decide_eq_false hlow;have hS2:=SM (hS.o.skip hn' om)
    go_wp2
    go_roundw
    case rel=>exact⟨_,cnt2,es,_,rfl,HR3.o,HO3.o,hS2,HK3.o⟩
    case measure=>rw[hle2,hle];exact hlt
end
section
structure CM where
 M:LM
 ix:RP→Option Nat
 til:Int
def Na(c:Int):Int:=if c=12 then 0 else 9
noncomputable def compactC(D:DM)(c:CM)(now:Int):DM × CM × Int :=
 if (rewriteL D c.M (cy c.ix now)).2.2=0 then ((rewriteL D c.M (cy c.ix now)).1,{ M:=(rewriteL D c.M (cy c.ix now)).2.1,ix:=aO c.ix now,til:=c.til },0)
 else ((rewriteL D c.M (cy c.ix now)).1,{ c with M:=(rewriteL D c.M (cy c.ix now)).2.1 },(rewriteL D c.M (cy c.ix now)).2.2)
def putC(D:DM)(c:CM)(d:RP)(x:Nat):DM × CM × Int :=
 if (appendL D c.M d x).2.2=0 then ((appendL D c.M d x).1,{ M:=(appendL D c.M d x).2.1,ix:=(oh c.ix d x).1,til:=c.til },10)
 else ((appendL D c.M d x).1,{ c with M:=(appendL D c.M d x).2.1 },Na (appendL D c.M d x).2.2)
def Ge(c:CM)(d:RP)(now:Int):Bool:=(c.ix d).any fun n=>decide (now≤(n:Int))
noncomputable def insertC(D:DM)(c:CM)(d:RP)(x:Nat)(now:Int):DM × CM × Int :=
 if Ge c d now=true then (D,c,8) else
 if c.M.broken=true∨4611686018427387904 < x then (D,c,9) else
 if (c.M.count:Int) < bp c.M.half then putC D c d x else
 if (compactC D c now).2.2=0 then
  (if ((compactC D c now).2.1.M.count:Int) < bp (compactC D c now).2.1.M.half then putC (compactC D c now).1 (compactC D c now).2.1 d x else ((compactC D c now).1,(compactC D c now).2.1,9))
 else ((compactC D c now).1,(compactC D c now).2.1,Na (compactC D c now).2.2)
def openC(D:DM)(n:Nat)(skew now:Int):DM × Except Int CM :=
 match (openD D n).2 with
 | .error c=>((openD D n).1,.error c)
 | .ok (M,es)=>((openD D n).1,.ok { M:=M,ix:=aO (gR es) now,til:=now+skew })
structure CI (n:Nat) (c:CM):Prop where
 half:c.M.half=n / 2
 ok:Fc c.M
 room:(c.M.count:Int)≤bp c.M.half
 keys:∃ K:List RP,K.length≤c.M.count∧∀ d,c.ix d≠none→d ∈ K
 exp:∀ d x,c.ix d=some x→x≤4611686018427387904
theorem jM{ix:RP→Option Nat}{now:Int}{L:List RQ}{K:List RP}(h:ef ix now L)(hK:∀ d,ix d≠none→d ∈ K):L.length≤K.length:=by
 have hnd:(L.map Prod.fst).Nodup:=by
  have hp:L.Nodup:=h.ord.imp (fun {a b} hab e=>by subst e;exact gG _ hab)
  have:∀ l:List RQ,(∀ e ∈ l,ix e.1=some e.2)→l.Nodup→(l.map Prod.fst).Nodup:=by
   intro l
   induction l with
   | nil=>intro _ _;exact .nil
   | cons a l ih =>
    intro hm hn;rw[List.nodup_cons] at hn;rw[List.map_cons,List.nodup_cons];refine⟨fun hx=>?_,ih (fun e he=>hm e (List.mem_cons_of_mem _ he)) hn.2⟩;obtain⟨e,he,h1⟩:=List.mem_map.1 hx;have h2:=hm e (List.mem_cons_of_mem _ he);have h3:=hm a sm;rw[h1,h3] at h2;have:a=e:=Prod.ext h1.symm (by simpa using h2)
    subst this;exact hn.1 he
  exact this L (fun e he=>((h.mem e).1 he).1) hp
 have:=xJ (K:=K) hnd (fun d hd=>by
  obtain⟨e,he,rfl⟩:=List.mem_map.1 hd;refine hK _ ?_;rw[((h.mem e).1 he).1];simp)
 simpa using this
structure CP where
 C:Nat
 l:Nat
 x:Nat
 b:Nat
def SD(q:CP)(til:Int):Array Value:=#[.pointer (some ⟨q.l,0,none⟩),.pointer (some ⟨q.x,0,none⟩),.int .i64 til]
def CX(p:DP)(q:CP)(i:Nat):Prop:=p.has i∨i=q.l∨i=q.b
structure Rj (base:Nat) (p:DP) (q:CP):Prop where
 c : ¬ p.has q.C∧¬ p.has q.l∧¬ p.has q.x∧¬ p.has q.b
 d:q.C≠q.l∧q.C≠q.x∧q.C≠q.b∧q.l≠q.x∧q.l≠q.b
 lo:base≤q.C∧base≤q.l∧base≤q.x∧base≤q.b
structure RJ (w:World) (base:Nat) (p:DP) (q:CP) (n:Nat) (D:DM) (c:CM):Prop where
 D:RM w base p n D
 ok:Rj base p q
 C:Bk w q.C (SD q c.til)
 L:Bk w q.l (SX p.B c.M)
 I:iu w q.x q.b c.ix
def bF(w:World)(base:Nat)(p:DP)(q:CP)(n:Nat)(D:DM)(c:CM)(w':World):Prop :=
 ∃ p',p'.B=p.B∧RJ w' base p' q n D c∧Kb (CX p q) w w'∧∀ b,p'.has b→p.has b∨w.heap.size≤b
section
variable {w w1 w2 w':World} {base n:Nat} {p p1:DP} {q:CP} {D D1:DM} {c c1:CM}
theorem iu.same(h:iu w q.x q.b c.ix)(h1:w'.heap[q.x]? = w.heap[q.x]?)(h2:w'.heap[q.b]? = w.heap[q.b]?):iu w' q.x q.b c.ix:=⟨h.s.same h1,h.m.kept h2⟩
theorem RJ.below(h:RJ w base p q n D c)(hb:Below w.heap.size w w'):RJ w' base p q n D c:=⟨h.D.below hb,h.ok,h.C.below hb,h.L.below hb,h.I.below hb⟩
theorem RJ.lt(h:RJ w base p q n D c):q.C < w.heap.size∧q.l < w.heap.size∧q.x < w.heap.size∧q.b < w.heap.size:=⟨h.C.lt,h.L.lt,h.I.s.lt,h.I.m.lt⟩
theorem RJ.x_lt(h:RJ w base p q n D c){i:Nat}(hi:CX p q i):i < w.heap.size:=by
 rcases hi with hi | rfl | rfl
 ·exact h.D.has_lt i hi
 ·exact h.lt.2.1
 ·exact h.lt.2.2.2
theorem RJ.same(h:RJ w base p q n D c)(hs:w.heap.size≤w'.heap.size)(hb:∀ i,(p.has i∨i=q.C∨i=q.l∨i=q.x∨i=q.b)→w'.heap[i]? = w.heap[i]?):RJ w' base p q n D c :=
 ⟨h.D.same hs (fun b hb1=>hb b (.inl hb1)),h.ok,h.C.same (hb _ sm),h.L.same (hb _ sm),iu.same h.I (hb _ sm) (hb _ sm)⟩
theorem bF.same(h:RJ w base p q n D c)(hb:Below w.heap.size w w'):bF w base p q n D c w':=⟨p,rfl,h.below hb,Kb.of_below hb,fun b hb=>.inl hb⟩
theorem bF.pre(hb:Below w.heap.size w w1)(h:bF w1 base p q n D c w2):bF w base p q n D c w2:=by
 obtain⟨p',h1,h2,h3,h4⟩:=h;exact⟨p',h1,h2,(Kb.of_below (X:=CX p q) hb).trans h3 (fun i hi=>.inl hi),fun b hb'=>by
  rcases h4 b hb' with h | h
  ·exact .inl h
  ·exact .inr (Nat.le_trans hb.size h)⟩
theorem bF.post(h:bF w base p q n D c w1)(hb:Below w1.heap.size w1 w2):bF w base p q n D c w2:=by
 obtain⟨p',h1,h2,h3,h4⟩:=h;exact⟨p',h1,h2.below hb,h3.blw hb,h4⟩
theorem bF.trans(hB:p1.B=p.B)(hk:Kb (CX p q) w w1)(hp:∀ b,p1.has b→p.has b∨w.heap.size≤b)(h:bF w1 base p1 q n D c w2):bF w base p q n D c w2:=by
 obtain⟨p',h1,h2,h3,h4⟩:=h;refine⟨p',h1.trans hB,h2,hk.trans h3 (fun i hi=>?_),fun b hb'=>?_⟩
 ·rcases hi with hi | hi
  ·rcases hp i hi with h | h
   ·exact .inl (.inl h)
   ·exact .inr h
  ·exact .inl (.inr hi)
 ·rcases h4 b hb' with h | h
  ·exact hp b h
  ·exact .inr (Nat.le_trans hk.size h)
theorem iv.cache(hA:RJ w base p q n D c){D':DM}{M':LM}(h:iv w base p n q.l D' M' w'):bF w base p q n D' { c with M:=M' } w':=by
 obtain⟨p',h1,h2,h3,h4,h5⟩:=h;have ok:=hA.ok;obtain⟨lC,lL,lX,lB⟩:=hA.lt;have hn:∀ i,i < w.heap.size→¬ p.has i→¬ p'.has i:=fun i hi hp hp'=>by
  rcases h4 i hp' with h | h
  ·exact hp h
  ·omega
 refine⟨p',h1,⟨h2,⟨⟨hn _ lC ok.c.1,hn _ lL ok.c.2.1,hn _ lX ok.c.2.2.1,hn _ lB ok.c.2.2.2⟩,ok.d,ok.lo⟩,?_,?_,?_⟩,h3.wide (fun i hi=>by rcases hi with h | h;exact .inl h;exact .inr (.inl h)),h4⟩
 ·exact hA.C.same (h3.block _ lC (fun h=>by rcases h with h | h;exact ok.c.1 h;exact ok.d.1 h))
 ·rw[h1];exact h5
 ·exact iu.same hA.I (h3.block _ lX (fun h=>by rcases h with h | h;exact ok.c.2.2.1 h;exact ok.d.2.2.2.1 h.symm)) (h3.block _ lB (fun h=>by rcases h with h | h;exact ok.c.2.2.2 h;exact ok.d.2.2.2.2 h.symm))
theorem bF.index(hA:RJ w base p q n D c){ix':RP→Option Nat}(hI:iu w' q.x q.b ix')(hk:Kb (fun i=>i=q.b) w w'):bF w base p q n D { c with ix:=ix' } w':=by
 have ok:=hA.ok;obtain⟨lC,lL,lX,lB⟩:=hA.lt;refine⟨p,rfl,⟨hA.D.kb hk (fun b hb e=>by subst e;exact ok.c.2.2.2 hb),ok,hA.C.same (hk.block _ lC ok.d.2.2.1),hA.L.same (hk.block _ lL ok.d.2.2.2.2),hI⟩,hk.wide (fun i hi=>.inr (.inr hi)),fun b hb=>.inl hb⟩
theorem Sz(h:RJ w base p q n D c):w.cell? ⟨q.C,0,none⟩=some (.pointer (some ⟨q.l,0,none⟩)):=h.C.cell 0 _ rfl
theorem SA(h:RJ w base p q n D c):w.cell? ⟨q.C,1,none⟩=some (.pointer (some ⟨q.x,0,none⟩)):=h.C.cell 1 _ rfl
theorem SC(h:RJ w base p q n D c):w.cell? ⟨q.C,2,none⟩=some (.int .i64 c.til):=h.C.cell 2 _ rfl
end
theorem vz(w:World)(base n:Nat)(p:DP)(q:CP)(D:DM)(c:CM)(h:RJ w base p q n D c):
  Calls prog 95 #[.pointer (some ⟨q.C,0,none⟩)] w fun e w'=>e = .returned (.bool c.M.broken)∧w=w':=by
 have c0:=Sz h;have hb:=yE q.l p.B c.M w h.L;clear h
 go_in
 go_wp2_with fail
 refine hb.mono ?_;rintro _ _ ⟨rfl,rfl⟩
 go_wp2
 go_ret
 exact⟨rfl,rfl⟩
theorem nu(w:World)(base n:Nat)(p:DP)(q:CP)(D:DM)(c:CM)(h:RJ w base p q n D c):
  Calls prog 96 #[.pointer (some ⟨q.C,0,none⟩)] w fun e w'=>e = .returned (.int .i64 c.M.count)∧w=w':=by
 have c0:=Sz h;have hb:=BZ q.l p.B c.M w h.L;clear h
 go_in
 go_wp2_with fail
 refine hb.mono ?_;rintro _ _ ⟨rfl,rfl⟩
 go_wp2
 go_ret
 exact⟨rfl,rfl⟩
theorem nr(w:World)(base n:Nat)(p:DP)(q:CP)(D:DM)(c:CM)(h:RJ w base p q n D c)(hk:Fc c.M):
  Calls prog 97 #[.pointer (some ⟨q.C,0,none⟩)] w fun e w'=>e = .returned (.int .i64 (bp c.M.half))∧Below w.heap.size w w':=by
 have c0:=Sz h;have hb:=CT q.l p.B c.M w h.L hk;clear h
 go_in
 go_wp2_with fail
 refine hb.mono ?_;rintro _ w2 ⟨rfl,hb2⟩
 go_wp2
 go_ret
 exact⟨rfl,hb2⟩
theorem DX(w:World)(base n:Nat)(p:DP)(q:CP)(D:DM)(c:CM)(h:RJ w base p q n D c):
  Calls prog 62 #[.pointer (some ⟨q.C,0,none⟩)] w fun e w'=>e = .returned (.int .i64 c.til)∧w=w':=by
 have c2:=SC h;clear h
 go_in
 go_wp2
 go_ret
 exact⟨rfl,rfl⟩
theorem js(c k:Int)(w:World):
  Calls prog 98 #[fg c k] w fun e w'=>e = .returned (.int .i64 (Na c))∧Below w.heap.size w w':=by
 have hf:=jF c k w;generalize fg c k=v at hf ⊢
 go_in
 go_wp2_with fail
 refine hf.mono ?_;rintro _ w1 ⟨rfl,hb1⟩
 by_cases h:c=12
 ·subst h
  go_wp2
  go_ret
  exact⟨rfl,hb1⟩
 ·have d:(c == 12)=false:=by simpa using h
  go_wp2
  go_ret
  exact⟨by simp[Na,h],hb1⟩
theorem DU(w:World)(base n:Nat)(p:DP)(q:CP)(D:DM)(c:CM)(now:Int)(h:RJ w base p q n D c)(hI:CI n c):
  Calls prog 30 #[.pointer (some ⟨q.C,0,none⟩),.int .i64 now] w fun e w'=>(∃ v,e = .returned v∧w'.ownsRow w.heap.size 89 33 v (cy c.ix now).length (aZ SK (cy c.ix now))∧ef c.ix now (cy c.ix now))∧Below w.heap.size w w':=by
 have c1:=SA h;obtain⟨K,hK1,hK2⟩:=hI.keys;have hl:=su q.x q.b c.ix now K w h.I hK2 (Nat.le_trans hK1 hI.ok.c);clear h hI
 go_in
 go_wp2_with fail
 refine hl.mono ?_;rintro _ w2 ⟨⟨v,rfl,h1,h2⟩,hb2⟩;have H1:=SM h1;have H2:=SM h2;clear h1 h2 hK2
 go_wp2
 go_ret
 exact⟨⟨_,rfl,H1.o,H2.o⟩,hb2⟩
end
end Go.Proofs.YtlcfaaodmickbaaGreatDoor
