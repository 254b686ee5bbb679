/- Part 7 of the proof: texts merged and shortened by a program. No conditions. -/
import Derived.Lib.SlBytesConst
import Derived.Test.YtlcfaaodmickbaaGreatDoorPc06
set_option linter.unusedSimpArgs false
set_option linter.unusedVariables false
set_option maxRecDepth 100000
set_option maxHeartbeats 8000000
namespace Go.Proofs.YtlcfaaodmickbaaGreatDoor
open Go.RowKit Go.Proofs.Tryz
section
open Go.RowKit Go.ChangeMaps
theorem Bq:av cB=Array.replicate 64 (.int .u8 0):=by
 apply Array.ext_getElem?
 intro i
 by_cases hi:i < 64
 ·rw[iw _ i hi];simp[hi,cB]
 ·simp[hi]
theorem sg(N:Nat):aZ av (List.replicate N cB)=List.replicate (N * 64) (.int .u8 0):=by
 induction N with
 | zero=>simp[aZ]
 | succ N ih =>
  rw[List.replicate_succ',iB,ih,Bq,Array.toList_replicate,List.replicate_append_replicate]
  congr 1;omega
theorem mU(N:Nat):madeCells (av cB) N=(List.replicate N (.int .u8 0)).toArray:=by
 apply Array.ext_getElem?
 intro i;unfold madeCells
 by_cases hi:i < N
 ·have h64:i % 64 < 64:=Nat.mod_lt _ dc;simp[hi,Bq,h64]
 ·simp[hi]
def E2(w:World)(N:Nat):World:=((((w.alloc (.cells (Array.replicate (N * 64) (Value.int .u8 0)) 201)).alloc (.map #[] 0)).alloc (.map #[] 0)).alloc (.map #[] 0)).alloc (.cells #[.slice (some ⟨w.heap.size,0,none⟩) N N,.slice none 0 0,.map (some (w.heap.size+1)),.bool false,.int .i64 0,.map (some (w.heap.size+2)),.map (some (w.heap.size+3))] 86)
def E0(w:World)(N:Nat):DP:={ B:=w.heap.size+4,gs:=w.heap.size,gc:=N,vo:=.slice none 0 0,bl:=w.heap.size+1,bf:=w.heap.size+2,bc:=w.heap.size+3,cb:=[] }
theorem C5(w:World)(N:Nat):(E2 w N).heap=((((w.heap.push (.cells (Array.replicate (N * 64) (Value.int .u8 0)) 201)).push (.map #[] 0)).push (.map #[] 0)).push (.map #[] 0)).push (.cells #[.slice (some ⟨w.heap.size,0,none⟩) N N,.slice none 0 0,.map (some (w.heap.size+1)),.bool false,.int .i64 0,.map (some (w.heap.size+2)),.map (some (w.heap.size+3))] 86):=rfl
theorem GI(w:World)(N:Nat):(E2 w N).heap[w.heap.size]? = some (.cells (Array.replicate (N * 64) (Value.int .u8 0)) 201)∧(E2 w N).heap[w.heap.size+1]? = some (.map #[] 0)∧(E2 w N).heap[w.heap.size+2]? = some (.map #[] 0)∧(E2 w N).heap[w.heap.size+3]? = some (.map #[] 0)∧(E2 w N).heap[w.heap.size+4]? = some (.cells #[.slice (some ⟨w.heap.size,0,none⟩) N N,.slice none 0 0,.map (some (w.heap.size+1)),.bool false,.int .i64 0,.map (some (w.heap.size+2)),.map (some (w.heap.size+3))] 86):=by
 rw[C5];generalize Array.replicate (N * 64) (Value.int .u8 0)=Z;refine⟨?_,?_,?_,?_,?_⟩
 ·rw[Array.getElem?_push_lt (by simp <;> omega),Array.getElem_push_lt (by simp <;> omega),Array.getElem_push_lt (by simp <;> omega),Array.getElem_push_lt sm,Array.getElem_push_eq]
 ·rw[Array.getElem?_push_lt (by simp <;> omega),Array.getElem_push_lt (by simp <;> omega),Array.getElem_push_lt (by simp <;> omega)];simp[Array.getElem_push]
 ·rw[Array.getElem?_push_lt (by simp <;> omega),Array.getElem_push_lt (by simp <;> omega)];simp[Array.getElem_push]
 ·rw[Array.getElem?_push_lt (by simp <;> omega)];simp[Array.getElem_push]
 ·simp[Array.getElem?_push,Array.getElem_push]
theorem IM.empty{w:World}{b:Nat}(h:w.heap[b]? = some (.map #[] 0)):IM w b (fun _=>none):=⟨#[],0,h,sm,sm,sm⟩
theorem C7(w:World)(k:Int)(N:Nat)(hst:(min (max k 0) 4096).toNat=N)(hN:N≤4096):RM (E2 w N) w.heap.size (E0 w N) N (dG k):=by
 obtain⟨g0,g1,g2,g3,g4⟩:=GI w N;have hst':(dG k).st=List.replicate N cB:=by unfold dG;rw[hst]
 have e0:(Array.replicate (N * 64) (Value.int .u8 0)).extract 0 (0+N * 64)=(List.replicate (N * 64) (Value.int .u8 0)).toArray:=by
  apply Array.ext'
  simp[List.extract_eq_take_drop]
 refine⟨⟨?_,fun g hg=>(by cases hg),fun g hg=>(by cases hg),fun b hb=>?_⟩,?_,?_,?_,?_,⟨Nat.le_refl _,by simp[E0,maxLen];omega⟩,World.ownsRow_nil _ _ _ _,IM.empty g1,⟨_,IM.empty g2,fun _ _=>rfl,fun _ _ h=>(by cases h)⟩,⟨_,IM.empty g3,fun _ _=>.inl ⟨rfl,rfl⟩⟩,fun b hb=>(by cases hb)⟩
 ·simp[DP.five,E0]
 ·rcases hb with hb | hb | hb
  ·simp only[DP.five,E0,List.mem_cons,List.not_mem_nil,or_false] at hb;omega
  ·cases hb
  ·cases hb
 ·simp only[readAt,E0,g4];rfl
 ·simp[canAt,E0,g4]
 ·simp only[readAt,E0,g0];rw[if_pos sm,e0,hst',sg]
 ·simp[canAt,E0,g0]
theorem oW(w:World)(N:Nat):Below w.heap.size w (E2 w N):=ba _ (ba _ (ba _ (ba _ (ba _ (Below.refl _ _)))))
set_option maxRecDepth 100000 in
theorem Li(w:World)(N:Nat)(hN:N≤4096):
  Calls prog 26 #[.int .i64 (N:Int)] w fun e w'=>e = .returned (.pointer (some ⟨(E0 w N).B,0,none⟩))∧w'=E2 w N:=by
 obtain⟨i,hi,hz,hs,hby⟩:=info_parts ko;have hmk:=run_make (P:=prog) w 80 201 i _ underlying80 hi hz .i64 .i64 (N:Int) (N:Int) om om (by rw[hby];omega) om
 rw[hs] at hmk;simp only[Int.toNat_natCast,Value.cells,mU] at hmk;have h0:(0:Int)≤(N:Int):=om;have h1:(N:Int)≤4096:=om;have hmm:=@run_makeMap prog
 go_in
 go_wp2
 go_ret
 exact⟨rfl,rfl⟩
set_option maxRecDepth 100000 in
theorem Lg(w:World)(k:Int)(hk:k < 0):
  Calls prog 26 #[.int .i64 k] w fun e w'=>e = .returned (.pointer (some ⟨(E0 w 0).B,0,none⟩))∧w'=E2 w 0:=by
 obtain⟨i,hi,hz,hs,hby⟩:=info_parts ko;have hmk:=run_make (P:=prog) w 80 201 i _ underlying80 hi hz .i64 .i64 0 0 om om (by rw[hby];omega) om
 rw[hs] at hmk;simp only[Int.toNat_zero,Value.cells,mU] at hmk;have h1 : ¬ 0≤k:=om;have hmm:=@run_makeMap prog
 go_in
 go_wp2
 all_goals first
  | (go_ret;exact⟨rfl,rfl⟩)
  | (exfalso;omega)
theorem qi(w:World)(k:Int)(hk:k≤4096):
  Calls prog 26 #[.int .i64 k] w fun e w'=>(∃ p,e = .returned (.pointer (some ⟨p.B,0,none⟩))∧RM w' w.heap.size p k.toNat (dG k))∧Below w.heap.size w w':=by
 by_cases h0:k < 0
 ·refine (Lg w k h0).mono ?_;rintro _ w' ⟨rfl,rfl⟩;have e:k.toNat=0:=om;rw[e];exact⟨⟨_,rfl,C7 w k 0 om om⟩,oW w 0⟩
 ·obtain⟨N,rfl⟩:=Int.eq_ofNat_of_zero_le (show 0≤k by omega)
  refine (Li w N om).mono ?_;rintro _ w' ⟨rfl,rfl⟩;rw[Int.toNat_natCast];exact⟨⟨_,rfl,C7 w N N om om⟩,oW w N⟩
end
section
open Go.RowKit Go.ChangeMaps
section
variable {w w':World} {X X':Nat→Prop}
end
section
variable {w w':World} {X X':Nat→Prop} {n:Nat} {D:DM} {a b c:Value}
end
end
section
open Go.RowKit Go.ChangeMaps
section
variable {P:Program} {ops:Array Oper} {Q:Exit→Act→World→Prop} {S:World→Prop} {i:Nat} {o:Oper} {t:Tr} {a:Act} {w:World}
theorem Iz{j:Nat}{u:Tr}(h1:Tp P ops Q (.run i t) S a w)(h2:Tp P ops Q (.run j u) S a w):Tp P ops Q (.two i t j u) S a w:=⟨h1,h2⟩
theorem qL(ho:ops[i]? = some o)(hg:o.guard=none)(s x:Operand)(ty:TypeId)(hop:o.op = .call { callee:=.builtin .append,args:=#[s,x],argTypes:=#[ty,ty] })
  (vs vx v':Value) (w':World) (hs:a.eval s=vs) (hx:a.eval x=vx) (hr:(Builtin.append_ #[ty,ty] o.type #[vs,vx]).run P w = .ok v' w')
  (h:∃ S':World→Prop,(∀ u,S' u→S u)∧S' w'∧Tp P ops Q t S' (a.put o.dst v') w'):Tp P ops Q (.run i t) S a w:=by
 refine fJ ho (by unfold Region.wanted;rw[hg]) ⟨v',w',?_,h⟩
 unfold execOp;simp only[hop,resolve,invoke,builtin,Sem.run_bind,Sem.run_pure,Result.andThen_ok,List.map_toArray,List.map_cons,List.map_nil,hs,hx,hr]
end
end
section
theorem qU(w:World)(base:Nat)(ty:TypeId)(v:Value)(l:List UInt8)(hown:ao w base v l)(ad:Option Addr)(n c:Nat)(m:List UInt8)(hb:Bs w ad n c m)(hlen:l.length+m.length≤1099511627776)(hbase:base≤w.heap.size):
  ∃ v' w',(Builtin.append_ #[39,39] ty #[v,.slice ad n c]).run prog w = .ok v' w'∧ao w' base v' (l ++ m)∧Below base w w'∧(dJ v∨0 < m.length→dJ v'):=by
 obtain⟨i0,hi,hz,hsz,hby⟩:=info_parts fS;have hn:m.length=n:=hb.1
 rcases hb.src with ⟨rfl,rfl,rfl,rfl⟩ | ⟨a,rfl,hsrc⟩
 ·exact⟨v,w,run_append_owned_none w base _ ty 5 i0 1 underlying39 hi v _ _ hown,by simpa using hown,Below.refl _ _,fun h=>by rcases h with h | h;exact h;simp at h⟩
 ·obtain⟨v',w',hr,ho,hg,hnil⟩:=run_append_own (P:=prog) w base 39 ty 5 i0 _ 1 1 underlying39 hi hz hsz hby rfl dc v l.length (l.map B8) hown a n c (m.map B8) (by rw[List.length_map];omega) hsrc (dZ _) (by simp only[maxLen];omega) om hbase
  refine⟨v',w',hr,?_,(Below.refl base w).grown hg hbase (fun b hbk=>(hown.lt b hbk).1),fun h hv=>?_⟩
  ·unfold ao;rw[List.length_append,List.map_append,hn];exact ho
  ·obtain⟨h1,h2⟩:=hnil.1 hv
   rcases h with h | h
   ·exact h h1
   ·omega
theorem bJ{w:World}{ops:Array Oper}{rest:List Oper}{o:Oper}{a:Act}{Q:Exit→Act→World→Prop}(hgd:o.guard=none)(s x:Operand)
  (ho:o.op = .call { callee:=.builtin .append,args:=#[s,x],argTypes:=#[39,39] })
  (base:Nat) (v:Value) (l:List UInt8) (hs:a.eval s=v) (hown:ao w base v l) (ad:Option Addr) (n c:Nat) (m:List UInt8) (hx:a.eval x = .slice ad n c) (hb:Bs w ad n c m)
  (hlen:l.length+m.length≤1099511627776) (hbase:base≤w.heap.size)
  (h:∀ ad' c' w',ao w' base (.slice ad' (l.length+m.length) c') (l ++ m)→Below base w w'→(dJ v∨0 < m.length→dJ (.slice ad' (l.length+m.length) c'))→wpList prog ops Q rest (a.put o.dst (.slice ad' (l.length+m.length) c')) w'):wpList prog ops Q (o :: rest) a w:=by
 obtain⟨v',w',hr,h1,h2,h3⟩:=qU w base o.type v l hown ad n c m hb hlen hbase;obtain⟨ad',c',rfl,_⟩:=h1.bs;rw[List.length_append] at h1 h3 hr;refine wpList_plain hgd fun K hK=>?_;unfold Oper.wp execOp;simp only[ho,resolve,invoke,builtin,Sem.run_bind,Sem.run_pure,Result.andThen_ok,List.map_toArray,List.map_cons,List.map_nil,hs,hx,hr];exact hK _ _ (h _ _ _ h1 h2 h3)
theorem Bs.made(w:World)(t:TypeId)(l:List UInt8)(h0:0 < l.length)(hm:l.length≤9223372036854775807):Bs (w.alloc (.cells (bv l) t)) (some ⟨w.heap.size,0,none⟩) l.length l.length l:=(Wb.made w t l h0).bs hm
theorem ao.nil(w:World)(base:Nat):ao w base (.slice none 0 0) []:=by simpa [ao] using World.ownsRow_nil w base 5 1
theorem ao.len{w:World}{base:Nat}{v:Value}{l:List UInt8}(h:ao w base v l):∃ ad c,v = .slice ad l.length c:=by
 obtain⟨ad,c,hv,_⟩:=h.bs;exact⟨ad,c,hv⟩
theorem ao.made(w:World)(base:Nat)(l:List UInt8)(h0:0 < l.length)(hm:l.length≤maxLen)(hb:base≤w.heap.size):ao (w.alloc (.cells (bv l) 5)) base (.slice (some ⟨w.heap.size,0,none⟩) l.length l.length) l:=by
 have:=World.ownsRow_lit (e:=5) (size:=1) w (bv l) l.length hb hm sm;unfold ao;have e:(bv l).toList=l.map B8:=by simp[bv]
 rw[e] at this;exact this
theorem ao.empty(w:World)(base:Nat)(hb:base≤w.heap.size):ao (w.alloc (.cells #[] 5)) base (.slice (some ⟨w.heap.size,0,none⟩) 0 0) []:=by
 have:=World.ownsRow_lit (e:=5) (size:=1) w #[] 0 hb (by simp[maxLen]) sm
 exact this
end
section
theorem z8(w:World):Calls prog 195 #[] w fun e w'=>e = .returned (.agg (fw W4 ou))∧Below w.heap.size w w':=by
 go_in
 go_upto_region 1 with fail
 have hr:=Row.made (f:=W4) w 248 Tt;have hb:=ba (.cells (fw W4 Tt) 248) (Sy w);generalize w.alloc (.cells (fw W4 Tt) 248)=w1 at *;have hk:=hr.k
 go_wp2
 refine bodyPost_ret (i8 rfl _ _ w.heap.size 0 (fw W4 ou) rfl (hr.all ou).r) rfl ⟨rfl,aa hb (Nat.le_refl _) _ _⟩
theorem KO:(#[.int .u32 1116352408,.int .u32 1899447441,.int .u32 3049323471,.int .u32 3921009573,.int .u32 961987163,.int .u32 1508970993,.int .u32 2453635748,.int .u32 2870763221,.int .u32 3624381080,.int .u32 310598401,.int .u32 607225278,.int .u32 1426881987,.int .u32 1925078388,.int .u32 2162078206,.int .u32 2614888103,.int .u32 3248222580,.int .u32 3835390401,.int .u32 4022224774,.int .u32 264347078,.int .u32 604807628,.int .u32 770255983,.int .u32 1249150122,.int .u32 1555081692,.int .u32 1996064986,.int .u32 2554220882,.int .u32 2821834349,.int .u32 2952996808,.int .u32 3210313671,.int .u32 3336571891,.int .u32 3584528711,.int .u32 113926993,.int .u32 338241895,.int .u32 666307205,.int .u32 773529912,.int .u32 1294757372,.int .u32 1396182291,.int .u32 1695183700,.int .u32 1986661051,.int .u32 2177026350,.int .u32 2456956037,.int .u32 2730485921,.int .u32 2820302411,.int .u32 3259730800,.int .u32 3345764771,.int .u32 3516065817,.int .u32 3600352804,.int .u32 4094571909,.int .u32 275423344,.int .u32 430227734,.int .u32 506948616,.int .u32 659060556,.int .u32 883997877,.int .u32 958139571,.int .u32 1322822218,.int .u32 1537002063,.int .u32 1747873779,.int .u32 1955562222,.int .u32 2024104815,.int .u32 2227730452,.int .u32 2361852424,.int .u32 2428436474,.int .u32 2756734187,.int .u32 3204031479,.int .u32 3329325298] : Array Value)=fw W4 lD:=kr
set_option maxRecDepth 100000 in
theorem Aa(w:World):Calls prog 196 #[] w fun e w'=>e = .returned (.agg (fw W4 lD))∧Below w.heap.size w w':=by
 go_in
 go_upto_region 1 with fail
 have hr:=Row.made (f:=W4) w 296 oy;have hb:=ba (.cells (fw W4 oy) 296) (Sy w);generalize w.alloc (.cells (fw W4 oy) 296)=w1 at *;have hk:=hr.k
 go_wp2_with fail
 rw[KO,tr w1 w.heap.size 0 lD hk];go_simp
 go_wp2
 refine bodyPost_ret (nm rfl _ _ w.heap.size 0 (fw W4 lD) rfl (hr.all lD).r) rfl ⟨rfl,aa hb (Nat.le_refl _) _ _⟩
theorem Fr(x j:Nat)(hj:j < 8):(Sv 8 x).take (j+1)=(Sv 8 x).take j ++ [UInt8.ofNat (x / 256 ^ (7 - j))]:=by
 have e:Sv 8 x=[UInt8.ofNat (x / 256 ^ 7),UInt8.ofNat (x / 256 ^ 6),UInt8.ofNat (x / 256 ^ 5),UInt8.ofNat (x / 256 ^ 4),UInt8.ofNat (x / 256 ^ 3),UInt8.ofNat (x / 256 ^ 2),UInt8.ofNat (x / 256 ^ 1),UInt8.ofNat (x / 256 ^ 0)]:=by
  simp only[xb];rfl
 rw[e];obtain rfl | rfl | rfl | rfl | rfl | rfl | rfl | rfl:j=0∨j=1∨j=2∨j=3∨j=4∨j=5∨j=6∨j=7:=om
 all_goals rfl
theorem fD(w:World)(x:UInt8)(z:Int)(hz:z=bI x):Bs (w.alloc (.cells #[.int .u8 z] 5)) (some ⟨w.heap.size,0,none⟩) 1 1 [x]:=by
 subst hz;exact Bs.made w 5 [x] sm sm
theorem G6(n:Nat)(w:World)(hn:n < 1099511627776):
  Calls prog 194 #[.int .i64 n] w fun e w'=>(∃ v,e = .returned v∧dJ v∧ao w' w.heap.size v (cW n))∧Below w.heap.size w w':=by
 have hz1:fc n < 64:=by unfold fc;omega
 have hown:=ao.made w w.heap.size [128] dc dc (Nat.le_refl _);have hb:=ba (.cells (bv [128]) 5) (Sy w);have HO:=SM hown;have HB:=SM hb;clear hown hb;have HF:Hd (128 :: (List.replicate (fc n) 0 ++ (Sv 8 (8 * n)).take 8)=cW n):=by
  show _=_
  rw[List.take_of_length_le (by simp[fu]),cW]
 have hpd:∀ k,k≤fc n→(((n:Int)+(k+1)+8) % 64=0↔k=fc n):=fun k hk=>by unfold fc at *;omega
 have Hpd:=SM hpd;clear hpd
 go_in
 go_wp2_with fail
 rw[show (#[.int .u8 128] : Array Value)=bv [128] from rfl]
 go_loopw [3] (fun v wr=>∃ k:Nat,k≤fc n∧dJ v∧ao wr w.heap.size v (128 :: List.replicate k 0)∧Below w.heap.size w wr) (fun v _=>fc n+1 - OM v)
 case atStart=>exact⟨0,om,(by intro h;cases h),HO.o,HB.o⟩
 case round =>
  clear HO HB;obtain⟨k,hk,hnn,ho,hb⟩:=hrel;obtain⟨ad,c,rfl⟩:=ho.len;have HO:=SM ho;have HB:=SM hb;have hnn2:=SM hnn;clear ho hb hnn;rw[List.length_cons,List.length_replicate] at HO hnn2 ⊢;have w1:IntKind.i64.wrap ((n:Int)+((k:Int)+1))=(n:Int)+((k:Int)+1):=wi;have w2:IntKind.i64.wrap ((n:Int)+((k:Int)+1)+8)=(n:Int)+((k:Int)+1)+8:=wi;have w3:((n:Int)+((k:Int)+1)+8).tmod 64=((n:Int)+((k:Int)+1)+8) % 64:=Int.tmod_eq_emod_of_nonneg om
  have hq:=Hpd.o k hk
  by_cases hkz:k=fc n
  ·have d1:(((n:Int)+((k:Int)+1)+8) % 64 != 0)=false:=by rw[hq.2 hkz];rfl
   have d2:((n:Int)+((k:Int)+1)+8) % 64=0:=hq.2 hkz;clear hq;have e1:IntKind.u64.wrap (n:Int)=(n:Int):=wu;have e2:IntKind.u64.wrap ((n:Int) * 8)=((8 * n:Nat):Int):=wu;have hz0:k=fc n:=hkz;subst hz0
   go_wp2
   go_loopw [3,5] (fun v i wr=>∃ j:Nat,j≤8∧i = .int .i64 (7 - (j:Int))∧dJ v∧ao wr w.heap.size v (128 :: (List.replicate (fc n) 0 ++ (Sv 8 (8 * n)).take j))∧Below w.heap.size w wr) (fun _ i _=>(intOf i+1).toNat)
   case atStart=>exact⟨0,om,rfl,hnn2.o,by simpa using HO.o,HB.o⟩
   case round =>
    clear HO HB hnn2;obtain⟨j,hj,rfl,hnn,ho,hb⟩:=hrel;obtain⟨ad,c,rfl⟩:=ho.len;have HO:=SM ho;have HB:=SM hb;have hnn2:=SM hnn;clear ho hb hnn
    by_cases hj8:j < 8
    ·have hFs:128 :: (List.replicate (fc n) (0:UInt8) ++ (Sv 8 (8 * n)).take (j+1))=(128 :: (List.replicate (fc n) 0 ++ (Sv 8 (8 * n)).take j)) ++ [UInt8.ofNat (8 * n / 256 ^ (7 - j))]:=by
      rw[Fr (8 * n) j hj8,← List.append_assoc];rfl
     have hlF:(128 :: (List.replicate (fc n) (0:UInt8) ++ (Sv 8 (8 * n)).take j)).length≤1000:=by
      simp[fu];omega
     have HFs:=SM hFs;clear hFs;generalize 128 :: (List.replicate (fc n) (0:UInt8) ++ (Sv 8 (8 * n)).take j)=F at *;have hq7:(2:Nat) ^ (8 * (7 - j))=256 ^ (7 - j):=by rw[Nat.pow_mul]
     have hbyte:(8 * (n:Int)) / 2 ^ (8 * (7 - j)) % 256=bI (UInt8.ofNat (8 * n / 256 ^ (7 - j))):=by
      unfold bI;rw[UInt8.toNat_ofNat',← hq7]
      push_cast
      rfl
     have hw1:IntKind.i64.wrap (8 * (7 - (j:Int)))=((8 * (7 - j):Nat):Int):=wi;have hw2:IntKind.u64.wrap ((8 * (7 - j):Nat):Int)=((8 * (7 - j):Nat):Int):=wu;have hw3:(0:Int)≤((8 * (7 - j):Nat):Int):=om;have hw4:((8 * (7 - j):Nat):Int)≤64:=om;have Hby:=SM hbyte;clear hbyte hq7;generalize (8 * (7 - j):Nat)=q at *;generalize UInt8.ofNat (8 * n / 256 ^ (7 - j))=x at *
     go_upto_region 8 with fail
     have hb3:=ba (.cells #[.int .u8 (8 * (n:Int) / 2 ^ q % 256)] 5) (Sy wr);have ho3:=HO.o.below hb3;have hs3:=fD wr x (8 * (n:Int) / 2 ^ q % 256) Hby.o;have hz:=HB.o.size
     go_wp2_with (at_builtin;refine bJ rfl _ _ rfl w.heap.size _ _ rfl ho3 _ _ _ [x] rfl hs3 ?c1 ?c2 ?_)
     case c1=>simp;omega
     case c2=>simp;omega
     intro ad' c' w' ho' hb' hn';have Hn:Hd (dJ (.slice ad' (F.length+1) c')):=SM (by simpa using hn')
     have Ho:Hd (ao w' w.heap.size (.slice ad' (F.length+1) c') (F ++ [x])):=SM (by simpa using ho')
     have Hb:Hd (Below w.heap.size w w'):=HB.o.trans ((hb3.mono hz).trans hb');clear ho' hb' hn' hb3 ho3 hs3 hw1 hw2 hw3 hw4
     go_wp2
     go_roundw
     case rel=>exact⟨j+1,om,by go_num,Hn.o,by rw[HFs.o];exact Ho.o,Hb.o⟩
     case measure=>simp[intOf];omega
    ·obtain rfl:j=8:=om;rw[HF.o] at HO hnn2 ⊢
     go_wp2
     go_ret
     exact⟨⟨_,rfl,hnn2.o,HO.o⟩,HB.o⟩
  ·have d1:(((n:Int)+((k:Int)+1)+8) % 64 != 0)=true:=by simpa using fun h=>hkz (hq.1 h)
   have d2 : ¬ ((n:Int)+((k:Int)+1)+8) % 64=0:=fun h=>hkz (hq.1 h);clear hq;have hb3:=ba (.cells #[.int .u8 0] 5) (Sy wr);have ho3:=HO.o.below hb3;have hs3:=fD wr 0 0 rfl;have hz:=HB.o.size
   go_wp2_with (at_builtin;refine bJ rfl _ _ rfl w.heap.size _ _ rfl ho3 _ _ _ [0] rfl hs3 ?c1 ?c2 ?_)
   case c1=>simp;omega
   case c2=>simp;omega
   intro ad' c' w' ho' hb' hn';have Hn:Hd (dJ (.slice ad' (k+1+1) c')):=by
    refine SM ?_
    simpa using hn'
   have Ho:Hd (ao w' w.heap.size (.slice ad' (k+1+1) c') (128 :: List.replicate (k+1) 0)):=by
    have:(128 :: List.replicate (k+1) (0:UInt8))=128 :: List.replicate k 0 ++ [0]:=by rw[List.replicate_succ'];rfl
    rw[this];exact SM (by simpa using ho')
   have Hb:Hd (Below w.heap.size w w'):=HB.o.trans ((hb3.mono hz).trans hb');clear ho' hb' hn' hb3 ho3 hs3
   go_wp2
   go_roundw
   case rel=>exact⟨k+1,om,Hn.o,Ho.o,Hb.o⟩
   case measure=>simp;omega
end
section
theorem Ps.one{w:World}{B:Nat}{ad:Option Addr}{n c:Nat}{l:List UInt8}(hr:readAt w B 0 1=some #[.slice ad n c])(hl:Bs w ad n c l):Ps w (some ⟨B,0,none⟩) 1 1 [l]:=by
 refine⟨rfl,Nat.le_refl _,om,fun i hi=>?_⟩;obtain rfl:i=0:=om;exact⟨B,0,ad,n,c,rfl,hr,hl⟩
theorem Ps.two{w:World}{B:Nat}{ad bd:Option Addr}{n c m c2:Nat}{l l2:List UInt8}(hr:readAt w B 0 2=some #[.slice ad n c,.slice bd m c2])(hl:Bs w ad n c l)(hl2:Bs w bd m c2 l2):Ps w (some ⟨B,0,none⟩) 2 2 [l,l2]:=by
 refine⟨rfl,Nat.le_refl _,om,fun i hi=>?_⟩;have h:i=0∨i=1:=om
 rcases h with rfl | rfl
 ·exact⟨B,0,ad,n,c,rfl,aB hr 0 1 om om,hl⟩
 ·exact⟨B,0,bd,m,c2,rfl,aB hr 1 1 om om,hl2⟩
theorem uO(l:List UInt8):t7 l < 4294967296:=by unfold t7;omega
theorem Kr(x:Nat):be 4 x=[UInt8.ofNat (x / 16777216),UInt8.ofNat (x / 65536),UInt8.ofNat (x / 256),UInt8.ofNat x]:=by
 simp[be,List.range,List.range.loop]
theorem OY(x:Nat)(h:x < 4294967296):nb (be 4 x)=x:=by
 rw[Kr];simp only[nb,List.foldl_cons,List.foldl_nil,UInt8.toNat_ofNat'];omega
theorem Bs.lit{w:World}{B:Nat}{l:List UInt8}(n:Nat)(hn:l.length=n)(hm:n≤4096)(hr:readAt w B 0 n=some (bv l)):Bs w (some ⟨B,0,none⟩) n n l :=
 ⟨hn,Nat.le_refl _,om,fun h=>(by cases h),fun _=>⟨B,0,rfl,hr⟩⟩
@[go_sem] theorem E8(w:World)(C:Array Value)(b n c:Nat)(h:b=w.heap.size):
  (convert 39 39 (.slice (some ⟨b,0,none⟩) n c)).run prog (w.alloc (.cells C 5)) = .ok (.slice (some ⟨b,0,none⟩) n c) (w.alloc (.cells C 5 (C.size,C.size+1))):=by
 subst h;exact Lib.run_convert_bytes_const (P:=prog) w 39 5 C n c underlying39 underlying5
theorem ao.view{w:World}{base:Nat}{v:Value}{l:List UInt8}(h:ao w base v l)(h0:0 < l.length):∃ g c,v = .slice (some ⟨g,0,none⟩) l.length c∧base≤g∧l.length≤c∧c≤9223372036854775807∧readAt w g 0 l.length=some (bv l)∧canAt w g 0 l.length=true:=by
 obtain⟨g,cap,hv,hb,hc,hm,hr,hk⟩:=eP h h0;rw[Nat.mul_one] at hr hk;exact⟨g,cap,hv,hb,hc,by simp only[maxLen] at hm;omega,hr,hk⟩
theorem ao.above{w:World}{base:Nat}{v:Value}{l:List UInt8}(h:ao w base v l):∃ ad c,v = .slice ad l.length c∧Bs w ad l.length c l∧∀ b o sp,ad=some ⟨b,o,sp⟩→base≤b:=by
 obtain⟨ad,c,rfl,hb⟩:=h.bs;refine⟨ad,c,rfl,hb,fun b o sp e=>?_⟩;subst e;exact (h.lt b rfl).1
end
section
theorem Ks(k x:Nat):be (k+1) x=be k (x / 256) ++ [UInt8.ofNat x]:=by
 apply List.ext_getElem
 ·simp
 ·intro i h1 h2;simp at h1
  by_cases hi:i < k
  ·rw[List.getElem_append_left (by simpa using hi)]
   simp only[be,List.getElem_map,List.getElem_range]
   congr 1
   rw[Nat.div_div_eq_div_mul,← Nat.pow_succ']
   congr 2;omega
  ·obtain rfl:i=k:=om;rw[List.getElem_append_right sm];simp[be]
theorem GH(k x:Nat)(h:x < 256 ^ k):nb (be k x)=x:=by
 induction k generalizing x with
 | zero=>simp at h;subst h;rfl
 | succ k ih =>
  rw[Ks,vj,ih (x / 256) (by rw[Nat.div_lt_iff_lt_mul om,← Nat.pow_succ];exact h),UInt8.toNat_ofNat']
  omega
theorem iY{α:Type}{a b:List α}{n:Nat}(h:a.length=n):(a ++ b).drop n=b:=by subst h;exact List.drop_left
theorem ri{α:Type}{a b:List α}{n:Nat}(h:a.length=n):(a ++ b).take n=a:=by subst h;exact List.take_left
def sl(x:Sj):List UInt8:=x.toList
@[simp] theorem tF(x:Sj):(sl x).length=64:=by simp[sl]
theorem Fp(x:Sj):av x=bv (sl x):=by
 apply Array.ext'
 simp[av,bv,sl]
 rfl
theorem xY(l:List UInt8)(h:l.length=64):sl (ic l)=l:=by
 apply List.ext_getElem
 ·simp[h]
 ·intro i h1 h2;simp[sl,ic,List.getD,h2]
def qE(x:Sj):Nat:=nb ((sl x).take 2)
def aX(x:Sj):Nat:=nb ((sl x).drop 60)
def Am(x:Sj):Nat:=nb (((sl x).drop 56).take 4)
def Ao(x:Sj):Nat:=t7 ((sl x).take 56 ++ (sl x).drop 60)
def gq(x:Sj):List UInt8:=((sl x).drop 2).take (qE x)
def og(x:Sj):List UInt8:=((sl x).drop (2+qE x)).take (54 - qE x)
def Ta(x:Sj):Bool:=decide (qE x≤54) && (decide (∀ c ∈ og x,c=0) && decide (Am x=Ao x))
def gT(p:List UInt8):List UInt8:=be 2 p.length ++ (p ++ List.replicate (54 - p.length) 0)
theorem dX(p:List UInt8)(h:p.length≤54):(gT p).length=56:=by simp[gT];omega
def GZ(g:Nat)(p:List UInt8):List UInt8:=gT p ++ (be 4 (t7 (gT p ++ be 4 g)) ++ be 4 g)
theorem vE(g:Nat)(p:List UInt8)(h:p.length≤54):(GZ g p).length=64:=by simp[GZ,dX p h]
def dH(g:Nat)(p:List UInt8):Sj:=ic (GZ g p)
theorem nB(g:Nat)(p:List UInt8)(h:p.length≤54):sl (dH g p)=GZ g p:=xY _ (vE g p h)
section
variable {g:Nat} {p:List UInt8} (h:p.length≤54)
include h
theorem pk:(sl (dH g p)).take 56=gT p:=by
 rw[nB g p h,GZ,List.take_append_of_le_length (by rw[dX p h];exact Nat.le_refl _)]
 exact List.take_of_length_le (by rw[dX p h];exact Nat.le_refl _)
theorem pi:(sl (dH g p)).drop 56=be 4 (t7 (gT p ++ be 4 g)) ++ be 4 g:=by
 rw[nB g p h,GZ];have:=dX p h;rw[← this,List.drop_left]
theorem pj:(sl (dH g p)).drop 60=be 4 g:=by
 have:=congrArg (List.drop 4) (pi (g:=g) h);rw[List.drop_drop] at this;rw[show 60=56+4 by rfl,this]
 exact iY (aL _ _)
theorem Lz:((sl (dH g p)).drop 56).take 4=be 4 (t7 (gT p ++ be 4 g)):=by
 rw[pi h];have e:(be 4 (t7 (gT p ++ be 4 g))).length=4:=aL _ _;rw[List.take_append_of_le_length (by rw[e];exact Nat.le_refl _)]
 exact List.take_of_length_le (by rw[e];exact Nat.le_refl _)
theorem DR:(sl (dH g p)).take 2=be 2 p.length:=by
 have:=congrArg (List.take 2) (pk (g:=g) h);rw[List.take_take] at this;rw[show min 2 56=2 by rfl] at this
 rw[this,gT,List.take_append_of_le_length sm];exact List.take_of_length_le sm
theorem vF:qE (dH g p)=p.length:=by
 unfold qE;rw[DR h,GH];omega
theorem nk(hg:g < 4294967296):aX (dH g p)=g:=by
 unfold aX;rw[pj h,GH];omega
theorem DQ:gq (dH g p)=p:=by
 unfold gq;rw[vF h,nB g p h,GZ,gT];rw[show be 2 p.length ++ (p ++ List.replicate (54 - p.length) 0) ++ (be 4 (t7 (be 2 p.length ++ (p ++ List.replicate (54 - p.length) 0) ++ be 4 g)) ++ be 4 g)=be 2 p.length ++ (p ++ (List.replicate (54 - p.length) 0 ++ (be 4 (t7 (be 2 p.length ++ (p ++ List.replicate (54 - p.length) 0) ++ be 4 g)) ++ be 4 g))) by simp[List.append_assoc]]
 rw[iY (aL 2 p.length),List.take_left]
theorem Ly:∀ c ∈ og (dH g p),c=0:=by
 have e:og (dH g p)=List.replicate (54 - p.length) 0:=by
  unfold og;rw[vF h,nB g p h,GZ,gT];rw[show be 2 p.length ++ (p ++ List.replicate (54 - p.length) 0) ++ (be 4 (t7 (be 2 p.length ++ (p ++ List.replicate (54 - p.length) 0) ++ be 4 g)) ++ be 4 g)=(be 2 p.length ++ p) ++ (List.replicate (54 - p.length) 0 ++ (be 4 (t7 (be 2 p.length ++ (p ++ List.replicate (54 - p.length) 0) ++ be 4 g)) ++ be 4 g)) by simp[List.append_assoc]]
  rw[iY (a:=be 2 p.length ++ p) sm,List.take_append_of_le_length sm];exact List.take_of_length_le sm
 rw[e];intro c hc;exact (List.mem_replicate.1 hc).2
theorem Js:Ta (dH g p)=true:=by
 unfold Ta;rw[vF h,decide_eq_true h,decide_eq_true (Ly h),decide_eq_true]
 ·rfl
 ·unfold Am Ao;rw[Lz h,pk h,pj h,OY _ (uO _)]
end
end
section
def yJ(l:List UInt8)(k:Nat):Sj:=ic ((l.drop (64 * k)).take 64)
def ru(l:List UInt8):Nat→W8
 | 0=>ou
 | k+1=>cL (ru l k) (yJ l k)
theorem Cl(x:Sj)(l:List UInt8)(h:l.length=64):eX x 0 l=ic l:=by
 apply Vector.ext;intro i hi
 simp[eX,ic,h,hi]
theorem rI(s:W8)(x:Sj)(l:List UInt8)(h:l.length=64):cV ⟨s,x,0⟩ l=⟨cL s (ic l),ic l,0⟩:=by
 rw[mp _ _ (by show 0 < 64;decide) (by rintro rfl;cases h) (by show 0+l.length≤64;omega),if_pos (by show 0+l.length=64;omega)]
 show (⟨cL s (eX x 0 l),eX x 0 l,0⟩ : ym)=_
 rw[Cl x l h]
theorem yn(l:List UInt8)(k:Nat)(h:64 * k≤l.length):∃ x,cV ke (l.take (64 * k))=⟨ru l k,x,0⟩:=by
 induction k with
 | zero=>exact⟨cB,rfl⟩
 | succ k ih =>
  obtain⟨x,hx⟩:=ih om;have e:l.take (64 * (k+1))=l.take (64 * k) ++ (l.drop (64 * k)).take 64:=by
   rw[show 64 * (k+1)=64 * k+64 by omega,List.take_add]
  rw[e,fl,hx,rI _ _ _ sO];exact⟨_,rfl⟩
theorem Ae(l:List UInt8)(m:Nat)(h:(l ++ cW l.length).length=64 * m):d9 l=pr (ru (l ++ cW l.length) m):=by
 obtain⟨x,hx⟩:=yn (l ++ cW l.length) m om;rw[← h,List.take_length] at hx;unfold d9;rw[hx]
theorem pt(n:Nat):(cW n).length=fc n+9:=by simp[cW,fu]
theorem GP(l:List UInt8):∃ m,(l ++ cW l.length).length=64 * m:=by
 refine⟨(l.length+fc l.length+9) / 64,?_⟩;rw[List.length_append,pt];unfold fc;omega
theorem vU(b o n c lo hi:Nat)(h1:lo < hi)(h2:hi≤n)(h3:n≤c)(a:Int)(ha:a=(lo:Int))(d:Int)(hd:d=(hi:Int))(W:World):
  (Instr.slice 39 (.slice (some ⟨b,o,none⟩) n c) (some (.int .i64 a)) (some (.int .i64 d)) none).run prog W = .ok (.slice (some ⟨b,o+lo,none⟩) (hi - lo) (c - lo)) W:=by
 subst ha hd;cases hqq:prog.info? 5 with
 | none=>have:=cQ;simp[hqq] at this
 | some j =>
  have hs:j.size=1:=by have:=cQ;simpa [hqq] using this
  have c1 : ¬ (c < hi):=om;have c3 : ¬ (hi < lo):=om;have c4 : ¬ (c=lo):=om;have d1:(lo:Int)≤hi:=om;have d2:(hi:Int)≤c:=om;have d3:lo≤hi:=om;have d4:hi≤c:=om
  by_cases h5:lo=0
  ·subst h5;simp[Instr.slice,Instr.sliceAt,run_underlying underlying39,Instr.sureAddr,Instr.sliceBounds,Instr.sliceBound,asIntOf,sizeOf,typeInfo,hqq,hs,Addr.add,c1,c3,c4,d1,d2,d3,d4]
   done
  ·simp[Instr.slice,Instr.sliceAt,run_underlying underlying39,Instr.sureAddr,Instr.sliceBounds,Instr.sliceBound,asIntOf,sizeOf,typeInfo,hqq,hs,Addr.add,c1,c3,c4,d1,d2,d3,d4,h5]
   done
@[go_sem] theorem Pf(w:World)(a:Option Addr)(c:Nat):(Instr.arrayAt 201 (.slice a 64 c)).run prog w = .ok (.pointer a) w:=by
 simp[Instr.arrayAt,run_underlying underlying201]
theorem oI{w:World}{b o n c:Nat}{l:List UInt8}(h:Bs w (some ⟨b,o,none⟩) n c l)(k:Nat)(hk:64 * k+64≤n):readAt w b (o+64 * k) 64=some (fw B8 (yJ l k)):=by
 obtain⟨h1,h2,h3,_,h5⟩:=h;obtain⟨b',o',e,hr⟩:=h5 om;cases e;rw[aB hr (o+64 * k) 64 om om,show o+64 * k - o=64 * k by omega,eu]
 have hl:((l.drop (64 * k)).take 64).length=64:=sO;rw[← nZ,Fp,yJ,xY _ hl]
theorem sZ(ad:Option Addr)(n c:Nat)(l:List UInt8)(w:World)(hl:Bs w ad n c l)(hn:n≤1000000000):
  Calls prog 155 #[.slice ad n c] w fun e w'=>e = .returned (.agg (fw B8 (d9 l)))∧Below w.heap.size w w':=by
 obtain⟨m,hm⟩:=GP l;have hsum:=Ae l m hm;have hln:l.length=n:=hl.1;have hpl:=pt n;have hpz:fc n < 64:=by unfold fc;omega
 rw[hln] at hsum hm;obtain⟨P,hP⟩:=eY (cW n);rw[hP] at hsum hm hpl;obtain⟨R,hR⟩:=eY (d9 l);rw[hR] at hsum ⊢;have hL:=SM hl;have Hsum:=SM hsum;have HP:=SM hP;have Hpl:=SM hpl;have Hm:=SM hm;clear hl hsum hP hR hpl hm
 go_in
 go_upto_region 1 with fail
 have hr:=Row.made (f:=B8) w 35 bO;have hb:=ba (.cells (fw B8 bO) 35) (Sy w);have hsz:(w.alloc (.cells (fw B8 bO) 35)).heap.size=w.heap.size+1:=sm;generalize w.alloc (.cells (fw B8 bO) 35)=w1 at *;have ho:=ao.empty w1 (w.heap.size+1) om;rw[hsz] at ho;have hb2:=ba (.cells #[] 5) (Sy w1);have hbs:=(hL.o.below hb).below (hb2.mono om);have hr2:=hr.below hb2;have hsz2:(w1.alloc (.cells #[] 5)).heap.size=w.heap.size+2:=by simp[hsz]
 have HA:=SM (hb.trans (hb2.mono (by omega:w.heap.size≤w1.heap.size)))
 have HR:=SM hr2;clear hb hb2 hr hr2
 go_wp2_with (at_builtin;refine bJ rfl _ _ rfl (w.heap.size+1) _ _ rfl ho _ _ _ l rfl hbs ?c1 ?c2 ?_)
 case c1=>rw[hln];simp;omega
 case c2=>omega
 intro ad1 c1 W1 ho1 hb1 hn1;replace HR:=SM (HR.o.same (hb1.block _ om));replace HA:=SM (HA.o.trans (hb1.mono om));have hz1:w.heap.size+2≤W1.heap.size:=by have:=hb1.size;omega
 have Ho1:Hd (ao W1 (w.heap.size+1) (.slice ad1 n c1) l):=SM (by simpa using ho1)
 clear ho hbs ho1 hb1 hn1 hsz hsz2
 go_wp2_with fail
 refine (G6 n W1 om).mono ?_;rintro _ W2 ⟨⟨v2,rfl,hnn2,ho2⟩,hb2⟩;rw[HP.o] at ho2;obtain⟨ad2,c2,rfl,hbs2⟩:=ho2.bs;replace Ho1:=SM (Ho1.o.below hb2);replace HR:=SM (HR.o.below hb2);replace HA:=SM (bt HA.o hb2);have hz2:w.heap.size+2≤W2.heap.size:=by have:=hb2.size;omega
 clear hnn2 ho2 hb2;generalize hq:P.length=q at *
 go_wp2_with (at_builtin;refine bJ rfl _ _ rfl (w.heap.size+1) _ l rfl Ho1.o _ _ _ P rfl hbs2 ?c3 ?c4 ?_)
 case c3=>have:=Hpl.o;omega
 case c4=>omega
 intro ad3 c3 W3 ho3 hb3 hn3;replace HR:=SM (HR.o.same (hb3.block _ om));replace HA:=SM (HA.o.trans (hb3.mono om));have hz3:w.heap.size+2≤W3.heap.size:=by have:=hb3.size;omega
 have hN:n+q=64 * m:=by have:=Hm.o;rw[List.length_append] at this;omega
 obtain⟨ad',c',he,hbs⟩:=ho3.bs;have hlen:(l ++ P).length=n+q:=by rw[List.length_append];omega
 rw[hlen] at he hbs;cases he;have Hbs:=SM hbs;obtain⟨_,_,_,_,h5⟩:=hbs;obtain⟨b,o,rfl,hrd⟩:=h5 (by have:=Hpl.o;omega)
 have hbW:=ac hrd;clear hrd;clear h5 ho3 hb3 hn3 hbs2 Ho1 hlen;have hmb:64 * m≤2000000000:=by have:=Hpl.o;omega
 generalize l ++ P=AL at *;generalize n+q=N at *;clear Hpl HP Hm hL hq;subst hN
 go_wp2_with fail
 refine (z8 W3).mono ?_;rintro _ W4' ⟨rfl,hb4⟩;replace Hbs:=SM (Hbs.o.below hb4);replace HR:=SM (HR.o.below hb4);replace HA:=SM (bt HA.o hb4);have hz4:w.heap.size+2≤W4'.heap.size:=by have:=hb4.size;omega
 have hbS:b < W4'.heap.size:=by have:=hb4.size;omega
 clear hbW;clear hb4;obtain⟨hS,hb5,hs5⟩:=dU W4' 248 W4 ou
 go_wp2_with fail
 generalize W4'.alloc (.cells (fw W4 ou) 248)=W5 at *;have HS:=SM hS;replace Hbs:=SM (Hbs.o.below hb5);replace HR:=SM (HR.o.below hb5);replace HA:=SM (bt HA.o hb5);clear hS hb5;generalize hSB:W4'.heap.size=SB at *;refine (Aa W5).mono ?_;rintro _ W6 ⟨rfl,hb6⟩;replace Hbs:=SM (Hbs.o.below hb6);replace HR:=SM (HR.o.below hb6);replace HA:=SM (bt HA.o hb6);replace HS:=SM (HS.o.below hb6);have hz6:SB+1≤W6.heap.size:=by have:=hb6.size;omega
 clear hb6;obtain⟨hT,hb7,hs7⟩:=dU W6 296 W4 lD
 go_wp2_with fail
 generalize W6.alloc (.cells (fw W4 lD) 296)=W7 at *;have HT:=SM hT;replace Hbs:=SM (Hbs.o.below hb7);replace HR:=SM (HR.o.below hb7);replace HA:=SM (bt HA.o hb7);replace HS:=SM (HS.o.below hb7);clear hT hb7;generalize hTB:W6.heap.size=TB at *
 go_loopw [6] (fun i wr=>∃ k:Nat,k≤m∧i = .int .i64 (64 * (k:Int))∧Row W4 wr SB (ru AL k)∧Row W4 wr TB lD∧Row B8 wr w.heap.size bO∧Bs wr (some ⟨b,o,none⟩) (64 * m) c3 AL∧Below w.heap.size w wr) (fun i _=>64 * m - (intOf i).toNat)
 case atStart=>exact⟨0,om,rfl,HS.o,HT.o,HR.o,Hbs.o,HA.o⟩
 case round =>
  clear HS HT HR Hbs HA;obtain⟨k,hk,rfl,hS,hT,hR,hbs,hA⟩:=hrel;have HS:=SM hS;have HT:=SM hT;have HR:=SM hR;have Hbs:=SM hbs;have HA:=SM hA;clear hS hT hR hbs hA
  by_cases hlt:k < m
  ·have w1:IntKind.i64.wrap (64 * (k:Int)+64)=64 * (k:Int)+64:=wi;have hsl:∀ W,(Instr.slice 39 (.slice (some ⟨b,o,none⟩) (64 * m) c3) (some (.int .i64 (64 * (k:Int)))) (some (.int .i64 (64 * (k:Int)+64))) none).run prog W = .ok (.slice (some ⟨b,o+64 * k,none⟩) 64 (c3 - 64 * k)) W:=fun W=>by
    have:=vU b o (64 * m) c3 (64 * k) (64 * k+64) om om Hbs.o.2.1 (64 * (k:Int)) om (64 * (k:Int)+64) om W;rw[show 64 * k+64 - 64 * k=64 by omega] at this
    exact this
   have Hsl:=SM hsl;clear hsl;have d1:decide (64 * (k:Int) < ((64 * m:Nat):Int))=true:=dt
   go_upto_region 7 with fail
   have hdb:=(Sy wr).drew;refine yW (tk 0 9 (.run 9 (.brk 10 .done))) (fun u=>readAt u SB 0 8=some (fw W4 (ru AL k))∧readAt u b (o+64 * k) 64=some (fw B8 (yJ AL k))∧readAt u TB 0 64=some (fw W4 lD)) ⟨(HS.o.below hdb).r,oI (Hbs.o.below hdb) k om,(HT.o.below hdb).r⟩ ?_;replace HS:=SM (HS.o.below hdb);replace HT:=SM (HT.o.below hdb);replace HR:=SM (HR.o.below hdb);replace Hbs:=SM (Hbs.o.below hdb);replace HA:=SM (bt HA.o hdb)
   clear hdb;generalize wr.drew=wr at *;have hsl:=Hsl.o
   repeat((first|refine yO ?_|refine yM ?_|refine yF rfl rfl (fun w' hC'=>by obtain⟨c1,c2,c3⟩:=hC';go_simp;first|done|exact rfl) ?_);walk_nrm)
   refine yR ?_;refine (zT (ru AL k) (yJ AL k) wr).mono ?_;rintro _ w8 ⟨rfl,hb8⟩;replace HS:=SM (HS.o.below hb8);replace HT:=SM (HT.o.below hb8);replace HR:=SM (HR.o.below hb8);replace Hbs:=SM (Hbs.o.below hb8);replace HA:=SM (bt HA.o hb8);refine kS ⟨HS.o.r,oI Hbs.o k om,HT.o.r⟩ ?_;walk_nrm;have q3:=HS.o.k;refine et rfl rfl (fun K hK=>?_);go_simp;refine hK _ _ (fun _=>True) trivial (al ?_);have HS2:Hd (Row W4 (setAt w8 SB 0 (fw W4 (ru AL (k+1)))) SB (ru AL (k+1))):=SM (HS.o.all (ru AL (k+1)))
   rw[show cL (ru AL k) (yJ AL k)=ru AL (k+1) from rfl]
   replace HT:=SM (HT.o.apart SB 0 (fw W4 (ru AL (k+1))) om);replace HR:=SM (HR.o.apart SB 0 (fw W4 (ru AL (k+1))) om);replace Hbs:Hd (Bs (setAt w8 SB 0 (fw W4 (ru AL (k+1)))) (some ⟨b,o,none⟩) (64 * m) c3 AL):=SM (Hbs.o.kb (X:=fun i=>i=SB) ((Kb.refl _ _).at1 SB 0 _ rfl) (fun g hg=>by cases hg;show b≠SB;omega))
   replace HA:=SM (aa HA.o (b:=SB) om 0 (fw W4 (ru AL (k+1))));generalize setAt w8 SB 0 (fw W4 (ru AL (k+1)))=w9 at *;clear q3 hb8 HS hsl
   go_wp2
   go_roundw
   case rel=>exact⟨k+1,om,by go_num,HS2.o,HT.o,HR.o,Hbs.o,HA.o⟩
   case measure=>simp[intOf];omega
  ·obtain rfl:k=m:=om;have d1:decide (64 * (k:Int) < ((64 * k:Nat):Int))=false:=df;clear Hbs HT;have hlS0:SB < wr.heap.size:=HS.o.lt
   go_upto_region 8 with fail
   obtain⟨hO,hb9,hs9⟩:=dU wr 35 B8 bO;replace HS:=SM (HS.o.below hb9);replace HR:=SM (HR.o.below hb9);replace HA:=SM (bt HA.o hb9);have hlS:SB < wr.heap.size:=hlS0
   go_upto_region 9 with fail
   generalize wr.alloc (.cells (fw B8 bO) 35)=w10 at *;generalize hOB:wr.heap.size=OB at *;rw[← rT (ru AL k)] at hO;have HO:=SM hO;clear hO hb9;generalize ru AL k=y at *
   go_wp2
   go_loopw [8] (fun i wr=>∃ j:Nat,j≤32∧i = .int .i64 j∧Row W4 wr SB y∧Row B8 wr OB (y6 y j)∧Row B8 wr w.heap.size bO∧Below w.heap.size w wr) (fun i _=>32 - (intOf i).toNat)
   case atStart=>exact⟨0,om,rfl,HS.o,HO.o,HR.o,HA.o⟩
   case round =>
    clear HS HO HR HA;obtain⟨j,hj,rfl,hS,hO,hR,hA⟩:=hrel;have HS:=SM hS;have HO:=SM hO;have HR:=SM hR;have HA:=SM hA;clear hS hO hR hA
    by_cases hjt:j < 32
    ·have i1:(0:Int)≤(j:Int):=om;have i2:(j:Int) < 32:=om;obtain⟨q4,hq4⟩ : ∃ q,j / 4=q:=⟨_,rfl⟩;obtain⟨r4,hr4⟩ : ∃ r,j % 4=r:=⟨_,rfl⟩;have hjq:j=4 * q4+r4:=om;have e5:(j:Int).tdiv 4=(q4:Int):=by rw[Int.tdiv_eq_ediv_of_nonneg i1];omega
     have e6:(j:Int) / 4=(q4:Int):=om;have e7:(j:Int).tmod 4=(r4:Int):=by rw[Int.tmod_eq_emod_of_nonneg i1];omega
     have e8:(j:Int) % 4=(r4:Int):=om;have i3:(0:Int)≤(q4:Int):=om;have i4:(q4:Int) < 8:=om;have i5:q4 < 8:=om;have i6:r4 < 4:=om;have w1:IntKind.i64.wrap (8 * (r4:Int))=8 * (r4:Int):=wi;have w2:IntKind.i64.wrap (24 - 8 * (r4:Int))=((24 - 8 * r4:Nat):Int):=wi;have w3:IntKind.u64.wrap ((24 - 8 * r4:Nat):Int)=((24 - 8 * r4:Nat):Int):=wu;have hout:=Dk y q4 r4 i5 i6;rw[← hjq] at hout;have w5:=Au y[q4] (24 - 8 * r4) om
     have c1:=HS.o.cell q4 i5;have c2:=HO.o.free j;have c0:=HO.o.cell j hjt;have hs1:=HO.o.set j hjt (Ln y j);rw[rS y j hjt,hout] at hs1;have w4:(0:Int)≤((24 - 8 * r4:Nat):Int):=om;have w6:((24 - 8 * r4:Nat):Int)≤32:=om;clear hout hq4 hr4 hjq;generalize (24 - 8 * r4:Nat)=g at *;have Hs1:=SM hs1;clear hs1;replace HS:Hd (Row W4 (wr.setCell ⟨OB,j,none⟩ (B8 (y[q4] >>> UInt32.ofNat g).toUInt8)) SB y):=HS.o.other _ _ (by show OB≠SB;omega)
     replace HR:Hd (Row B8 (wr.setCell ⟨OB,j,none⟩ (B8 (y[q4] >>> UInt32.ofNat g).toUInt8)) w.heap.size bO):=HR.o.other _ _ (by show OB≠_;omega)
     replace HA:Hd (Below w.heap.size w (wr.setCell ⟨OB,j,none⟩ (B8 (y[q4] >>> UInt32.ofNat g).toUInt8))):=HA.o.setCell (p:=⟨OB,j,none⟩) (by show _≤OB;omega) _
     go_wp2
     go_roundw
     case rel=>exact⟨j+1,om,by go_num,HS.o,Hs1.o,HR.o,HA.o⟩
     case measure=>simp[intOf];omega
    ·obtain rfl:j=32:=om;rw[xj,← Hsum.o] at HO;have c1:=HO.o.r;have c2:=HR.o.k
     go_wp2
     refine bodyPost_ret (fK rfl _ _ w.heap.size 0 (fw B8 R) rfl (HR.o.all R).r) rfl ⟨rfl,aa HA.o (Nat.le_refl _) _ _⟩
end
section
open Go.RowKit Go.ChangeMaps
theorem xR(w:World)(base:Nat)(ty:TypeId)(v:Value)(l:List UInt8)(hown:ao w base v l)(ad:Option Addr)(n c:Nat)(m:List UInt8)(hb:Bs w ad n c m)(hlen:l.length+m.length≤1099511627776)(hbase:base≤w.heap.size):
  ∃ v' w',(Builtin.append_ #[39,39] ty #[v,.slice ad n c]).run prog w = .ok v' w'∧ao w' base v' (l ++ m)∧w.grownBy w' v.ownBlock∧(v'.ownBlock=v.ownBlock∨v'.ownBlock=some w.heap.size):=by
 obtain⟨i0,hi,hz,hsz,hby⟩:=info_parts fS;have hn:m.length=n:=hb.1
 rcases hb.src with ⟨rfl,rfl,rfl,rfl⟩ | ⟨a,rfl,hsrc⟩
 ·exact⟨v,w,run_append_owned_none w base _ ty 5 i0 1 underlying39 hi v _ _ hown,by simpa using hown,⟨rfl,rfl,rfl,Nat.le_refl _,fun _ _ _=>rfl⟩,.inl rfl⟩
 ·obtain⟨v',w',hr,ho,hg,hnil,hl⟩:=run_append_own_at (P:=prog) w base 39 ty 5 i0 _ 1 1 underlying39 hi hz hsz hby rfl dc v l.length (l.map B8) hown a n c (m.map B8) (by rw[List.length_map];omega) hsrc (dZ _) (by simp only[maxLen];omega) om hbase
  refine⟨v',w',hr,?_,hg,hl⟩;unfold ao;rw[List.length_append,List.map_append,hn];exact ho
theorem eG{w:World}{ops:Array Oper}{rest:List Oper}{o:Oper}{a:Act}{Q:Exit→Act→World→Prop}(hgd:o.guard=none)(s x:Operand)
  (ho:o.op = .call { callee:=.builtin .append,args:=#[s,x],argTypes:=#[39,39] })
  (base:Nat) (v:Value) (l:List UInt8) (hs:a.eval s=v) (hown:ao w base v l) (ad:Option Addr) (n c:Nat) (m:List UInt8) (hx:a.eval x = .slice ad n c) (hb:Bs w ad n c m)
  (hlen:l.length+m.length≤1099511627776) (hbase:base≤w.heap.size)
  (h:∀ v' w',ao w' base v' (l ++ m)→w.grownBy w' v.ownBlock→(v'.ownBlock=v.ownBlock∨v'.ownBlock=some w.heap.size)→wpList prog ops Q rest (a.put o.dst v') w'):wpList prog ops Q (o :: rest) a w:=by
 obtain⟨v',w',hr,h1,h2,h3⟩:=xR w base o.type v l hown ad n c m hb hlen hbase;refine wpList_plain hgd fun K hK=>?_;unfold Oper.wp execOp;simp only[ho,resolve,invoke,builtin,Sem.run_bind,Sem.run_pure,Result.andThen_ok,List.map_toArray,List.map_cons,List.map_nil,hs,hx,hr];exact hK _ _ (h _ _ h1 h2 h3)
structure Sn (w:World) (B:Nat) (v1 v2:Value) (l1 l2:List UInt8):Prop where
 o1:ao w B v1 l1
 o2:ao w B v2 l2
 d:∀ g,v1.ownBlock=some g→v2.ownBlock≠some g
theorem Sn.symm{w:World}{B:Nat}{v1 v2:Value}{l1 l2:List UInt8}(h:Sn w B v1 v2 l1 l2):Sn w B v2 v1 l2 l1:=⟨h.o2,h.o1,fun g h1 h2=>h.d g h2 h1⟩
theorem Sn.below{w u:World}{B:Nat}{v1 v2:Value}{l1 l2:List UInt8}(h:Sn w B v1 v2 l1 l2)(hb:Below w.heap.size w u):Sn u B v1 v2 l1 l2:=⟨h.o1.below hb,h.o2.below hb,h.d⟩
theorem ao.in{w:World}{B:Nat}{v:Value}{l:List UInt8}(h:ao w B v l)(g:Nat)(hg:v.ownBlock=some g):B≤g∧g < w.heap.size:=by
 have:=h.lt g hg;exact this
theorem Sn.grown{w u:World}{B:Nat}{v1 v2 v1':Value}{l1 l2 l1':List UInt8}(h:Sn w B v1 v2 l1 l2)(h1:ao u B v1' l1')(hg:w.grownBy u v1.ownBlock)(hv:v1'.ownBlock=v1.ownBlock∨v1'.ownBlock=some w.heap.size):Sn u B v1' v2 l1' l2:=by
 refine⟨h1,h.o2.kept hg ?_,fun g hg1 hg2=>?_⟩
 ·cases e:v2.ownBlock with
  | none=>exact .inl rfl
  | some g=>exact .inr (fun e2=>h.d g e2.symm e)
 ·rcases hv with hv | hv
  ·rw[hv] at hg1;exact h.d g hg1 hg2
  ·rw[hv] at hg1;cases hg1;have:=(h.o2.in _ hg2).2;omega
theorem Dn(k:List UInt8)(i:Nat)(hi:i < 64):(dA k)[i]=if i < k.length then k.getD i 0 else 0:=by
 simp[dA,eX,cB]
theorem tY(k:List UInt8)(c:UInt8)(i:Nat)(hi:i < 64):(nU (dA k) c).toList.take (i+1)=(nU (dA k) c).toList.take i ++ [(if i < k.length then k.getD i 0 else 0) ^^^ c]:=by
 rw[List.take_add_one,List.getElem?_eq_getElem (by simpa using hi)]
 simp only[Vector.getElem_toList,Option.toList_some];rw[show (nU (dA k) c)[i]=(dA k)[i] ^^^ c by simp[nU],Dn k i hi]
theorem dy{B:Nat}{a b c:World}{row:Option Nat}(h:Below B a b)(hg:b.grownBy c row)(hz:B≤b.heap.size)(hr:∀ k,row=some k→B≤k):Below B a c:=h.grown hg hz hr
theorem s7(ka:Option Addr)(kn kc:Nat)(kl:List UInt8)(ad:Option Addr)(n c:Nat)(l:List UInt8)(w:World)(hk:Bs w ka kn kc kl)(hk2:kn≤64)(hl:Bs w ad n c l)(hn:n≤900000000):
  Calls prog 102 #[.slice ka kn kc,.slice ad n c] w fun e w'=>e = .returned (.agg (fw B8 (xA kl l)))∧Below w.heap.size w w':=by
 obtain⟨R,hR⟩:=eY (xA kl l);rw[hR];unfold xA at hR;have HRr:=SM hR;have hkl:kl.length=kn:=hk.1;have hln:l.length=n:=hl.1;have HK:=SM hk;have HL:=SM hl;clear hR hk hl
 go_in
 go_upto_region 1 with fail
 obtain⟨hr,hb,hsz⟩:=dU w 35 B8 bO;generalize w.alloc (.cells (fw B8 bO) 35)=w1 at *;have ho:=ao.empty w1 (w.heap.size+1) om;rw[hsz] at ho;have hb2:=ba (.cells #[] 5) (Sy w1);have hbs:=(HK.o.below hb).below (hb2.mono om);have hsz2:(w1.alloc (.cells #[] 5)).heap.size=w.heap.size+2:=by simp[hsz]
 have HA:=SM (hb.trans (hb2.mono (by omega:w.heap.size≤w1.heap.size)))
 have HR:=SM (hr.below hb2);clear hb hb2 hr HK
 go_wp2_with (at_builtin;refine bJ rfl _ _ rfl (w.heap.size+1) _ _ rfl ho _ _ _ kl rfl hbs ?c1 ?c2 ?_)
 case c1=>rw[hkl];simp;omega
 case c2=>omega
 intro ad1 c1 W1 ho1 hb1 hn1;replace HR:=SM (HR.o.same (hb1.block _ om));replace HA:=SM (HA.o.trans (hb1.mono om));have Ho1:Hd (ao W1 (w.heap.size+1) (.slice ad1 kn c1) kl):=SM (by simpa using ho1)
 clear ho hbs hn1 ho1;have hz1:w.heap.size+2≤W1.heap.size:=by have:=hb1.size;omega
 clear hb1 hsz hsz2;have d1:decide ((kn:Int) > 64)=false:=df;have d2:decide ((64:Int) < (kn:Int))=false:=df
 go_wp2_with fail
 clear d1 d2
 go_loopw [7,8,9] (fun v1 v2 i wr=>∃ j:Nat,j≤64∧i = .int .i64 j∧Sn wr W1.heap.size v1 v2 ((nU (dA kl) 54).toList.take j) ((nU (dA kl) 92).toList.take j)∧Below W1.heap.size W1 wr) (fun _ _ i _=>64 - (intOf i).toNat)
 case atStart=>exact⟨0,om,rfl,⟨ao.nil _ _,ao.nil _ _,fun g h=>by cases h⟩,Below.refl _ _⟩
 case round =>
  obtain⟨j,hj,rfl,hT,hB⟩:=hrel;obtain⟨a1,k1,rfl⟩:=hT.o1.len;obtain⟨a2,k2,rfl⟩:=hT.o2.len;have HT:=SM hT;have HB:=SM hB;clear hT hB
  by_cases hlt:j < 64
  ·have hx1:=tY kl 54 j hlt;have hx2:=tY kl 92 j hlt;have hl1:((nU (dA kl) 54).toList.take j).length=j:=sO;have hl2:((nU (dA kl) 92).toList.take j).length=j:=sO;rw[hl1,hl2] at HT ⊢;have Hx1:=SM hx1;have Hx2:=SM hx2;have Hl1:=SM hl1;have Hl2:=SM hl2;clear hx1 hx2 hl1 hl2;generalize (nU (dA kl) 54).toList.take j=T1 at *;generalize (nU (dA kl) 92).toList.take j=T2 at *;have key:∃ c:UInt8,Hd ((if j < kl.length then kl.getD j 0 else 0)=c):=⟨_,rfl⟩
   obtain⟨c,hc⟩:=key;rw[hc.o] at Hx1 Hx2;have e54:bits .xor .u8 (bI c) (54:Int)=bI (c ^^^ 54):=Kn c 54;have e92:bits .xor .u8 (bI c) (92:Int)=bI (c ^^^ 92):=Kn c 92;obtain⟨ad',c',he,hbs⟩:=(Ho1.o.below HB.o).bs;rw[hkl] at he hbs;simp only[Value.slice.injEq,true_and] at he;obtain⟨rfl,rfl⟩:=he;have HBs:=SM hbs;clear hbs;have hz:W1.heap.size≤wr.heap.size:=HB.o.size;have i1:(0:Int)≤(j:Int):=om;have i2:(j:Int) < 64:=om
   by_cases hjk:j < kn
   ·obtain⟨b,o,rfl,hcell⟩:=HBs.o.at j hjk;have hcc:((kl.getD j 0).toNat:Int)=bI c:=by rw[← hc.o,if_pos (by rw[hkl];exact hjk)];rfl
    rw[hcc] at hcell;have d1:decide ((j:Int) < (kn:Int))=true:=dt;have i3:(j:Int) < (kn:Int):=om;clear hcc
    go_upto_region 13 with fail
    clear hcell;have hb3:=ba (.cells #[.int .u8 (bI (c ^^^ 54))] 5) (Sy wr);have HT3:=SM (HT.o.below hb3);have hs3:=fD wr (c ^^^ 54) (bI (c ^^^ 54)) rfl
    go_wp2_with (at_builtin;refine eG rfl _ _ rfl W1.heap.size _ T1 rfl HT3.o.o1 _ _ _ [c ^^^ 54] rfl hs3 ?c1 ?c2 ?_)
    case c1=>have:=Hl1.o;(try simp);omega
    case c2=>(try simp);omega
    intro v1' w4 ho4 hg4 hv4;have hT4:=HT3.o.grown ho4 hg4 (by simpa using hv4)
    have hB4:=dy (HB.o.trans (hb3.mono hz)) hg4 sO (fun g hg=>(HT3.o.o1.in g hg).1);obtain⟨a1',k1',rfl⟩:=hT4.o1.len;have hlen1:(T1 ++ [c ^^^ 54]).length=j+1:=by have:=Hl1.o;simp;omega
    rw[hlen1] at hT4 ⊢;clear hlen1;have HT4:=SM hT4;have HB4:=SM hB4;have hz4:W1.heap.size≤w4.heap.size:=hB4.size;clear hb3 HT3 hs3 ho4 hg4 hv4 hT4 hB4;generalize T1 ++ [c ^^^ 54]=M1 at *
    go_upto_region 14 with fail
    have hb5:=ba (.cells #[.int .u8 (bI (c ^^^ 92))] 5) (Sy w4);have HT5:=SM (HT4.o.below hb5);have hs5:=fD w4 (c ^^^ 92) (bI (c ^^^ 92)) rfl
    go_wp2_with (at_builtin;refine eG rfl _ _ rfl W1.heap.size _ T2 rfl HT5.o.o2 _ _ _ [c ^^^ 92] rfl hs5 ?c3 ?c4 ?_)
    case c3=>have:=Hl2.o;(try simp);omega
    case c4=>(try simp);omega
    intro v2' w6 ho6 hg6 hv6;have hT6:=(HT5.o.symm.grown ho6 hg6 (by simpa using hv6)).symm
    have hB6:=dy (HB4.o.trans (hb5.mono hz4)) hg6 sO (fun g hg=>(HT5.o.o2.in g hg).1);have HT6:=SM hT6;have HB6:=SM hB6;clear hb5 HT5 hs5 ho6 hg6 hv6 hT6 hB6
    go_wp2
    go_roundw
    case rel=>exact⟨j+1,om,by go_num,by rw[Hx1.o,Hx2.o];exact HT6.o,HB6.o⟩
    case measure=>simp[intOf];omega
   ·have hcc:(0:Int)=bI c:=by rw[← hc.o,if_neg (by rw[hkl];exact hjk)];rfl
    have d1:decide ((j:Int) < (kn:Int))=false:=df;have i3 : ¬ (j:Int) < (kn:Int):=om;have Hcc:=SM hcc;clear hcc
    go_upto_region 13 with fail
    rw[show Value.int .u8 0=Value.int .u8 (bI c) from by rw[Hcc.o]]
    have hb3:=ba (.cells #[.int .u8 (bI (c ^^^ 54))] 5) (Sy wr);have HT3:=SM (HT.o.below hb3);have hs3:=fD wr (c ^^^ 54) (bI (c ^^^ 54)) rfl
    go_wp2_with (at_builtin;refine eG rfl _ _ rfl W1.heap.size _ T1 rfl HT3.o.o1 _ _ _ [c ^^^ 54] rfl hs3 ?c1 ?c2 ?_)
    case c1=>have:=Hl1.o;(try simp);omega
    case c2=>(try simp);omega
    intro v1' w4 ho4 hg4 hv4;have hT4:=HT3.o.grown ho4 hg4 (by simpa using hv4)
    have hB4:=dy (HB.o.trans (hb3.mono hz)) hg4 sO (fun g hg=>(HT3.o.o1.in g hg).1);obtain⟨a1',k1',rfl⟩:=hT4.o1.len;have hlen1:(T1 ++ [c ^^^ 54]).length=j+1:=by have:=Hl1.o;simp;omega
    rw[hlen1] at hT4 ⊢;clear hlen1;have HT4:=SM hT4;have HB4:=SM hB4;have hz4:W1.heap.size≤w4.heap.size:=hB4.size;clear hb3 HT3 hs3 ho4 hg4 hv4 hT4 hB4;generalize T1 ++ [c ^^^ 54]=M1 at *
    go_upto_region 14 with fail
    have hb5:=ba (.cells #[.int .u8 (bI (c ^^^ 92))] 5) (Sy w4);have HT5:=SM (HT4.o.below hb5);have hs5:=fD w4 (c ^^^ 92) (bI (c ^^^ 92)) rfl
    go_wp2_with (at_builtin;refine eG rfl _ _ rfl W1.heap.size _ T2 rfl HT5.o.o2 _ _ _ [c ^^^ 92] rfl hs5 ?c3 ?c4 ?_)
    case c3=>have:=Hl2.o;(try simp);omega
    case c4=>(try simp);omega
    intro v2' w6 ho6 hg6 hv6;have hT6:=(HT5.o.symm.grown ho6 hg6 (by simpa using hv6)).symm
    have hB6:=dy (HB4.o.trans (hb5.mono hz4)) hg6 sO (fun g hg=>(HT5.o.o2.in g hg).1);have HT6:=SM hT6;have HB6:=SM hB6;clear hb5 HT5 hs5 ho6 hg6 hv6 hT6 hB6
    go_wp2
    go_roundw
    case rel=>exact⟨j+1,om,by go_num,by rw[Hx1.o,Hx2.o];exact HT6.o,HB6.o⟩
    case measure=>simp[intOf];omega
  ·obtain rfl:j=64:=om;rw[List.take_of_length_le sm,List.take_of_length_le sm] at HT ⊢;have hx1:(nU (dA kl) 54).toList.length=64:=sm;have hx2:(nU (dA kl) 92).toList.length=64:=sm;have hR:=HRr.o;generalize (nU (dA kl) 54).toList=X1 at *;generalize (nU (dA kl) 92).toList=X2 at *;rw[hx1,hx2] at HT ⊢;have Hx1:=SM hx1;have Hx2:=SM hx2;have hz:W1.heap.size≤wr.heap.size:=HB.o.size;have HLr:=SM (HL.o.below (HA.o.trans (HB.o.mono om)))
   obtain⟨inn,hinn⟩:=eY (d9 (X1 ++ l));rw[hinn] at hR;replace HRr:=SM hR;have Hinn:=SM hinn;clear hR hinn hx1 hx2 Ho1 hkl
   go_upto_region 15 with fail
   go_wp2_with (at_builtin;refine eG rfl _ _ rfl W1.heap.size _ X1 rfl HT.o.o1 _ _ _ l rfl HLr.o ?c1 ?c2 ?_)
   case c1=>have:=Hx1.o;omega
   case c2=>omega
   intro v3 w3 ho3 hg3 hv3;have hT3:=HT.o.grown ho3 hg3 hv3;have hB3:=dy HB.o hg3 hz (fun g hg=>(HT.o.o1.in g hg).1);obtain⟨a3,k3,rfl,hbs3⟩:=ho3.bs;have hl3:(X1 ++ l).length=64+n:=by have:=Hx1.o;rw[List.length_append];omega
   rw[hl3] at hbs3 ⊢;have HT3:=SM hT3;have HB3:=SM hB3;have HS3:=SM hbs3;clear ho3 hg3 hv3 hT3 hB3 hbs3 hl3 HT HLr
   go_wp2_with fail
   refine (sZ a3 (64+n) k3 (X1 ++ l) w3 HS3.o om).mono ?_;rintro _ w4 ⟨rfl,hb4⟩;rw[Hinn.o];replace HT3:=SM (HT3.o.below hb4);replace HB3:=SM (HB3.o.trans (hb4.mono (by have:=HB3.o.size;omega)))
   have hz4:W1.heap.size≤w4.heap.size:=HB3.o.size;clear hb4 HS3;obtain⟨hI,hb5,hs5⟩:=dU w4 35 B8 inn
   go_upto_region 16 with fail
   generalize w4.alloc (.cells (fw B8 inn) 35)=w5 at *;replace HT3:=SM (HT3.o.below hb5);replace HB3:=SM (HB3.o.trans (hb5.mono hz4));have HIb:=SM (hI.bs dc);clear hI hb5;generalize w4.heap.size=I at *;have hz5:W1.heap.size≤w5.heap.size:=HB3.o.size
   go_wp2_with (at_builtin;refine eG rfl _ _ rfl W1.heap.size _ X2 rfl HT3.o.o2 _ _ _ inn.toList rfl HIb.o ?c3 ?c4 ?_)
   case c3=>have:=Hx2.o;simp;omega
   case c4=>omega
   intro v6 w6 ho6 hg6 hv6;have hB6:=dy HB3.o hg6 hz5 (fun g hg=>(HT3.o.o2.in g hg).1);obtain⟨a6,k6,rfl,hbs6⟩:=ho6.bs;have hl6:(X2 ++ inn.toList).length=96:=by have:=Hx2.o;rw[List.length_append,Vector.length_toList];omega
   rw[hl6] at hbs6 ⊢;have HB6:=SM hB6;have HS6:=SM hbs6;clear ho6 hg6 hv6 hB6 hbs6 hl6 HT3 HIb
   go_wp2_with fail
   refine (sZ a6 96 k6 (X2 ++ inn.toList) w6 HS6.o om).mono ?_;rintro _ w7 ⟨rfl,hb7⟩;rw[HRr.o];replace HB6:=SM (HB6.o.trans (hb7.mono HB6.o.size));replace HR:=SM (HR.o.same (HB6.o.block _ om));replace HA:=SM (HA.o.trans (HB6.o.mono om));have hk:=HR.o.k;clear hb7 HS6
   go_wp2
   refine bodyPost_ret (fK rfl _ _ w.heap.size 0 (fw B8 R) rfl (HR.o.all R).r) rfl ⟨rfl,aa HA.o (Nat.le_refl _) _ _⟩
end
section
theorem gV(k x:Nat)(w:World)(hk1:1≤k)(hk8:k≤8)(hx:x < 256 ^ k)(hx64:x < 18446744073709551616):
  Calls prog 171 #[.int .i64 k,.int .u64 x] w fun e w'=>(∃ B,w.heap.size≤B∧e = .returned (.slice (some ⟨B,0,none⟩) k k)∧Bs w' (some ⟨B,0,none⟩) k k (be k x))∧Below w.heap.size w w':=by
 go_in
 go_wp2_with fail
 refine (ii k x _ hk1 hk8 hx hx64).mono ?_;rintro _ w1 ⟨⟨B,hB,rfl,hb⟩,hb1⟩;have Hb:=SM hb;clear hb
 go_wp2
 go_ret
 exact⟨⟨B,hB,rfl,Hb.o⟩,hb1⟩
theorem Ey(B:Nat)(l:List UInt8)(n:Nat)(w:World)(h:Sf w B l)(hn:n≤l.length)(hs:n≤1073741824):
  Calls prog 185 #[.pointer (some ⟨B,0,none⟩),.int .i64 n] w fun e w'=>(∃ v,e = .returned v∧dJ v∧ao w' w.heap.size v (l.take n))∧Sf w' B (l.drop n)∧∃ w1,cC B w w1∧Below w1.heap.size w1 w':=by
 have H:=SM h;clear h;have d0:decide ((n:Int) < 0)=false:=sm
 go_in
 go_wp2_with fail
 refine (C9 B l n _ H.o hn).mono ?_;rintro _ w1 ⟨g,o,hg,rfl,hbs,hrd,ho⟩;have Hbs:=SM hbs;have Hrd:=SM hrd;have Ho:=SM ho;clear hbs hrd ho
 go_wp2_with fail
 refine (fA _ n n _ _ Hbs.o om).mono ?_;rintro _ w2 ⟨⟨v,rfl,hne,hown⟩,hb2⟩;have hfin:Hd (ao w2 w.heap.size v (l.take n)∧dJ v∧Sf w2 B (l.drop n)∧Below w1.heap.size w1 w2):=⟨bj hown (by rw[Ho.o.size];exact Nat.le_refl _),hne,Hrd.o.below hb2,hb2⟩
 clear hne hown hb2
 go_wp2
 go_ret
 exact⟨⟨_,rfl,hfin.o.2.1,hfin.o.1⟩,hfin.o.2.2.1,w1,Ho.o,hfin.o.2.2.2⟩
theorem ME(B:Nat)(n:Nat)(w:World)(h:fC w B∨∃ l,Sf w B l∧l.length < n)(hs:n≤1073741824):
  Calls prog 185 #[.pointer (some ⟨B,0,none⟩),.int .i64 n] w fun e w'=>e = .returned (.slice none 0 0)∧fC w' B∧cC B w w':=by
 have d0:decide ((n:Int) < 0)=false:=sm;have hnx:Calls prog 179 #[.pointer (some ⟨B,0,none⟩),.int .u64 n] w (rA B w):=by
  rcases h with h | ⟨l,h,hl⟩
  ·exact qG B n w h
  ·exact vl B l n w h om
 have Hnx:=SM hnx;clear h hnx
 go_in
 go_wp2_with fail
 refine Hnx.o.mono ?_;rintro _ w1 ⟨rfl,hb,ho⟩
 go_wp2
 go_ret
 exact⟨rfl,hb,ho⟩
theorem nz{w:World}{b o:Nat}{x:Sj}(h:readAt w b o 64=some (av x))(i k c:Nat)(hi:i+k≤64)(hc:k≤c)(hcm:c≤64):Bs w (some ⟨b,o+i,none⟩) k c (((sl x).drop i).take k):=by
 refine⟨sO,hc,om,fun h=>(by cases h),fun h0=>⟨b,o+i,rfl,?_⟩⟩
 rw[aB h (o+i) k om om,show o+i - o=i by omega,Fp,eu]
theorem xw(x:Sj)(w:World):
  Calls prog 122 #[.agg (av x)] w fun e w'=>e = .returned (.int .u32 (aX x:Nat))∧Below w.heap.size w w':=by
 have hr:readAt (w.alloc (.cells (av x) 201)) w.heap.size 0 64=some (av x):=by simp[go_sem]
 have hb:=nz hr 60 4 4 om om om;have hB:=ba (.cells (av x) 201) (Sy w);have ht:((sl x).drop 60).take 4=(sl x).drop 60:=List.take_of_length_le sm;rw[ht] at hb;have hnb:nb ((sl x).drop 60) < 4294967296:=by
  have:=nb_lt ((sl x).drop 60);simp only[List.length_drop,tF] at this;exact this
 have Hb:=SM hb;have HB:=SM hB;have htag:aX x=nb ((sl x).drop 60):=rfl;rw[htag];have hl4:((sl x).drop 60).length=4:=sm;have Hl4:=SM hl4;clear hr hb hB ht htag hl4;generalize (sl x).drop 60=l at *;have htk:l.take 4=l:=List.take_of_length_le (by rw[Hl4.o];exact Nat.le_refl _)
 have Htk:=SM htk;clear htk;obtain⟨t,ht⟩:=eY (nb l);rw[ht] at hnb ⊢;have HT:=SM ht;clear ht
 go_in
 go_wp2_with fail
 refine (C6 _ 4 4 l _ Hb.o om).mono ?_;rintro _ w1 ⟨⟨B,hBB,rfl,hrd⟩,hb1⟩;have Hrd:=SM hrd;have Hb1:=SM (bt HB.o hb1);have hBge:=Nat.le_trans HB.o.size hBB;clear hrd hb1 HB hBB
 go_wp2_with fail
 refine (gz B l 4 _ Hrd.o om om (by rw[Hl4.o];exact Nat.le_refl _)).mono ?_
 rw[Htk.o,HT.o];rintro _ w2 ⟨rfl,_,ho⟩;have hfin:=SM (ho.below Hb1.o hBge);clear ho Hb1 Hrd
 go_wp2
 go_ret
 exact⟨rfl,hfin.o⟩
theorem Jc(l:List UInt8)(i:Nat)(hi:i < l.length):(bv l)[i]? = some (.int .u8 ((l.getD i 0).toNat:Int)):=by
 simp[bv,B8,List.getD,hi]
end
section
open Go.RowKit
end
section
theorem Ee(l:List UInt8)(h:l.length≤64):sl (ic l)=l ++ List.replicate (64 - l.length) 0:=by
 apply List.ext_getElem
 ·simp;omega
 ·intro i h1 h2;simp at h1
  by_cases hi:i < l.length
  ·rw[List.getElem_append_left hi];simp[sl,ic,List.getD,hi]
  ·rw[List.getElem_append_right om];simp[sl,ic,List.getD,hi]
theorem Ft(p:List UInt8)(n:Nat)(hn:p.length=n)(h:n≤54):(sl (ic (be 2 n ++ p))).take 56=gT p:=by
 have hl:(be 2 n ++ p).length=n+2:=by rw[List.length_append,aL,hn];omega
 rw[Ee _ om,hl];have e:List.replicate (64 - (n+2)) (0:UInt8)=List.replicate (54 - n) 0 ++ List.replicate 8 0:=by
  rw[List.replicate_append_replicate];congr 1;omega
 rw[e,← List.append_assoc];have hb:be 2 n ++ p ++ List.replicate (54 - n) 0=gT p:=by unfold gT;rw[hn,List.append_assoc]
 rw[hb];exact ri (dX p om)
theorem Jq(l m:List UInt8)(i:Nat):bK (bv l) i (bv m)=bv (l.take i ++ m ++ l.drop (i+m.length)):=by
 simp[bK,bv,List.map_take,List.map_drop]
theorem Lu(X:Sj)(p:List UInt8)(g T:Nat)(hb:(sl X).take 56=gT p)(hp:p.length≤54)(hT:t7 (gT p ++ be 4 g)=T):bK (bK (av X) 56 (bv (be 4 T))) 60 (bv (be 4 g))=av (dH g p):=by
 rw[Fp,Jq,Jq,Fp,nB g p hp,GZ,hT,hb];have hl:=dX p hp;have h64:=tF X
 congr 1
 rw[List.take_append_of_le_length (by simp[hl]),List.take_of_length_le (by simp[hl]),List.drop_of_length_le (by simp[hl]),List.append_nil,List.append_assoc]
theorem xg(w:World)(b B3 o d:Nat)(hd:4≤d)(l:List UInt8){c:Nat}(h:canAt w b o 4=true)(hl:Bs w (some ⟨B3,0,none⟩) 4 c l):
  (Builtin.copy_ #[39,39] 3 #[.slice (some ⟨b,o,none⟩) d d,.slice (some ⟨B3,0,none⟩) 4 c]).run prog w = .ok (goInt 4) (setAt w b o (bv l)):=by
 obtain⟨b',o',e,hr⟩:=hl.2.2.2.2 om;cases e;exact dP w 3 b o d d B3 0 4 c 4 (by simp only[Nat.min_def];split <;> omega) (bv l) h hr (oG _)
theorem si(g:Nat)(ad:Option Addr)(n c:Nat)(p:List UInt8)(w:World)(hg:g < 4294967296)(hp:Bs w ad n c p)(h:n≤54):
  Calls prog 170 #[.int .u32 g,.slice ad n c] w fun e w'=>e = .returned (.tuple #[.agg (av (dH g p)),.bool true])∧Below w.heap.size w w':=by
 have d0:decide ((54:Int) < (n:Int))=false:=sO;have Hp:=SM hp;have Hlen:=SM hp.1;have hb0:=ba (.cells (av cB) 201) (Sy w);have Hp0:=SM (hp.below hb0);have Hb0:=SM hb0;have hc0:canAt (w.alloc (.cells (av cB) 201)) w.heap.size 0 64=true:=by simp[go_sem]
 have Hc0:=SM hc0;clear hp hb0 hc0
 go_in
 go_wp2_with fail
 generalize w.alloc (.cells (av cB) 201)=w0 at *;refine (gV 2 n _ om om om om).mono ?_;rintro _ w1 ⟨⟨B1,hB1,rfl,hbe⟩,hb1⟩;have hx:=bt hb1 (ba (.cells #[.slice (some ⟨B1,0,none⟩) 2 2,.slice ad n c] 39) (Sy w1));have hy:=ba (.cells #[.slice (some ⟨B1,0,none⟩) 2 2,.slice ad n c] 39) (Sy w1);have HP:=SM (Ps.two (w:=w1.alloc (.cells #[.slice (some ⟨B1,0,none⟩) 2 2,.slice ad n c] 39)) (B:=w1.heap.size) (by simp[go_sem]) (hbe.below hy) (Hp0.o.below hx))
 have Hb1:=SM (Hb0.o.trans (hx.mono Hb0.o.size));have hlt0:=bA Hc0.o;have Hc1:Hd (canAt (w1.alloc (.cells #[.slice (some ⟨B1,0,none⟩) 2 2,.slice ad n c] 39)) w.heap.size 0 64=true):=by show _=_;rw[ay hx hlt0];exact Hc0.o
 clear hx hy hbe hb1 Hb0 Hc0 Hp0
 go_wp2_with fail
 refine (jL _ 2 2 _ _ HP.o (by simp[Hlen.o];omega)).mono ?_
 rintro _ w2 ⟨⟨v,rfl,hne,hown⟩,hb2⟩;obtain⟨ja,jc,rfl,hjb⟩:=hown.bs;have hjl:([be 2 n,p] : List (List UInt8)).flatten.length=n+2:=by simp[Hlen.o];omega
 have hjf:([be 2 n,p] : List (List UInt8)).flatten=be 2 n ++ p:=sm;rw[hjl] at hjb ⊢;rw[hjf] at hjb;have Hjb:=SM hjb;have Hb2:=SM (Hb1.o.trans (hb2.mono Hb1.o.size));have Hc2:Hd (canAt w2 w.heap.size 0 64=true):=by show _=_;rw[ay hb2 (bA Hc1.o)];exact Hc1.o
 clear hown hne hjb hjl hjf hb2 Hb1 Hc1 HP
 go_wp2_with fail
 refine (Gz ja (n+2) jc _ _ Hjb.o.old om).mono ?_;rintro _ w3 ⟨rfl,hb3⟩;have hbody:=Ft p n Hlen.o om;have Hbody:=SM hbody;generalize ic (be 2 n ++ p)=X at *;have Hb3:=SM (ba (.cells (av X) 201) (Hb2.o.trans (hb3.mono Hb2.o.size)));have hc3:canAt w3 w.heap.size 0 64=true:=by rw[ay hb3 (bA Hc2.o)];exact Hc2.o
 have Hc3:Hd (canAt (w3.alloc (.cells (av X) 201)) w.heap.size 0 64=true):=by
  show _=_
  rw[ay (ba (.cells (av X) 201) (Sy w3)) (bA hc3)];exact hc3
 have Hr4:Hd (readAt (w3.alloc (.cells (av X) 201)) w3.heap.size 0 64=some (av X)):=by show _=_;simp[go_sem]
 have Hk4:Hd (canAt (w3.alloc (.cells (av X) 201)) w3.heap.size 0 64=true):=by show _=_;simp[go_sem]
 have hwS:w.heap.size < w3.heap.size:=bA hc3;clear hbody hb3 Hb2 Hc2 hc3 Hjb
 go_wp2_with fail
 generalize w3.alloc (.cells (av X) 201)=w4 at *;refine (gV 4 g _ om om om om).mono ?_;rintro _ w5 ⟨⟨B2,hB2,rfl,hbe⟩,hb5⟩;have Hb5:=SM (Hb3.o.trans (hb5.mono Hb3.o.size));have Hc5:Hd (canAt w5 w.heap.size 0 64=true):=by show _=_;rw[ay hb5 (bA Hc3.o)];exact Hc3.o
 have Hr5:Hd (readAt w5 w3.heap.size 0 64=some (av X)):=by show _=_;rw[ak hb5 (ac Hr4.o)];exact Hr4.o
 have Hk5:Hd (canAt w5 w3.heap.size 0 64=true):=by show _=_;rw[ay hb5 (bA Hk4.o)];exact Hk4.o
 have hS4:=ac Hr4.o;have Hbe:=SM hbe;clear Hb3 Hc3 Hr4 Hk4 hb5 hbe;have hy:=(ba (.cells #[.slice (some ⟨w3.heap.size,0,none⟩) 56 64,.slice (some ⟨B2,0,none⟩) 4 4] 39) (Sy w5)).drew;have hA:=(nz Hr5.o 0 56 64 om om om).below hy;rw[List.drop_zero,Nat.add_zero,Hbody.o] at hA;have HP:=SM (Ps.two (w:=(w5.alloc (.cells #[.slice (some ⟨w3.heap.size,0,none⟩) 56 64,.slice (some ⟨B2,0,none⟩) 4 4] 39)).drew) (B:=w5.heap.size) (by simp[go_sem]) hA (Hbe.o.below hy))
 have Hy:=SM hy;have hfl:([gT p,be 4 g] : List (List UInt8)).flatten=gT p ++ be 4 g:=sm;have Hfl:=SM hfl;have hS5:=ac Hr5.o;obtain⟨T,hT⟩:=eY (t7 (gT p ++ be 4 g));have hTlt:T < 4294967296:=by rw[← hT];exact uO _
 have HT:=SM hT;have hwr:IntKind.u64.wrap (T:Int)=(T:Int):=wu;clear hy hA hfl hT
 go_wp2_with fail
 go_region_with (first
  | (go_at_call 204;refine (Et _ 2 2 _ _ HP.o).mono ?_;rw[Hfl.o,HT.o];rintro _ w6 ⟨rfl,hb6⟩;have Hb6:=SM (bt Hy.o hb6);clear hb6)
  | (go_at_call 171;refine (gV 4 T _ om om om om).mono ?_;rintro _ w7 ⟨⟨B3,hB3,rfl,hbe3⟩,hb7⟩;have Hb7:=SM (bt Hb6.o hb7);have Hbe3:=SM hbe3;clear hbe3 hb7;have hcp:=xg w7 w3.heap.size B3 56 8 om (be 4 T) (by rw[ay Hb7.o hS5];exact aC Hk5.o 56 4 om) Hbe3.o))
 have hle7:=Hb7.o.size;have hk7:canAt w7 w3.heap.size 0 64=true:=by rw[ay Hb7.o hS5];exact Hk5.o
 have hr7:readAt w7 w3.heap.size 0 64=some (av X):=by rw[ak Hb7.o hS5];exact Hr5.o
 have hc7:canAt w7 w.heap.size 0 64=true:=by rw[ay Hb7.o om];exact Hc5.o
 have hg7:=Hbe.o.below Hb7.o;have hk7':=aC hk7 56 4 om;have Hr8:Hd (readAt (setAt w7 w3.heap.size 56 (bv (be 4 T))) w3.heap.size 0 64=some (bK (av X) 56 (bv (be 4 T)))):=by
  show _=_;rw[ae _ _ 0 64 _ hr7 hk7 56 _ om sm]
 have Hk8:Hd (canAt (setAt w7 w3.heap.size 56 (bv (be 4 T))) w3.heap.size 0 64=true):=by
  show _=_;rw[ap _ _ _ _ _ _ _ (by simpa using hk7')];exact hk7
 have Hc8:Hd (canAt (setAt w7 w3.heap.size 56 (bv (be 4 T))) w.heap.size 0 64=true):=by
  show _=_;rw[cY _ _ _ _ _ _ _ om];exact hc7
 have Hg8:Hd (Bs (setAt w7 w3.heap.size 56 (bv (be 4 T))) (some ⟨B2,0,none⟩) 4 4 (be 4 g)):=(cC.setAt w7 w3.heap.size 56 (bv (be 4 T))).bs om hg7;have Hb8:Hd (Below w.heap.size w (setAt w7 w3.heap.size 56 (bv (be 4 T)))):=aa (Hb5.o.trans (Hb7.o.mono Hb5.o.size)) om _ _;clear hcp hk7 hr7 hc7 hg7 hk7' Hbe3 Hb7 Hb6 HP Hy Hfl Hbe Hk5 Hr5 Hc5 Hb5 hwr;generalize setAt w7 w3.heap.size 56 (bv (be 4 T))=w8 at *
 have hk8':=aC Hk8.o 60 4 om;have hcp2:=xg w8 w3.heap.size B2 60 4 om (be 4 g) hk8' Hg8.o;have hput:=Lu X p g T Hbody.o (by rw[Hlen.o];exact h) HT.o
 have Hr9:readAt (setAt w8 w3.heap.size 60 (bv (be 4 g))) w3.heap.size 0 64=some (av (dH g p)):=by
  rw[ae _ _ 0 64 _ Hr8.o Hk8.o 60 _ om sm,Nat.sub_zero,hput]
 have Hc9:canAt (setAt w8 w3.heap.size 60 (bv (be 4 g))) w.heap.size 0 64=true:=by
  rw[cY _ _ _ _ _ _ _ om];exact Hc8.o
 have Hb9:Hd (Below w.heap.size w (setAt w8 w3.heap.size 60 (bv (be 4 g)))):=aa Hb8.o om _ _;clear hput Hr8 Hk8 Hc8 Hb8 Hg8 hk8';have hc9':=SM Hc9
 go_wp2
 refine bodyPost_ret (cu rfl _ _ (w.heap.size) 0 (av (dH g p)) _ rfl rfl ?_) rfl ⟨rfl,aa Hb9.o (Nat.le_refl _) _ _⟩;exact am _ _ _ _ _ sm hc9'.o
end
end Go.Proofs.YtlcfaaodmickbaaGreatDoor
