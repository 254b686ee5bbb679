/- Part 11 of the proof: texts merged and shortened by a program. No conditions. -/
import Derived.Laws.RangeString
import Derived.Laws.RangeAny
import Derived.Laws.EntriesVeiled
import Derived.Test.YtlcfaaodmickbaaGreatDoorPc10
set_option linter.unusedSimpArgs false
set_option linter.unusedVariables false
set_option maxRecDepth 100000
set_option maxHeartbeats 8000000
namespace Go.Proofs.YtlcfaaodmickbaaGreatDoor
open Go.RowKit Go.Proofs.Tryz
section
theorem lq(b o n c lo hi mx:Nat)(h1:lo≤hi)(h2:hi≤mx)(h3:mx≤c)(a:Int)(ha:a=(lo:Int))(d:Int)(hd:d=(hi:Int))(e:Int)(he:e=(mx:Int))(W:World):
  (Instr.slice 39 (.slice (some ⟨b,o,none⟩) n c) (some (.int .i64 a)) (some (.int .i64 d)) (some (.int .i64 e))).run prog W = .ok (.slice (some ⟨b,if mx=lo then o else o+lo,none⟩) (hi - lo) (mx - lo)) W:=by
 subst ha hd he;cases hqq:prog.info? 5 with
 | none=>have:=cQ;simp[hqq] at this
 | some j =>
  have hs:j.size=1:=by have:=cQ;simpa [hqq] using this
  have c1 : ¬ (c < mx):=om;have c2 : ¬ (mx < hi):=om;have c3 : ¬ (hi < lo):=om;have d1:(lo:Int)≤hi:=om;have d2:(hi:Int)≤mx:=om;have d3:(mx:Int)≤c:=om
  by_cases h0:mx=lo
  ·obtain rfl:hi=lo:=om;have h3':hi≤c:=om;simp[Instr.slice,Instr.sliceAt,run_underlying underlying39,Instr.sureAddr,Instr.sliceBounds,Instr.sliceBound,asIntOf,sizeOf,typeInfo,hqq,hs,Addr.add,c1,c2,c3,d1,d2,d3,h0,h1,h2,h3,h3']
   done
  ·by_cases h5:lo=0
   ·subst h5;simp[Instr.slice,Instr.sliceAt,run_underlying underlying39,Instr.sureAddr,Instr.sliceBounds,Instr.sliceBound,asIntOf,sizeOf,typeInfo,hqq,hs,Addr.add,c1,c2,c3,d1,d2,d3,h0,h1,h2,h3]
    done
   ·simp[Instr.slice,Instr.sliceAt,run_underlying underlying39,Instr.sureAddr,Instr.sliceBounds,Instr.sliceBound,asIntOf,sizeOf,typeInfo,hqq,hs,Addr.add,c1,c2,c3,d1,d2,d3,h0,h5,h1,h2,h3]
    done
theorem vT(b o n c hi mx:Nat)(h2:hi≤mx)(h3:mx≤c)(d:Int)(hd:d=(hi:Int))(e:Int)(he:e=(mx:Int))(W:World):
  (Instr.slice 39 (.slice (some ⟨b,o,none⟩) n c) none (some (.int .i64 d)) (some (.int .i64 e))).run prog W = .ok (.slice (some ⟨b,o,none⟩) hi mx) W:=by
 subst hd he;cases hqq:prog.info? 5 with
 | none=>have:=cQ;simp[hqq] at this
 | some j =>
  have hs:j.size=1:=by have:=cQ;simpa [hqq] using this
  have c1 : ¬ (c < mx):=om;have c2 : ¬ (mx < hi):=om;have d2:(hi:Int)≤mx:=om;have d3:(mx:Int)≤c:=om;simp[Instr.slice,Instr.sliceAt,run_underlying underlying39,Instr.sureAddr,Instr.sliceBounds,Instr.sliceBound,asIntOf,sizeOf,typeInfo,hqq,hs,Addr.add,c1,c2,d2,d3,h2,h3]
  done
theorem Bs.cut{w:World}{b o n c:Nat}{l:List UInt8}(h:Bs w (some ⟨b,o,none⟩) n c l)(k:Nat)(hk:k≤n):Bs w (some ⟨b,if c=k then o else o+k,none⟩) (n - k) (c - k) (l.drop k):=by
 by_cases e:c=k
 ·have h1:=h.1;have h2:=h.2.1;have h3:=h.2.2.1;exact⟨by rw[List.length_drop,h1],om,om,fun h=>(by cases h),fun h0=>absurd h0 om⟩
 ·rw[if_neg e];exact h.drop k hk
theorem vV(key:RW)(u:Int)(ad:Option Addr)(n c:Nat)(w:World)(hn:n < 24):
  Calls prog 129 #[.agg (fw B8 key),.int .u8 u,.slice ad n c] w fun e w'=>e = .returned (.tuple #[.slice none 0 0,.bool false])∧Below w.heap.size w w':=by
 go_in
 go_wp2_with fail
 have hb:=ba (.cells (fw B8 key) 22) (Sy w);generalize w.alloc (.cells (fw B8 key) 22)=w1 at *;refine (GL ad n c w1 hn).mono ?_;rintro _ w2 ⟨rfl,hb2⟩
 go_wp2
 go_ret2
 exact⟨rfl,ba _ (bt hb hb2)⟩
theorem Aj(key:RW)(usage:UInt8)(u:Int)(hu:u=bI usage)(b o n c:Nat)(l:List UInt8)(w:World)(hg:GK w)(h:Bs w (some ⟨b,o,none⟩) n c l)(hn:24≤n)(hm:n≤1000000)(ok:Bool)(hok:decide (l.drop (n - 16)=(xA (AE key).toList (usage :: l.take (n - 16))).toList.take 16)=ok):
  Calls prog 129 #[.agg (fw B8 key),.int .u8 u,.slice (some ⟨b,o,none⟩) n c] w fun e w'=>(if ok=true then ∃ g,e = .returned (.tuple #[.slice (some ⟨g,0,none⟩) (n - 24) (n - 24),.bool true])∧w.heap.size≤g∧Bs w' (some ⟨g,0,none⟩) (n - 24) (n - 24) (fm (AD key) (fb l) ((l.take (n - 16)).drop 8)) else e = .returned (.tuple #[.slice none 0 0,.bool false]))∧Below w.heap.size w w':=by
 subst hu;have HG:=SM hg;have H:=SM h;have Hok:=SM hok;have hlen:=H.o.1;have hcap:=H.o.2.1;have hcm:=H.o.2.2.1;clear hg h hok;obtain⟨E,hE⟩:=eY (n - 16);have hEI:((n:Int) - 16)=(E:Int):=om;have s1:=vT b o n c E E (Nat.le_refl _) om ((n:Int) - 16) hEI ((n:Int) - 16) hEI;have s2:=lq b o n c E n n om (Nat.le_refl _) om ((n:Int) - 16) hEI (n:Int) rfl (n:Int) rfl;rw[if_neg om,show n - E=16 by omega] at s2
 have HE:=SM hE;have hE1:E+16≤n:=om;have hE2:n≤E+16:=om;clear hE hEI;have i1:(24:Int)≤(n:Int):=om
 go_in
 go_wp2_with fail
 have hK:=Row.made (f:=B8) w 22 key;have hb:=ba (.cells (fw B8 key) 22) (Sy w);generalize w.alloc (.cells (fw B8 key) 22)=w1 at *;refine (Db _ n c l w1 (H.o.below hb) hn).mono ?_;rintro _ w2 ⟨rfl,hb2⟩;generalize hNN:fb l=N at *;have HNN:=SM hNN;clear hNN;have hN:=Row.made (f:=B8) w2 107 N;have hb3:=ba (.cells (fw B8 N) 107) hb2;have HK:=SM (hK.below hb3);have HN:=SM hN;have Hb:=SM (bt hb hb3);have hs1:=hb.size
 have hs2:=hb2.size;have hKlt:=hK.lt;clear hK hN hb hb2 hb3
 go_upto_region 5 with fail
 generalize w2.alloc (.cells (fw B8 N) 107)=w3 at *;generalize w2.heap.size=NB at *;replace HK:=SM HK.o.drew;replace HN:=SM HN.o.drew;replace Hb:=SM Hb.o.drew;refine yW (tk 0 13 .done) (fun _=>True) trivial ?_;generalize w3.drew=w3 at *
 repeat(refine yA ?_;walk_nrm)
 refine al ?_;clear s1 s2;have q1:=HK.o.r
 go_wp2_with fail
 clear q1;refine (Ej key w3 (HG.o.below HG.o.1 Hb.o)).mono ?_;rintro _ w4 ⟨rfl,hb4⟩;obtain⟨XE,hXE⟩:=eY (AD key);obtain⟨XM,hXM⟩:=eY (AE key);rw[hXE,hXM];rw[hXM] at Hok;have HXE:=SM hXE;clear hXE hXM;obtain⟨hE,hM,hb5,hs5⟩:=iH w4 22 35 B8 dq B8 bO
 go_upto_region 7 with fail
 generalize (w4.alloc (.cells (fw B8 dq) 22)).alloc (.cells (fw B8 bO) 35)=w5 at *;have HEr:=SM ((hE.all XE).apart (w4.heap.size+1) 0 (fw B8 XM) om);have HMr:=SM ((hM.apart w4.heap.size 0 (fw B8 XE) om).all XM);have hNlt:=HN.o.lt;have hs4:=hb4.size;have HN5:=SM ((((HN.o.below hb4).below hb5).apart w4.heap.size 0 (fw B8 XE) om).apart (w4.heap.size+1) 0 (fw B8 XM) om);have Hb5:=SM (aa (aa (bt (bt Hb.o hb4) hb5) (b:=w4.heap.size) (by have:=(bt Hb.o hb4).size;omega) 0 (fw B8 XE)) (b:=w4.heap.size+1) (by have:=(bt Hb.o hb4).size;omega) 0 (fw B8 XM))
 clear hE hM hb4 hb5 HN Hb;generalize setAt (setAt w5 w4.heap.size 0 (fw B8 XE)) (w4.heap.size+1) 0 (fw B8 XM)=w6 at *;generalize hEB:w4.heap.size=EB at *;clear hEB;have hb7:=ba (.cells #[.int .u8 (bI usage)] 5) (Sy w6);have hU:Bs (w6.alloc (.cells #[.int .u8 (bI usage)] 5)) (some ⟨w6.heap.size,0,none⟩) 1 1 [usage]:=Bs.lit 1 rfl om (by rw[aj _ _ _ _ _ _ _ rfl sm];rfl)
 have hFr:=(((H.o.below Hb5.o).below hb7).take E E om (Nat.le_refl _) om);have hCd:=(((H.o.below Hb5.o).below hb7).drop E om);have hs7:(w6.alloc (.cells #[.int .u8 (bI usage)] 5)).heap.size=w6.heap.size+1:=sm
 go_wp2_with fail
 have hCd2:=hCd.take 16 16 om (Nat.le_refl _) om;rw[List.take_of_length_le (by rw[List.length_drop];omega)] at hCd2
 have hb8:=ba (.cells #[.slice (some ⟨w6.heap.size,0,none⟩) 1 1,.slice (some ⟨b,o,none⟩) E E] 39) hb7;have hb9:=ba (.cells #[.slice (some ⟨w6.heap.size,0,none⟩) 1 1,.slice (some ⟨b,o,none⟩) E E] 39) (Below.refl _ (w6.alloc (.cells #[.int .u8 (bI usage)] 5)));have hP:Ps ((w6.alloc (.cells #[.int .u8 (bI usage)] 5)).alloc (.cells #[.slice (some ⟨w6.heap.size,0,none⟩) 1 1,.slice (some ⟨b,o,none⟩) E E] 39)) (some ⟨w6.heap.size+1,0,none⟩) 2 2 [[usage],l.take E] :=
  Ps.two (by rw[aj _ _ _ _ _ _ _ hs7.symm sm];rfl) (hU.below hb9) (hFr.below hb9)
 have hC3:=hCd2.below hb9;clear hU hFr hCd hCd2 hb7 hb9 hs7;generalize (w6.alloc (.cells #[.int .u8 (bI usage)] 5)).alloc (.cells #[.slice (some ⟨w6.heap.size,0,none⟩) 1 1,.slice (some ⟨b,o,none⟩) E E] 39)=w8 at *;have hM8:=HMr.o.below hb8;have hMl:XM.toList.length=32:=sm;refine (yH (some ⟨EB+1,0,none⟩) 32 32 XM.toList (some ⟨b,o+E,none⟩) 16 16 (l.drop E) (some ⟨w6.heap.size+1,0,none⟩) 2 2 [[usage],l.take E] w8 (hM8.bs om) om om hC3 rfl (HG.o.below HG.o.1 (bt Hb5.o hb8)) hP om om (JY sm (by rw[List.length_take];omega)) sO).mono ?_
 rintro _ w9 ⟨rfl,hb10⟩;have hk:decide (l.drop E=(xA XM.toList [[usage],l.take E].flatten).toList.take 16)=ok:=by
  have:=Hok.o;rw[HE.o] at this
  simpa using this
 rw[hk];have HEr9:=SM ((HEr.o.below hb8).below hb10);have HN9:=SM ((HN5.o.below hb8).below hb10);have Hb9:=SM (bt (bt Hb5.o hb8) hb10);have HB9:=SM (H.o.below Hb9.o);clear hk hb8 hb10 hP hC3 hM8 hMl HEr HMr HN5 Hok Hb5 hs5;cases ok with
 | false =>
  go_wp2
  go_ret2
  exact⟨rfl,Hb9.o⟩
 | true =>
  go_upto_region 9 with fail
  have hEI:((n:Int) - 16)=(E:Int):=om;have s3:=lq b o E E 8 E E om (Nat.le_refl _) (Nat.le_refl _) 8 rfl ((n:Int) - 16) hEI ((n:Int) - 16) hEI;have hF:=((HB9.o.take E E om (Nat.le_refl _) om).cut 8 om).below (Below.refl _ _).drew;have hlo:Hd (((l.take E).drop 8).length=n - 24):=by show _=_;rw[List.length_drop,List.length_take];omega
  rw[show E - 8=n - 24 by omega] at s3 hF
  obtain⟨P,hP⟩ : ∃ P,(if E=8 then o else o+8)=P:=⟨_,rfl⟩;rw[hP] at s3 hF;have HF:=SM hF;replace HEr9:=SM HEr9.o.drew;replace HN9:=SM HN9.o.drew;replace Hb9:=SM Hb9.o.drew;clear hEI hF hP;refine yW (tk 0 6 (.brk 6 (tk 7 2 .done))) (fun u=>u=w9.drew) rfl ?_;generalize w9.drew=w9 at *;have q1:=HEr9.o.r;have q2:=HN9.o.r
  repeat(refine yB ?_;walk_nrm)
  refine xa rfl rfl ?_;apply Exists.intro;apply Exists.intro;refine⟨?_,?_⟩;(go_simp;exact⟨rfl,rfl⟩);refine (B6 XE N (some ⟨b,P,none⟩) (n - 24) (n - 24) ((l.take E).drop 8) w9 HF.o om).mono ?_;rintro _ w10 ⟨⟨g,rfl,hg,hB⟩,hb10⟩;refine⟨_,rfl,fun _=>True,trivial,?_⟩
  walk_nrm
  repeat(refine yA ?_;walk_nrm)
  refine al ?_;clear s3 q1 q2
  go_wp2
  go_ret2
  have hgw:w.heap.size≤g:=by have:=Hb9.o.size;omega
  refine⟨⟨g,rfl,hgw,?_⟩,bt Hb9.o hb10⟩;rw[HNN.o,HXE.o,HE.o];exact hB
def Qm(o:Option (List UInt8))(base:Nat)(e:Ending)(w':World):Prop :=
 match o with
 | none=>e = .returned (.tuple #[.slice none 0 0,.bool false])
 | some l=>∃ g,e = .returned (.tuple #[.slice (some ⟨g,0,none⟩) l.length l.length,.bool true])∧base≤g∧Bs w' (some ⟨g,0,none⟩) l.length l.length l
theorem tI(key:RW)(usage:UInt8)(u:Int)(hu:u=bI usage)(ad:Option Addr)(n c:Nat)(l:List UInt8)(w:World)(hg:GK w)(h:Bs w ad n c l)(hm:n≤1000000):
  Calls prog 129 #[.agg (fw B8 key),.int .u8 u,.slice ad n c] w fun e w'=>Qm (kO key usage l) w.heap.size e w'∧Below w.heap.size w w':=by
 by_cases hn:n < 24
 ·refine (vV key u ad n c w hn).mono ?_;rintro e w' ⟨he,hb⟩;have ho:kO key usage l=none:=by unfold kO;rw[if_pos (by rw[h.1];exact hn)]
  rw[ho];exact⟨he,hb⟩
 ·obtain⟨b,o,rfl,_⟩:=h.2.2.2.2 om;refine (Aj key usage u hu b o n c l w hg h om hm _ rfl).mono ?_;rintro e w' ⟨he,hb⟩;refine⟨?_,hb⟩;unfold kO fq;rw[h.1,if_neg hn]
  by_cases hd:l.drop (n - 16)=(xA (AE key).toList (usage :: l.take (n - 16))).toList.take 16
  ·rw[if_pos (by simpa using hd)] at he
   rw[if_pos hd];obtain⟨g,he,hg,hB⟩:=he;have hl:(fm (AD key) (fb l) ((l.take (n - 16)).drop 8)).length=n - 24:=by rw[dx,List.length_drop,List.length_take,h.1];omega
   exact⟨g,by rw[hl];exact he,hg,by rw[hl];exact hB⟩
  ·rw[if_neg (by simpa using hd)] at he
   rw[if_neg hd];exact he
end
section
def Tc(c:UInt8):Bool:=decide (33≤c.toNat) && decide (c.toNat≤126)
def db(l:List UInt8):Bool:=decide (1≤l.length) && decide (l.length≤100) && l.all Tc
theorem EJ{l:List UInt8}(h1:1≤l.length)(h2:l.length≤100)(h:∀ i (hi:i < l.length),Tc l[i]=true):db l=true:=by
 simp only[db,h1,h2,decide_true,Bool.true_and,List.all_eq_true];intro c hc;obtain⟨i,hi,rfl⟩:=List.mem_iff_getElem.1 hc;exact h i hi
theorem IP{l:List UInt8}(i:Nat)(hi:i < l.length)(h:Tc l[i]=false):db l=false:=by
 have:l.all Tc=false:=by
  rw[List.all_eq_false];exact⟨l[i],List.getElem_mem hi,by simp[h]⟩
 simp[db,this]
theorem Cc(s:ByteArray)(pos:Nat)(h:pos < s.size)(ho:Tc (s[pos]'h)=false):(Utf8.decode s pos).1 < 33∨126 < (Utf8.decode s pos).1:=by
 by_cases ha:(s[pos]'h).toNat < 128
 ·rw[decode_ascii s pos h ha];simp[Tc] at ho
  show (s[pos]'h).toNat < 33∨_
  omega
 ·have:=(decode_high s pos h om).1;omega
theorem lW(s:ByteArray)(w:World):Calls prog 215 #[.string s] w fun e w'=>e = .returned (.bool (db s.data.toList))∧Below w.heap.size w w':=by
 have hsz:s.data.toList.length=s.size:=sm;have Hsz:=SM hsz;clear hsz;have hat:∀ i (hi:i < s.size),s.data.toList[i]'(by rw[Hsz.o];exact hi)=s[i]:=fun i hi=>by simp;rfl
 have Hat:=SM hat;clear hat
 by_cases h1:s.size < 1
 ·have hf:db s.data.toList=false:=by unfold db;rw[Hsz.o,show decide (1≤s.size)=false from df];rfl
  rw[hf];have d1:decide (s.size < 1)=true:=decide_eq_true h1;have d1':decide ((s.size:Int) < 1)=true:=dt
  go_in
  go_wp2
  go_ret
  exact⟨rfl,Below.refl _ _⟩
 by_cases h2:100 < s.size
 ·have hf:db s.data.toList=false:=by unfold db;rw[Hsz.o,show decide (s.size≤100)=false from df];simp
  rw[hf];have d1:decide ((s.size:Int) < 1)=false:=df;have d2:decide ((100:Int) < (s.size:Int))=true:=dt
  go_in
  go_wp2
  go_ret
  exact⟨rfl,Below.refl _ _⟩
 have d1:decide ((s.size:Int) < 1)=false:=df;have d2:decide ((100:Int) < (s.size:Int))=false:=df;obtain⟨R,hR⟩:=eY (db s.data.toList);rw[hR];have HR:=SM hR;clear hR
 go_in
 go_wp2
 go_loopw [4] (fun _ wr=>∃ pos:Nat,pos≤s.size∧wr=w.iter s pos∧∀ i (hi:i < s.size),i < pos→Tc s[i]=true) (fun _ wr=>s.size - wr.iterPos w.heap.size)
 case atStart=>exact⟨0,om,rfl,fun i _ h=>absurd h om⟩
 case round =>
  obtain⟨pos,hpos,rfl,hok⟩:=hrel;have Hok:=SM hok;clear hok
  by_cases hp:pos < s.size
  ·cases hc:Tc (s[pos]'hp) with
   | true =>
    have hc2:=hc;simp only[Tc,Bool.and_eq_true,decide_eq_true_eq] at hc2;have hnx:∀ ty,(Instr.next (.pointer (some ⟨w.heap.size,0,none⟩)) true ty).run prog (w.iter s pos)=_:=fun ty=>run_next_ascii w s pos ty hp om;have Hc:=SM hc;generalize hx:(s[pos]'hp).toNat=x at *;clear hx hc;have i1:(33:Int)≤(x:Int):=om;have i2:(x:Int)≤126:=om
    go_wp2
    go_roundw
    case rel=>exact⟨pos+1,om,rfl,fun i hi hlt=>by
     rcases Nat.lt_or_eq_of_le (Nat.le_of_lt_succ hlt) with h | rfl
     ·exact Hok.o i hi h
     ·exact Hc.o⟩
    case measure=>simp;omega
   | false =>
    have hd:=Cc s pos hp hc;have hnx:∀ ty,(Instr.next (.pointer (some ⟨w.heap.size,0,none⟩)) true ty).run prog (w.iter s pos)=_:=fun ty=>run_next_any w s pos ty hp;have hf:R=false:=by rw[← HR.o];exact IP pos (by rw[Hsz.o];exact hp) (by rw[Hat.o pos hp];exact hc)
    subst hf;have Hd:=SM hd;clear hd hc;generalize Utf8.decode s pos=x at *
    rcases Hd.o with hd | hd
    ·have d3:decide (((x.1:Nat):Int) < 33)=true:=dt
     go_wp2
     go_ret
     exact⟨rfl,ba _ (Below.refl _ _)⟩
    ·have d3:decide (((x.1:Nat):Int) < 33)=false:=df;have d4:decide ((126:Int) < ((x.1:Nat):Int))=true:=dt
     go_wp2
     go_ret
     exact⟨rfl,ba _ (Below.refl _ _)⟩
  ·have hnx:∀ ty,(Instr.next (.pointer (some ⟨w.heap.size,0,none⟩)) true ty).run prog (w.iter s pos)=_:=fun ty=>run_next_end w s pos ty hp;have hf:R=true:=by
    rw[← HR.o];refine EJ (by rw[Hsz.o];omega) (by rw[Hsz.o];omega) (fun i hi=>?_)
    rw[Hsz.o] at hi;rw[Hat.o i hi];exact Hok.o i hi om
   subst hf
   go_wp2
   go_ret
   exact⟨rfl,ba _ (Below.refl _ _)⟩
end
section
def NZ(B g:Nat)(l:List UInt8)(k:Nat)(w:World)(e:Ending)(w':World):Prop :=
 e = .returned (.tuple #[.int .u64 (nb (l.take k):Nat),.bool true])∧oA w' B g (l.drop k)∧cC B w w'
theorem Lk(B g:Nat)(l:List UInt8)(k:Nat)(w:World)(h:oA w B g l)(hk1:1≤k)(hk8:k≤8)(hk:k≤l.length):
  Calls prog 178 #[.pointer (some ⟨B,0,none⟩),.int .i64 k] w (NZ B g l k w):=by
 have d1:decide ((k:Int) < 1)=false:=sO;have d2:decide ((8:Int) < (k:Int))=false:=sO;have d3:decide ((1:Int)≤(k:Int))=true:=sO;have H:=SM h;clear h
 go_in
 go_wp2_with fail
 refine (Lj B g l k _ H.o hk).mono ?_;rintro _ w1 ⟨o,hg,rfl,hbs,hrd,ho⟩;have hlen:(l.take k).length=k:=hbs.1;have Hlen:=SM hlen;have Hbs:=SM hbs;have hfin:Hd (oA w1 B g (l.drop k)∧cC B w w1):=⟨hrd,ho⟩;clear hlen hbs hrd ho H;obtain⟨m,hm⟩:=eY (l.take k);rw[hm] at Hlen Hbs;have Hm:=SM hm;clear hm
 go_wp2_with fail
 go_loop [8,30] (fun x i=>∃ j:Nat,j≤k∧i = .int .i64 j∧x = .int .u64 (nb (m.take j):Nat)) (fun _ i=>k - (intOf i).toNat)
 case atStart=>exact⟨0,om,rfl,rfl⟩
 case round =>
  obtain⟨j,hj,rfl,rfl⟩:=hrel
  by_cases hlt:j < k
  ·obtain⟨b,o',e,hcell⟩:=Hbs.o.at j hlt;simp only[Option.some.injEq,Addr.mk.injEq,and_true] at e;obtain⟨rfl,rfl⟩:=e;have hsn:=iU m j 0 (by rw[Hlen.o];exact hlt)
   have hu:=vj (m.take j) (m.getD j 0);rw[← hsn] at hu;have Hu:=SM hu;have hx:nb (m.take j) < 72057594037927936:=by
    have h1:=nb_lt (m.take j);have h2:(256:Nat) ^ (m.take j).length≤256 ^ 7:=Nat.pow_le_pow_right om (by rw[List.length_take];omega)
    have h3:(256:Nat) ^ 7=72057594037927936:=dc;omega
   have hc:=toNat_lt (m.getD j 0);have hso:=JS (nb (m.take j)) (m.getD j 0).toNat hx hc;clear hsn hu;generalize nb (m.take j)=y at *;generalize (m.getD j 0).toNat=z at *
   go_wp2
   go_round
   case rel=>exact⟨j+1,om,by go_num,by rw[Hu.o];go_num⟩
   case measure=>simp[intOf];omega
  ·obtain rfl:j=k:=om;have hf:nb (m.take j)=nb (l.take j):=by rw[List.take_of_length_le (by rw[Hlen.o];exact Nat.le_refl _),Hm.o]
   rw[hf];clear hf
   go_wp2
   go_ret2
   exact⟨rfl,hfin.o.1,hfin.o.2⟩
abbrev RS:=Option (List UInt8)
structure Rd (w:World) (B lo hi:Nat) (s:RS):Prop where
 b:lo≤B∧B < hi
 sz:hi≤w.heap.size
 r:match s with
  | none=>fC w B
  | some l=>l.length≤1000000∧∃ g,lo≤g∧(0 < l.length→g < hi)∧oA w B g l
theorem cC.kb{B:Nat}{w w':World}(h:cC B w w'):Kb (fun b=>b=B) w w':=⟨h.os,h.tape,h.output,Nat.le_of_eq h.size.symm,fun k _ hk=>h.block k hk⟩
section
variable {w w':World} {B lo hi:Nat} {s:RS}
theorem vB(h:fC w B)(hb:w'.heap[B]? = w.heap[B]?):fC w' B:=⟨by rw[← h.1];simp[canAt,hb],by rw[← h.2];simp[readAt,hb]⟩
theorem DJ{g:Nat}{l:List UInt8}(h:oA w B g l)(hb:w'.heap[B]? = w.heap[B]?)(hg:0 < l.length→w'.heap[g]? = w.heap[g]?):oA w' B g l:=by
 obtain⟨h1,o,c,h2,h3,h4,h5,h6,h7,h8⟩:=h;refine⟨by rw[← h1];simp[canAt,hb],o,c,h2,by rw[← h3];simp[readAt,hb],h4,h5,h6,h7,fun h0=>?_⟩
 obtain⟨b,o',e,hr⟩:=h8 h0;simp only[Option.some.injEq,Addr.mk.injEq,and_true] at e;obtain⟨rfl,rfl⟩:=e;exact⟨g,o,rfl,by rw[← hr];simp[readAt,hg h0]⟩
theorem Rd.same(h:Rd w B lo hi s)(hz:w.heap.size≤w'.heap.size)(hb:∀ b,lo≤b→b < hi→w'.heap[b]? = w.heap[b]?):Rd w' B lo hi s:=by
 obtain⟨h1,h2,h3⟩:=h;refine⟨h1,Nat.le_trans h2 hz,?_⟩;cases s with
 | none=>exact vB h3 (hb _ h1.1 h1.2)
 | some l =>
  obtain⟨h4,g,h5,h6,h7⟩:=h3;exact⟨h4,g,h5,h6,DJ h7 (hb _ h1.1 h1.2) (fun h0=>hb _ h5 (h6 h0))⟩
theorem Rd.below(h:Rd w B lo hi s)(hb:Below w.heap.size w w'):Rd w' B lo hi s:=h.same hb.size (fun b _ hb2=>hb.block b (Nat.lt_of_lt_of_le hb2 h.sz))
theorem Rd.kb{X:Nat→Prop}(h:Rd w B lo hi s)(hk:Kb X w w')(hX:∀ b,X b→b < lo∨hi≤b):Rd w' B lo hi s :=
 h.same hk.size (fun b h1 h2=>hk.block b (Nat.lt_of_lt_of_le h2 h.sz) (fun hx=>by have:=hX b hx;omega))
theorem Rd.drew(h:Rd w B lo hi s):Rd w.drew B lo hi s:=h.below (Below.refl _ _).drew
end
def bS(k:Nat)(s:RS):Nat:=match s with | some l=>if k≤l.length then nb (l.take k) else 0 | none=>0
def aI(k:Nat)(s:RS):RS:=match s with | some l=>if k≤l.length then some (l.drop k) else none | none=>none
def E3(k:Nat)(s:RS):Bool:=match s with | some l=>decide (k≤l.length) | none=>false
theorem mY(k:Nat)(s:RS)(hk:k≤8):bS k s < 18446744073709551616:=by
 unfold bS;cases s with
 | none=>simp
 | some l =>
  simp only
  split
  ·have h1:=nb_lt (l.take k);have h2:(256:Nat) ^ (l.take k).length≤256 ^ 8:=Nat.pow_le_pow_right om (by rw[List.length_take];omega)
   have h3:(256:Nat) ^ 8=18446744073709551616:=dc;omega
  ·omega
def fT(k:Nat)(s:RS):List UInt8:=match aI k s with | some l=>if bS k s≤l.length then l.take (bS k s) else [] | none=>[]
def fz(k:Nat)(s:RS):RS:=match aI k s with | some l=>if bS k s≤l.length then some (l.drop (bS k s)) else none | none=>none
def tO(n:Nat)(s:RS):List UInt8:=match s with | some l=>if n≤l.length then l.take n else [] | none=>[]
theorem td(B lo hi:Nat)(s:RS)(k:Nat)(w:World)(h:Rd w B lo hi s)(hk1:1≤k)(hk8:k≤8):
  Calls prog 178 #[.pointer (some ⟨B,0,none⟩),.int .i64 k] w fun e w'=>e = .returned (.tuple #[.int .u64 (bS k s:Nat),.bool (E3 k s)])∧Rd w' B lo hi (aI k s)∧Kb (fun b=>b=B) w w':=by
 obtain⟨h1,h2,h3⟩:=h;have no:(fC w B∨∃ l,Sf w B l∧l.length < k)→bS k s=0→E3 k s=false→aI k s=none→Calls prog 178 #[.pointer (some ⟨B,0,none⟩),.int .i64 k] w fun e w'=>e = .returned (.tuple #[.int .u64 (bS k s:Nat),.bool (E3 k s)])∧Rd w' B lo hi (aI k s)∧Kb (fun b=>b=B) w w':=by
  intro hno e1 e2 e3;rw[e1,e2,e3];refine (sL B k w hno hk1 hk8).mono ?_;rintro e w' ⟨he,hb,ho⟩;exact⟨he,⟨h1,by rw[ho.size];exact h2,hb⟩,ho.kb⟩
 cases s with
 | none=>exact no (.inl h3) rfl rfl rfl
 | some l =>
  obtain⟨h4,g,h5,h6,h7⟩:=h3
  by_cases hk:k≤l.length
  ·have e1:bS k (some l)=nb (l.take k):=by simp[bS,hk]
   have e2:E3 k (some l)=true:=by simp[E3,hk]
   have e3:aI k (some l)=some (l.drop k):=by simp[aI,hk]
   rw[e1,e2,e3];refine (Lk B g l k w h7 hk1 hk8 hk).mono ?_;rintro e w' ⟨he,hr,ho⟩;exact⟨he,⟨h1,by rw[ho.size];exact h2,by rw[List.length_drop];omega,g,h5,fun h0=>h6 (by rw[List.length_drop] at h0;omega),hr⟩,ho.kb⟩
  ·exact no (.inr ⟨l,h7.rdr,om⟩) (by simp[bS,hk]) (by simp[E3,hk]) (by simp[aI,hk])
theorem dB(B lo hi:Nat)(s:RS)(k:Nat)(w:World)(h:Rd w B lo hi s)(hk1:1≤k)(hk8:k≤8):
  Calls prog 126 #[.pointer (some ⟨B,0,none⟩),.int .i64 k] w fun e w'=>e = .returned (.int .u64 (bS k s:Nat))∧Rd w' B lo hi (aI k s)∧Kb (fun b=>b=B) w w':=by
 have H:=SM h;clear h
 go_in
 go_wp2_with fail
 refine (td B lo hi s k _ H.o hk1 hk8).mono ?_;rintro _ w1 ⟨rfl,hb,ho⟩
 go_wp2
 go_ret
 exact⟨rfl,hb,ho⟩
theorem qM(B lo hi:Nat)(s:RS)(n:Nat)(w:World)(h:Rd w B lo hi s):
  Calls prog 179 #[.pointer (some ⟨B,0,none⟩),.int .u64 n] w fun e w'=>(match s with
   | some l=>if n≤l.length then (∃ g o,g≠B∧e = .returned (.tuple #[.slice (some ⟨g,o,none⟩) n n,.bool true])∧Bs w' (some ⟨g,o,none⟩) n n (l.take n))∧Rd w' B lo hi (some (l.drop n)) else e = .returned (.tuple #[.slice none 0 0,.bool false])∧Rd w' B lo hi none
   | none=>e = .returned (.tuple #[.slice none 0 0,.bool false])∧Rd w' B lo hi none)∧Kb (fun b=>b=B) w w':=by
 obtain⟨h1,h2,h3⟩:=h;cases s with
 | none =>
  refine (qG B n w h3).mono ?_;rintro e w' ⟨he,hb,ho⟩;exact⟨⟨he,h1,by rw[ho.size];exact h2,hb⟩,ho.kb⟩
 | some l =>
  obtain⟨h4,g,h5,h6,h7⟩:=h3
  by_cases hk:n≤l.length
  ·refine (Lj B g l n w h7 hk).mono ?_;rintro e w' ⟨o,hg,he,hbs,hr,ho⟩;refine⟨?_,ho.kb⟩;simp only[hk,if_true];exact⟨⟨g,o,hg,he,hbs⟩,h1,by rw[ho.size];exact h2,by rw[List.length_drop];omega,g,h5,fun h0=>h6 (by rw[List.length_drop] at h0;omega),hr⟩
  ·refine (vl B l n w h7.rdr om).mono ?_;rintro e w' ⟨he,hb,ho⟩;refine⟨?_,ho.kb⟩;simp only[hk,if_false];exact⟨he,h1,by rw[ho.size];exact h2,hb⟩
theorem vA(B lo hi:Nat)(s:RS)(w:World)(h:Rd w B lo hi s):
  Calls prog 128 #[.pointer (some ⟨B,0,none⟩)] w fun e w'=>e = .returned (.bool (decide (s=some [])))∧w=w':=by
 obtain⟨h1,h2,h3⟩:=h;cases s with
 | none=>exact qj B w h3
 | some l =>
  obtain⟨h4,g,h5,h6,h7⟩:=h3;refine (uP B l w h7.rdr).mono ?_;rintro e w' ⟨he,hw⟩;exact⟨by rw[he];simp,hw⟩
theorem Pa(B lo hi:Nat)(s:RS)(w:World)(h:Rd w B lo hi s):
  Calls prog 216 #[.pointer (some ⟨B,0,none⟩)] w fun e w'=>e = .returned (.bool s.isNone)∧w=w':=by
 obtain⟨h1,h2,h3⟩:=h;have hc:w.cell? ⟨B,1,none⟩=some (.bool s.isNone):=by
  cases s with
  | none=>have:=ab h3.2 1 _ rfl;rwa [Nat.zero_add] at this
  | some l =>
   obtain⟨h4,g,h5,h6,h7,o,c,h8,h9,_⟩:=h3;have:=ab h9 1 _ rfl;rwa [Nat.zero_add] at this
 clear h3
 go_in
 go_wp2
 go_ret
 exact⟨rfl,rfl⟩
end
section
theorem DI(a:Addr)(n c:Nat)(l:List UInt8)(w:World)(hl:Bs w (some a) n c l)(hs:n≤1000000):
  Calls prog 124 #[.slice (some a) n c] w fun e w'=>(∃ B,e = .returned (.pointer (some ⟨B,0,none⟩))∧Rd w' B w.heap.size w'.heap.size (some l))∧Below w.heap.size w w':=by
 refine (Q5 a n c l w hl om).mono ?_;rintro e w' ⟨⟨B,g,hB,hg,he,hr⟩,hb⟩;refine⟨⟨B,he,⟨hB,bA hr.1⟩,Nat.le_refl _,by rw[hl.1];exact hs,g,hg,fun h0=>?_,hr⟩,hb⟩
 have h1:=hr;obtain⟨_,o,c',h2,h3,h4⟩:=h1;obtain⟨b,o',e2,hrd⟩:=h4.2.2.2.2 h0;simp only[Option.some.injEq,Addr.mk.injEq,and_true] at e2;obtain⟨rfl,rfl⟩:=e2;exact ac hrd
theorem jX(B lo hi:Nat)(s:RS)(k:Nat)(w:World)(h:Rd w B lo hi s)(hk1:1≤k)(hk8:k≤8):
  Calls prog 127 #[.pointer (some ⟨B,0,none⟩),.int .i64 k] w fun e w'=>(∃ ad c,e = .returned (.slice ad (fT k s).length c)∧Bs w' ad (fT k s).length c (fT k s)∧∀ a,ad=some a→w.heap.size≤a.block)∧Rd w' B lo hi (fz k s)∧Kb (fun b=>b=B) w w':=by
 have H:=SM h;clear h;have hN:=td B lo hi s k w H.o hk1 hk8;have hlt:=mY k s hk8;obtain⟨N,hNe⟩:=eY (bS k s);rw[hNe] at hN hlt;have HNe:=SM hNe;have HN:=SM hN;clear hN hNe;cases ho:E3 k s with
 | false =>
  have hS:aI k s=none:=by
   cases s with
   | none=>rfl
   | some l=>simp only[E3,decide_eq_false_iff_not] at ho;simp[aI,ho]
  have e1:fT k s=[]:=by simp[fT,hS]
  have e2:fz k s=none:=by simp[fz,hS]
  rw[e1,e2];have HN2:=HN.o;rw[ho,hS] at HN2;have HN3:=SM HN2;clear HN2 HN ho hS e1 e2
  go_in
  go_wp2_with fail
  refine HN3.o.mono ?_;rintro _ w1 ⟨rfl,hr,hk⟩
  go_wp2
  go_ret
  exact⟨⟨none,0,rfl,Bs.nil _,fun a ha=>(by cases ha)⟩,hr,hk⟩
 | true =>
  obtain⟨l,rfl⟩ : ∃ l,s=some l:=by
   cases s with
   | none=>simp[E3] at ho
   | some l=>exact⟨l,rfl⟩
  have hkl:k≤l.length:=by simpa [E3] using ho
  have hS:aI k (some l)=some (l.drop k):=by simp[aI,hkl]
  have HN2:=HN.o;rw[ho,hS] at HN2;have HN3:=SM HN2;have Hs:Hd (fT k (some l)=if N≤(l.drop k).length then (l.drop k).take N else []):=by show _=_;simp[fT,hS,HNe.o]
  have Ht:Hd (fz k (some l)=if N≤(l.drop k).length then some ((l.drop k).drop N) else none):=by show _=_;simp[fz,hS,HNe.o]
  clear HN2 HN ho hS;generalize l.drop k=m at *
  by_cases hm:N≤m.length
  ·rw[Hs.o,Ht.o,if_pos hm,if_pos hm];have hl:(m.take N).length=N:=by rw[List.length_take];omega
   rw[hl];have Hl:=SM hl;have Hm:=SM hm;clear hl hm
   go_in
   go_wp2_with fail
   refine HN3.o.mono ?_;rintro _ w1 ⟨rfl,hr,hk⟩;have HR:=SM hr;have HK:=SM hk;clear hr hk HN3
   go_wp2_with fail
   refine (qM B lo hi (some m) N w1 HR.o).mono ?_;intro e w2 hx;simp only[Hm.o,if_true] at hx;obtain⟨⟨⟨g,o,hg,rfl,hb⟩,hr2⟩,hk2⟩:=hx;have Hr2:=SM hr2;have Hk2:=SM (HK.o.trans hk2 (fun i hi=>.inl hi));have Hb:=SM hb;have hNm:N≤1000000:=by have:=HR.o.r.1;have:=Hm.o;omega
   clear hr2 hk2 hb HR HK
   go_wp2_with fail
   refine (fA ⟨g,o,none⟩ N N (m.take N) w2 Hb.o om).mono ?_;rintro _ w3 ⟨⟨v,rfl,hne,hown⟩,hb3⟩;have hob:=hown.above;rw[Hl.o] at hob;obtain⟨ad,c,rfl,hB,hfr⟩:=hob;have hsz2:=Hk2.o.size;have Hfr:Hd (∀ a,ad=some a→w.heap.size≤a.block):=fun a ha=>by
    obtain⟨b,o',sp⟩:=a;have:=hfr b o' sp ha
    show w.heap.size≤b
    omega
   have Hf:=SM (show Rd w3 B lo hi (some (m.drop N))∧Kb (fun b=>b=B) w w3 from ⟨Hr2.o.below hb3,Hk2.o.trans (Kb.of_below hb3) (fun i hi=>.inl hi)⟩)
   have HB:=SM hB;clear hne hown hb3 hB Hr2 Hk2 hfr
   go_wp2
   go_ret
   exact⟨⟨ad,c,rfl,HB.o,Hfr.o⟩,Hf.o.1,Hf.o.2⟩
  ·rw[Hs.o,Ht.o,if_neg hm,if_neg hm];have Hm:=SM hm;clear hm
   go_in
   go_wp2_with fail
   refine HN3.o.mono ?_;rintro _ w1 ⟨rfl,hr,hk⟩;have HR:=SM hr;have HK:=SM hk;clear hr hk HN3
   go_wp2_with fail
   refine (qM B lo hi (some m) N w1 HR.o).mono ?_;intro e w2 hx;simp only[Hm.o,if_false] at hx;obtain⟨⟨rfl,hr2⟩,hk2⟩:=hx;have Hf:=SM (show Rd w2 B lo hi none∧Kb (fun b=>b=B) w w2 from ⟨hr2,HK.o.trans hk2 (fun i hi=>.inl hi)⟩)
   clear hr2 hk2
   go_wp2
   go_ret
   exact⟨⟨none,0,rfl,Bs.nil _,fun a ha=>(by cases ha)⟩,Hf.o.1,Hf.o.2⟩
theorem Lx(B lo hi:Nat)(s:RS)(n:Nat)(w:World)(h:Rd w B lo hi s)(hn:n≤1000000):
  Calls prog 185 #[.pointer (some ⟨B,0,none⟩),.int .i64 n] w fun e w'=>(∃ ad c,e = .returned (.slice ad (tO n s).length c)∧Bs w' ad (tO n s).length c (tO n s))∧Rd w' B lo hi (aI n s)∧Kb (fun b=>b=B) w w':=by
 have H:=SM h;clear h;have d0:decide ((n:Int) < 0)=false:=sm;have no:(∀ (e:Ending) (w':World),((match s with
   | some l=>if n≤l.length then (∃ g o,g≠B∧e = .returned (.tuple #[.slice (some ⟨g,o,none⟩) n n,.bool true])∧Bs w' (some ⟨g,o,none⟩) n n (l.take n))∧Rd w' B lo hi (some (l.drop n)) else e = .returned (.tuple #[.slice none 0 0,.bool false])∧Rd w' B lo hi none
   | none=>e = .returned (.tuple #[.slice none 0 0,.bool false])∧Rd w' B lo hi none)∧Kb (fun b=>b=B) w w')→e = .returned (.tuple #[.slice none 0 0,.bool false])∧Rd w' B lo hi none∧Kb (fun b=>b=B) w w')→tO n s=[]→aI n s=none →
   Calls prog 185 #[.pointer (some ⟨B,0,none⟩),.int .i64 n] w fun e w'=>(∃ ad c,e = .returned (.slice ad (tO n s).length c)∧Bs w' ad (tO n s).length c (tO n s))∧Rd w' B lo hi (aI n s)∧Kb (fun b=>b=B) w w':=by
  intro hx e1 e2;rw[e1,e2];have HX:=SM hx;clear hx e1 e2
  go_in
  go_wp2_with fail
  refine (qM B lo hi s n w H.o).mono ?_;intro e w2 hx;obtain⟨rfl,hr2,hk2⟩:=HX.o e w2 hx;clear HX
  go_wp2
  go_ret
  exact⟨⟨none,0,rfl,Bs.nil _⟩,hr2,hk2⟩
 cases s with
 | none=>exact no (fun e w' h=>⟨h.1.1,h.1.2,h.2⟩) rfl rfl
 | some l =>
  by_cases hm:n≤l.length
  ·have e1:tO n (some l)=l.take n:=by simp[tO,hm]
   have e2:aI n (some l)=some (l.drop n):=by simp[aI,hm]
   have hl:(l.take n).length=n:=by rw[List.length_take];omega
   rw[e1,e2,hl];have Hl:=SM hl;have Hm:=SM hm;clear hl hm e1 e2 no
   go_in
   go_wp2_with fail
   refine (qM B lo hi (some l) n w H.o).mono ?_;intro e w2 hx;simp only[Hm.o,if_true] at hx;obtain⟨⟨⟨g,o,hg,rfl,hb⟩,hr2⟩,hk2⟩:=hx;have Hr2:=SM hr2;have Hk2:=SM hk2;have Hb:=SM hb;clear hr2 hk2 hb
   go_wp2_with fail
   refine (fA ⟨g,o,none⟩ n n (l.take n) w2 Hb.o om).mono ?_;rintro _ w3 ⟨⟨v,rfl,hne,hown⟩,hb3⟩;have hob:=hown.bs;rw[Hl.o] at hob;obtain⟨ad,c,rfl,hB⟩:=hob;have Hf:=SM (show Rd w3 B lo hi (some (l.drop n))∧Kb (fun b=>b=B) w w3 from ⟨Hr2.o.below hb3,Hk2.o.trans (Kb.of_below hb3) (fun i hi=>.inl hi)⟩)
   have HB:=SM hB;clear hne hown hb3 hB Hr2 Hk2
   go_wp2
   go_ret
   exact⟨⟨ad,c,rfl,HB.o⟩,Hf.o.1,Hf.o.2⟩
  ·refine no (fun e w' h=>?_) (by simp[tO,hm]) (by simp[aI,hm])
   simp only[hm,if_false] at h;exact⟨h.1.1,h.1.2,h.2⟩
def Fg(w:World)(B:Nat):Prop:=canAt w B 0 2=true∧readAt w B 0 2=some #[.slice none 0 0,.bool false]
theorem Av(w:World):Calls prog 177 #[.slice none 0 0] w fun e w'=>e = .returned (.slice none 0 0)∧w=w':=by
 have heq:=fun w=>Lib.run_eql_slice_nil (P:=prog) w 39 5 none 0 0 0 0 underlying39
 go_in
 go_wp2
 go_ret
 exact⟨rfl,rfl⟩
theorem Lh(w:World):Calls prog 124 #[.slice none 0 0] w fun e w'=>e = .returned (.pointer (some ⟨w.heap.size,0,none⟩))∧Fg w' w.heap.size∧Below w.heap.size w w':=by
 go_in
 go_wp2_with fail
 refine (Av w).mono ?_;rintro _ w1 ⟨rfl,rfl⟩
 go_wp2
 go_ret
 exact⟨rfl,⟨by simp[go_sem],by simp[go_sem]⟩,ba _ (Below.refl _ _)⟩
theorem GJ(B:Nat)(n:Int)(w:World)(h:Fg w B)(hn:0 < n):
  Calls prog 179 #[.pointer (some ⟨B,0,none⟩),.int .u64 n] w (rA B w):=by
 obtain⟨hc,hr⟩:=h;have g0:=ab hr 0 _ rfl;have g1:=ab hr 1 _ rfl;simp only[Nat.zero_add] at g0 g1;simp only[List.getElem_toArray,List.getElem_cons_zero,List.getElem_cons_succ] at g0 g1;have Hcr:=SM (And.intro hc hr);clear hc hr;have d0:decide ((0:Int) < n)=true:=sO
 go_in
 go_wp2_with fail
 refine (qp B _ _ _ Hcr.o.1 Hcr.o.2).mono ?_;rintro _ w1 ⟨rfl,hb,ho⟩
 go_wp2
 go_ret2
 exact⟨rfl,hb,ho⟩
theorem yl(B:Nat)(w:World)(h:Fg w B):
  Calls prog 126 #[.pointer (some ⟨B,0,none⟩),.int .i64 1] w fun e w'=>e = .returned (.int .u64 0)∧fC w' B∧cC B w w':=by
 have H:=SM h;clear h;have hn:Calls prog 178 #[.pointer (some ⟨B,0,none⟩),.int .i64 1] w (NY B w):=by
  go_in
  go_wp2_with fail
  refine (GJ B 1 w H.o om).mono ?_;rintro _ w1 ⟨rfl,hb,ho⟩
  go_wp2
  go_ret2
  exact⟨rfl,hb,ho⟩
 have HN:=SM hn;clear hn
 go_in
 go_wp2_with fail
 refine HN.o.mono ?_;rintro _ w1 ⟨rfl,hb,ho⟩
 go_wp2
 go_ret
 exact⟨rfl,hb,ho⟩
end
section
def Ti(x:Int):Int:=if x < -9223372036854775808 then -9223372036854775808 else if 9223372036854775807 < x then 9223372036854775807 else x
theorem Pg(x:Int):fk (Ti x):=by simp only[fk,Ti];(repeat' split) <;> omega
theorem rf(a b:Int)(w:World)(ha:fk a)(hb:fk b):
  Calls prog 186 #[.int .i64 a,.int .i64 b] w fun e w'=>e = .returned (.int .i64 (Ti (a - b)))∧w=w':=by
 go_in
 go_wp2
 all_goals
  go_ret
  refine⟨iO ?_,rfl⟩;simp only[fk,Ti,wrap64] at *
  (repeat' split) <;> omega
theorem Bp(a b:Int)(w:World)(ha:fk a)(hb:fk b):
  Calls prog 138 #[.int .i64 a,.int .i64 b] w fun e w'=>e = .returned (.int .i64 (Ti (max a b - min a b)))∧w=w':=by
 by_cases h:a < b
 ·go_in
  go_wp2_with fail
  refine (rf _ _ _ hb ha).mono ?_;rintro e w' ⟨rfl,rfl⟩
  go_wp2
  go_ret
  exact⟨iO (by congr 1;omega),rfl⟩
 ·by_cases h2:b < a
  ·go_in
   go_wp2_with fail
   refine (rf _ _ _ ha hb).mono ?_;rintro e w' ⟨rfl,rfl⟩
   go_wp2
   go_ret
   exact⟨iO (by congr 1;omega),rfl⟩
  ·obtain rfl:a=b:=om
   go_in
   go_wp2_with fail
   refine (rf _ _ _ ha hb).mono ?_;rintro e w' ⟨rfl,rfl⟩
   go_wp2
   go_ret
   exact⟨iO (by congr 1;omega),rfl⟩
theorem EL{w:World}{a b:Int}{T:TypeId}(h:a=b):w.alloc (.cells #[.int .i64 a] T)=w.alloc (.cells #[.int .i64 b] T):=by rw[h]
theorem Fi(a b:Int)(w:World)(ha:fk a)(hb:fk b):
  Calls prog 86 #[.int .i64 b,.pointer (some ⟨w.heap.size,0,none⟩)] (w.alloc (.cells #[.int .i64 a] 2)) fun e w'=>e = .returned (.tuple #[])∧w'=w.alloc (.cells #[.int .i64 (Ti (a+b))] 2):=by
 go_in
 go_wp2
 all_goals
  go_end0
  refine⟨rfl,EL ?_⟩;simp only[fk,Ti,wrap64] at *
  (repeat' split) <;> omega
def NV(w:World)(ad:Option Addr)(n:Nat)(zs:List Int):Prop :=
 zs.length=n∧n≤9223372036854775807∧(∀ z ∈ zs,fk z)∧(0 < n→∃ b off,ad=some ⟨b,off,none⟩∧b < w.heap.size∧∀ j,j < n→w.cell? ⟨b,off+j,none⟩=some (.int .i64 (zs.getD j 0)))
def Iy(a:Int)(zs:List Int):Int:=zs.foldl (fun a b=>Ti (a+b)) a
theorem Eu(a:Int)(zs:List Int)(k:Nat)(h:k < zs.length):Iy a (zs.take (k+1))=Ti (Iy a (zs.take k)+zs.getD k 0):=by
 unfold Iy;rw[List.take_succ_eq_append_getElem h,List.foldl_append];simp[List.getD,h]
theorem Mv(a:Int)(zs:List Int)(ha:fk a):fk (Iy a zs):=by
 unfold Iy
 induction zs generalizing a with
 | nil=>exact ha
 | cons z zs ih=>exact ih _ (Pg _)
theorem Ki(a:Int)(ad:Option Addr)(c:Nat)(w:World):
  Calls prog 59 #[.int .i64 a,.slice ad 0 c] w fun e w'=>e = .returned (.int .i64 a)∧Below w.heap.size w w':=by
 go_in
 go_wp2
 refine wp_loop_rounds 1 ?_;rw[rounds_succ]
 go_wp2
 go_ret
 exact⟨rfl,(Below.refl _ _).alloc (Nat.le_refl _) _⟩
theorem Fj(a:Int)(b off n c:Nat)(zs:List Int)(w:World)(ha:fk a)(hl:zs.length=n)(hm:n≤9223372036854775807)(hz:∀ z ∈ zs,fk z)(hb:b < w.heap.size)
  (hc:∀ j,j < n→w.cell? ⟨b,off+j,none⟩=some (.int .i64 (zs.getD j 0))) :
  Calls prog 59 #[.int .i64 a,.slice (some ⟨b,off,none⟩) n c] w fun e w'=>e = .returned (.int .i64 (Iy a zs))∧Below w.heap.size w w':=by
 have Hl:=SM hl;clear hl
 go_in
 go_wp2
 go_loopw [11] (fun i wr=>∃ k:Nat,k≤n∧i = .int .i64 k∧wr=w.alloc (.cells #[.int .i64 (Iy a (zs.take k))] 2)) (fun i _=>n - (intOf i).toNat)
 case atStart=>exact⟨0,Nat.zero_le _,rfl,rfl⟩
 case round =>
  obtain⟨k,hk,rfl,rfl⟩:=hrel
  by_cases hlt:k < n
  ·have hcell:∀ v,(w.alloc (.cells #[v] 2)).cell? ⟨b,off+k,none⟩=some (.int .i64 (zs.getD k 0)):=fun v=>by
    rw[World.cell?_alloc_past _ _ _ hb];exact hc k hlt
   have hs:=Mv a (zs.take k) ha;have hzk:fk (zs.getD k 0):=by
    have h1:k < zs.length:=by rw[Hl.o];exact hlt
    have:=hz (zs[k]) (List.getElem_mem h1);simpa [List.getD,h1] using this
   have hn:=Eu a zs k (by rw[Hl.o];exact hlt)
   have Hn:=SM hn;clear hn;clear hc;generalize zs.getD k 0=z at *;generalize Iy a (zs.take k)=S at *
   go_wp2_with fail
   refine (Fi S z w hs hzk).mono ?_;rintro _ w1 ⟨rfl,rfl⟩
   go_wp2
   go_roundw
   case rel=>exact⟨k+1,om,by go_num,by rw[Hn.o]⟩
   case measure=>simp[intOf];omega
  ·obtain rfl:k=n:=om
   go_wp2
   go_ret
   refine⟨iO ?_,(Below.refl _ _).alloc (Nat.le_refl _) _⟩;rw[List.take_of_length_le (by rw[Hl.o];exact Nat.le_refl _)]
theorem Kh(a:Int)(ad:Option Addr)(n c:Nat)(zs:List Int)(w:World)(ha:fk a)(h:NV w ad n zs):
  Calls prog 59 #[.int .i64 a,.slice ad n c] w fun e w'=>e = .returned (.int .i64 (Iy a zs))∧Below w.heap.size w w':=by
 obtain⟨hl,hm,hz,hs⟩:=h
 by_cases h0:0 < n
 ·obtain⟨b,off,rfl,hb,hc⟩:=hs h0;exact Fj a b off n c zs w ha hl hm hz hb hc
 ·obtain rfl:n=0:=om;obtain rfl:zs=[]:=List.eq_nil_of_length_eq_zero hl;exact Ki a ad c w
end
section
theorem uA(a b:Int)(B:Nat)(w:World)(ha:fk a)(hb:fk b)(hB:B < w.heap.size)(hc:w.cell? ⟨B,0,none⟩=some (.int .i64 b)):
  Calls prog 59 #[.int .i64 a,.slice (some ⟨B,0,none⟩) 1 1] w fun e w'=>e = .returned (.int .i64 (Ti (a+b)))∧Below w.heap.size w w':=by
 refine (Kh a _ 1 1 [b] w ha ⟨rfl,dc,by simpa using hb,fun _=>⟨B,0,rfl,hB,fun j hj=>?_⟩⟩)
 obtain rfl:j=0:=om
 simpa using hc
theorem Aw(s e k:Int)(w:World)(hs:fk s)(he:fk e)(hk:fk k):
  Calls prog 132 #[.int .i64 s,.int .i64 e,.int .i64 k] w fun r w'=>r = .returned (.tuple #[.int .i64 (Ti (s - k)),.int .i64 (Ti (e+k))])∧Below w.heap.size w w':=by
 go_in
 go_wp2_with fail
 refine (rf _ _ _ hs hk).mono ?_;rintro _ w' ⟨rfl,rfl⟩
 go_wp2_with fail
 refine (uA e k _ _ he hk sm sm).mono ?_;rintro _ w' ⟨rfl,hb⟩
 go_wp2
 go_ret2
 exact⟨rfl,((Below.refl _ _).alloc (Nat.le_refl _) _).trans (hb.mono sm)⟩
end
section
def aM(w:World)(ad:Option Addr)(n c:Nat)(L:List ByteArray):Prop:=L.length=n∧Se w (.slice ad n c) n 1 (L.map Value.string)
theorem aM.below{w w':World}{ad:Option Addr}{n c:Nat}{L:List ByteArray}(h:aM w ad n c L)(hb:Below w.heap.size w w'):aM w' ad n c L:=⟨h.1,h.2.below hb⟩
theorem aM.max{w:World}{ad:Option Addr}{n c:Nat}{L:List ByteArray}(h:aM w ad n c L):n≤9223372036854775807:=by
 obtain⟨_,ad',cap,e,h1,h2,_⟩:=h;simp only[maxLen] at h2;omega
theorem aM.at{w:World}{ad:Option Addr}{n c:Nat}{L:List ByteArray}(h:aM w ad n c L)(i:Nat)(hi:i < n):
  ∃ b o,ad=some ⟨b,o,none⟩∧w.cell? ⟨b,o+i,none⟩=some (.string (L.getD i ByteArray.empty)):=by
 obtain⟨hl,h⟩:=h;obtain⟨b,o,cap,e,_,_,hr⟩:=h.at i hi;simp only[Value.slice.injEq,true_and] at e;refine⟨b,o,e.1,?_⟩;have:=ab hr 0 (.string (L.getD i ByteArray.empty)) (by
  rw[cO _ _ _ _ sO];simp[List.getD,show i < L.length by omega])
 simpa using this
theorem CL{α:Type}{A B:List α}(h:A.length=B.length)(k:Nat)(hk:∀ j,j < k→A[j]? = B[j]?)(hall:A.length≤k):A=B:=by
 apply List.ext_getElem?
 intro i
 by_cases hi:i < k
 ·exact hk i hi
 ·rw[List.getElem?_eq_none om,List.getElem?_eq_none om]
theorem Ch(ad bd:Option Addr)(n m c c2:Nat)(A B:List ByteArray)(w:World)(ha:aM w ad n c A)(hb:aM w bd m c2 B):
  Calls prog 187 #[.slice ad n c,.slice bd m c2] w fun e w'=>e = .returned (.bool (decide (A.map ByteArray.toList=B.map ByteArray.toList)))∧Below w.heap.size w w':=by
 have hmx:=ha.max
 by_cases h:n=m
 ·subst h;have Ha:=SM ha;have Hb:=SM hb;have HA:=SM ha.1;have HB:=SM hb.1;clear ha hb
  go_in
  go_wp2
  go_loopw [13] (fun i wr=>∃ k:Nat,k≤n∧i = .int .i64 k∧Hd (∀ j,j < k→(A.map ByteArray.toList)[j]? = (B.map ByteArray.toList)[j]?)∧Below w.heap.size w wr) (fun i _=>n - (intOf i).toNat)
  case atStart=>exact⟨0,Nat.zero_le _,rfl,fun j hj=>absurd hj om,Below.refl _ _⟩
  case round =>
   obtain⟨k,hk,rfl,hsame,hbw⟩:=hrel
   by_cases hlt:k < n
   ·obtain⟨b1,o1,rfl,h1⟩:=(Ha.o.below hbw).at k hlt;obtain⟨b2,o2,rfl,h2⟩:=(Hb.o.below hbw).at k hlt;have hga:A[k]? = some (A.getD k ByteArray.empty):=by rw[List.getD_eq_getElem?_getD,List.getElem?_eq_getElem (by rw[HA.o];exact hlt)];rfl
    have hgb:B[k]? = some (B.getD k ByteArray.empty):=by rw[List.getD_eq_getElem?_getD,List.getElem?_eq_getElem (by rw[HB.o];exact hlt)];rfl
    have Hga:=SM hga;have Hgb:=SM hgb;clear hga hgb;generalize A.getD k ByteArray.empty=x at *;generalize B.getD k ByteArray.empty=y at *
    by_cases hxy:x.toList=y.toList
    ·have hd:(x.toList == y.toList)=true:=by simpa using hxy
     have Hxy:=SM hxy;clear hxy
     go_wp2_with fail
     go_region
     go_wp2
     go_roundw
     case rel=>exact⟨k+1,om,by go_num,fun j hj=>by
      rcases Nat.lt_or_eq_of_le (Nat.lt_succ_iff.1 hj) with h | h
      ·exact hsame.o j h
      ·subst h;rw[List.getElem?_map,List.getElem?_map,Hga.o,Hgb.o];exact congrArg some Hxy.o,hbw.drew⟩
     case measure=>simp[intOf];omega
    ·have hd:(x.toList == y.toList)=false:=by simpa using hxy
     have hfin:decide (A.map ByteArray.toList=B.map ByteArray.toList)=false:=by
      rw[decide_eq_false_iff_not];intro e;have h1:=congrArg (fun l=>l[k]?) e;simp only[List.getElem?_map,Hga.o,Hgb.o,Option.map_some,Option.some.injEq] at h1;exact hxy h1
     have Hfin:=SM hfin;clear hfin hxy
     go_wp2_with fail
     go_region
     go_wp2
     go_ret
     exact⟨by rw[Hfin.o];rfl,hbw.drew⟩
   ·obtain rfl:k=n:=om;have hfin:decide (A.map ByteArray.toList=B.map ByteArray.toList)=true:=by
     rw[decide_eq_true_iff];exact CL (by rw[List.length_map,List.length_map,HA.o,HB.o]) k hsame.o (by rw[List.length_map,HA.o];exact Nat.le_refl _)
    have Hfin:=SM hfin;clear hfin
    go_wp2
    go_ret
    exact⟨by rw[Hfin.o];rfl,hbw⟩
 ·have hne:((n:Int) != (m:Int))=true:=sO;have hf:decide (A.map ByteArray.toList=B.map ByteArray.toList)=false:=by rw[decide_eq_false_iff_not];intro e;apply h;rw[← ha.1,← hb.1];have:=congrArg List.length e;simpa using this
  rw[hf];clear ha hb h hf
  go_in
  go_wp2
  go_ret
  exact⟨rfl,Below.refl _ _⟩
def kL(r q:ByteArray)(A B:List ByteArray):Bool:=(r.toList == q.toList) && decide (A.map ByteArray.toList=B.map ByteArray.toList)
theorem Dc(r q:ByteArray)(ad bd:Option Addr)(n m c c2:Nat)(A B:List ByteArray)(w:World)(ha:aM w ad n c A)(hb:aM w bd m c2 B):
  Calls prog 136 #[.agg #[.string r,.slice ad n c],.agg #[.string q,.slice bd m c2]] w fun e w'=>e = .returned (.bool (kL r q A B))∧Below w.heap.size w w':=by
 by_cases h:r.toList=q.toList
 ·have hd:(r.toList == q.toList)=true:=by simpa using h
  have Ha:=SM ha;have Hb:=SM hb;have Hn:Hd (kL r q A B=decide (A.map ByteArray.toList=B.map ByteArray.toList)):=by show _=_;unfold kL;rw[hd,Bool.true_and]
  clear ha hb h;rw[Hn.o];have hb0:=ba (.cells #[.string q,.slice bd m c2] 95) (ba (.cells #[.string r,.slice ad n c] 95) (Below.refl _ w))
  go_in
  go_wp2_with fail
  refine (Ch ad bd n m c c2 A B _ (Ha.o.below hb0) (Hb.o.below hb0)).mono ?_;rintro _ w2 ⟨rfl,hb2⟩
  go_wp2
  go_ret
  exact⟨rfl,bt hb0 hb2⟩
 ·have hd:(r.toList == q.toList)=false:=by simpa using h
  have Hn:Hd (kL r q A B=false):=by show _=_;unfold kL;rw[hd,Bool.false_and]
  clear ha hb h;rw[Hn.o]
  go_in
  go_wp2
  go_ret
  exact⟨rfl,ba _ (ba _ (Below.refl _ _))⟩
end
section
abbrev RX:=Vector UInt8 16
def cM:RX:=Vector.replicate 16 0
def tv(r:ByteArray)(ad:Option Addr)(n c:Nat)(s e:Int)(k:RX):Array Value:=#[.string r,.slice ad n c,.int .i64 s,.int .i64 e] ++ av k
@[simp,go_sem] theorem Mm(r:ByteArray)(ad:Option Addr)(n c:Nat)(s e:Int)(k:RX):(tv r ad n c s e k).size=20:=by simp[tv]
section
variable (r:ByteArray) (ad:Option Addr) (n c:Nat) (s e:Int) (k:RX)
theorem Pp:∀ v ∈ tv r ad n c s e k,v.oneCell'=true:=by
 intro v hv;simp only[tv,Array.mem_append] at hv
 rcases hv with hv | hv
 ·simp at hv;rcases hv with rfl | rfl | rfl | rfl <;> rfl
 ·exact oE k v hv
@[go_sem] theorem Rx:(tv r ad n c s e k)[0]? = some (.string r):=by simp[tv]
@[go_sem] theorem Ry:(tv r ad n c s e k)[1]? = some (.slice ad n c):=by simp[tv]
@[go_sem] theorem Rz:(tv r ad n c s e k)[2]? = some (.int .i64 s):=by simp[tv]
@[go_sem] theorem RC:(tv r ad n c s e k)[3]? = some (.int .i64 e):=by simp[tv]
@[go_sem] theorem JX:(tv r ad n c s e k).extract 0 20=tv r ad n c s e k:=by
 apply Array.ext'
 simp[List.extract_eq_take_drop];exact List.take_of_length_le sm
end
attribute [go_sem] aj b9 aq eW nh ku am cY ap pq cU
theorem MO:(prog.info? 97).map (fun i=>(i.zero,i.size,i.bytes))=some (some (.agg (tv ⟨#[]⟩ none 0 0 0 0 cM)),20,72):=kr
theorem uX:(prog.info? 97).map (·.size)=some 20:=kr
def AY(v:Value):Sem Value:=Instr.loadAt 97 v
def Ba(v x:Value):Sem Unit:=Instr.storeAt 97 v x
def ug:Sem Value:=Instr.alloc 97 true (.tuple #[])
def mh(parts:Array (Nat × Value)):Sem Value:=Instr.build 97 parts
@[go_sem ↓] theorem OT(v:Value):Instr.loadAt 97 v=AY v:=rfl
@[go_sem ↓] theorem NM(v x:Value):Instr.storeAt 97 v x=Ba v x:=rfl
@[go_sem ↓] theorem PM:Instr.alloc 97 true (.tuple #[])=ug:=rfl
@[go_sem ↓] theorem PV(parts:Array (Nat × Value)):Instr.build 97 parts=mh parts:=rfl
@[go_sem ↓] theorem Ns(w:World)(b o:Nat)(h:(readAt w b o 20).isSome=true):
  (AY (.pointer (some ⟨b,o,none⟩))).run prog w = .ok (.agg ((readAt w b o 20).getD #[])) w:=by
 obtain⟨cs,hc⟩:=Option.isSome_iff_exists.1 h;unfold AY;rw[aJ w b o 20 97 _ cs hc underlying97 rfl uX,hc];rfl
@[go_sem ↓] theorem L9(w:World)(b o:Nat)(r:ByteArray)(ad:Option Addr)(n c:Nat)(s e:Int)(k:RX)(h:canAt w b o 20=true):
  (Ba (.pointer (some ⟨b,o,none⟩)) (.agg (tv r ad n c s e k))).run prog w = .ok () (setAt w b o (tv r ad n c s e k)) :=
 aH w b o 20 97 (tv r ad n c s e k) h (Mm ..) uX (Pp r ad n c s e k)
theorem uZ{P:Program}{e:TypeId}{z:Value}{n b:Nat}(h:(P.info? e).map (fun i=>(i.zero,i.size,i.bytes))=some (some z,n,b)):∃ i,P.info? e=some i∧i.zero=some z∧i.size=n∧i.bytes=b:=by
 obtain⟨i,hi,h⟩:=Option.map_eq_some_iff.1 h;simp at h;exact⟨i,hi,h.1,h.2.1,h.2.2⟩
@[go_sem] theorem LH(w:World):
  ug.run prog w = .ok (.pointer (some ⟨w.heap.size,0,none⟩)) (w.alloc (.cells (tv ⟨#[]⟩ none 0 0 0 0 cM) 97)):=by
 obtain⟨i,hi,hz,hs,hb⟩:=uZ MO;unfold ug;simp[Instr.alloc,zeroValue,typeInfo,hi,hz,newVar,newRow,Value.cells]
attribute [irreducible] tv
theorem za(r:ByteArray)(ad:Option Addr)(n c:Nat)(t m q:Int)(skew:Int)(w:World)(ht:fk t)(hk:fk skew):
  Calls prog 64 #[.agg #[.string r,.slice ad n c,.int .i64 t,.int .u32 m,.int .u32 q],.int .i64 skew] w fun x w'=>x = .returned (.int .i64 (Ti (t+skew)))∧Below w.heap.size w w':=by
 have hb0:=ba (.cells #[.int .i64 skew] 2) (ba (.cells #[.string r,.slice ad n c,.int .i64 t,.int .u32 m,.int .u32 q] 99) (Below.refl _ w))
 go_in
 go_wp2_with fail
 refine (uA t skew _ _ ht hk sm sm).mono ?_;rintro _ w2 ⟨rfl,hb2⟩
 go_wp2
 go_ret
 exact⟨rfl,bt hb0 hb2⟩
def oB(w:World)(B:Nat)(r:ByteArray)(ad:Option Addr)(n c:Nat)(s e:Int)(k:RX):Prop:=readAt w B 0 20=some (tv r ad n c s e k)
theorem oB.below{w w':World}{B:Nat}{r:ByteArray}{ad:Option Addr}{n c:Nat}{s e:Int}{k:RX}(h:oB w B r ad n c s e k)(hb:Below w.heap.size w w'):oB w' B r ad n c s e k:=by
 unfold oB at *;rw[ak hb (ac h)];exact h
theorem oB.cells{w:World}{B:Nat}{r:ByteArray}{ad:Option Addr}{n c:Nat}{s e:Int}{k:RX}(h:oB w B r ad n c s e k):
  w.cell? ⟨B,0,none⟩=some (.string r)∧w.cell? ⟨B,1,none⟩=some (.slice ad n c)∧w.cell? ⟨B,2,none⟩=some (.int .i64 s)∧w.cell? ⟨B,3,none⟩=some (.int .i64 e)∧readAt w B 0 20=some (tv r ad n c s e k):=by
 have h0:=ab h 0 _ (Rx ..);have h1:=ab h 1 _ (Ry ..);have h2:=ab h 2 _ (Rz ..);have h3:=ab h 3 _ (RC ..);rw[Nat.zero_add] at h0 h1 h2 h3;exact⟨h0,h1,h2,h3,h⟩
theorem oB.new(w:World)(r:ByteArray)(ad:Option Addr)(n c:Nat)(s e:Int)(k:RX):oB (w.alloc (.cells (tv r ad n c s e k) 97)) w.heap.size r ad n c s e k:=by
 unfold oB;rw[aj _ _ _ _ _ _ _ rfl sm,JX]
def Fa(w:World)(B:Nat)(q:ByteArray)(ad:Option Addr)(n c:Nat)(t mi sq:Int):Prop :=
 B < w.heap.size∧w.cell? ⟨B,0,none⟩=some (.string q)∧w.cell? ⟨B,1,none⟩=some (.slice ad n c)∧w.cell? ⟨B,2,none⟩=some (.int .i64 t)∧w.cell? ⟨B,3,none⟩=some (.int .u32 mi)∧w.cell? ⟨B,4,none⟩=some (.int .u32 sq)
theorem Fa.below{w w':World}{B:Nat}{q:ByteArray}{ad:Option Addr}{n c:Nat}{t mi sq:Int}(h:Fa w B q ad n c t mi sq)(hb:Below w.heap.size w w'):Fa w' B q ad n c t mi sq:=by
 obtain⟨h0,h1,h2,h3,h4,h5⟩:=h;exact⟨Nat.lt_of_lt_of_le h0 hb.size,(hb.cell (p:=⟨B,0,none⟩) h0).trans h1,(hb.cell (p:=⟨B,1,none⟩) h0).trans h2,(hb.cell (p:=⟨B,2,none⟩) h0).trans h3,(hb.cell (p:=⟨B,3,none⟩) h0).trans h4,(hb.cell (p:=⟨B,4,none⟩) h0).trans h5⟩
theorem Fa.new(w:World)(q:ByteArray)(ad:Option Addr)(n c:Nat)(t mi sq:Int):Fa (w.alloc (.cells #[.string q,.slice ad n c,.int .i64 t,.int .u32 mi,.int .u32 sq] 99)) w.heap.size q ad n c t mi sq:=by
 refine⟨sm,?_,?_,?_,?_,?_⟩ <;> simp[go_sem]
end
section
theorem FC(now from_:Int)(BN BF:Nat)(w:World)(h1:w.cell? ⟨BN,0,none⟩=some (.int .i64 now))(h2:w.cell? ⟨BF,0,none⟩=some (.int .i64 from_)):
  Calls prog 133 #[.pointer (some ⟨BN,0,none⟩),.pointer (some ⟨BF,0,none⟩)] w fun x w'=>x = .returned (.bool (decide (now < from_)))∧Below w.heap.size w w':=by
 have hb:=Sy w
 go_in
 go_wp2
 go_ret
 exact⟨rfl,hb⟩
theorem FD(now to_:Int)(BN BO:Nat)(w:World)(h1:w.cell? ⟨BN,0,none⟩=some (.int .i64 now))(h2:w.cell? ⟨BO,0,none⟩=some (.int .i64 to_)):
  Calls prog 134 #[.pointer (some ⟨BN,0,none⟩),.pointer (some ⟨BO,0,none⟩)] w fun x w'=>x = .returned (.bool (decide (to_ < now)))∧Below w.heap.size w w':=by
 have hb:=Sy w
 go_in
 go_wp2
 go_ret
 exact⟨rfl,hb⟩
theorem FE(r q:ByteArray)(ad bd:Option Addr)(n m c c2:Nat)(A B:List ByteArray)(s e t mi sq:Int)(k:RX)(BT BA:Nat)(w:World)(hT:oB w BT r ad n c s e k)(hU:Fa w BA q bd m c2 t mi sq)(ha:aM w ad n c A)(hb:aM w bd m c2 B):
  Calls prog 135 #[.pointer (some ⟨BT,0,none⟩),.pointer (some ⟨BA,0,none⟩)] w fun x w'=>x = .returned (.bool (!kL r q A B))∧Below w.heap.size w w':=by
 obtain⟨f0,f1,f2,f3,f4⟩:=hT.cells;obtain⟨g0,g1,g2,g3,g4,g5⟩:=hU
 go_in
 go_wp2_with fail
 refine (Dc r q ad bd n m c c2 A B _ ha hb).mono ?_;rintro _ w2 ⟨rfl,hb2⟩
 go_wp2
 go_ret
 exact⟨rfl,hb2⟩
theorem FF(q:ByteArray)(bd:Option Addr)(m c2:Nat)(t mi sq now skew:Int)(BA BN BS:Nat)(w:World)(hU:Fa w BA q bd m c2 t mi sq)(ht:fk t)(hn:fk now)(h1:w.cell? ⟨BN,0,none⟩=some (.int .i64 now))(h2:w.cell? ⟨BS,0,none⟩=some (.int .i64 skew)):
  Calls prog 137 #[.pointer (some ⟨BA,0,none⟩),.pointer (some ⟨BN,0,none⟩),.pointer (some ⟨BS,0,none⟩)] w fun x w'=>x = .returned (.bool (decide (skew < Ti (max t now - min t now))))∧Below w.heap.size w w':=by
 obtain⟨g0,g1,g2,g3,g4,g5⟩:=hU
 go_in
 go_wp2_with fail
 go_region_held3 (fun w'=>w'.cell? ⟨BA,2,none⟩=some (.int .i64 t)∧w'.cell? ⟨BN,0,none⟩=some (.int .i64 now)∧w'.cell? ⟨BS,0,none⟩=some (.int .i64 skew)) (go_keep)
  (first | (go_at_call 138;refine (Bp t now _ ht hn).mono ?_;rintro e w' ⟨rfl,rfl⟩))
 go_wp2
 go_ret
 exact⟨rfl,(Below.refl _ _).drew⟩
def Kf(w:World)(f:FuncId)(caps:Array Value)(b:Bool):Prop :=
 ∀ w',Below w.heap.size w w'→Calls prog f caps w' fun x w''=>x = .returned (.bool b)∧Below w'.heap.size w' w''
theorem Kf.later{w w1:World}{f:FuncId}{caps:Array Value}{b:Bool}(h:Kf w f caps b)(hb:Below w.heap.size w w1):Kf w1 f caps b :=
 fun w' h'=>h w' (hb.trans (h'.mono hb.size))
def RL(w:World)(B:Nat)(f0 f1 f2 f3:Bool):Prop :=
 B < w.heap.size∧∃ c0 c1 c2 c3:Array Value,
  (w.cell? ⟨B,0,none⟩=some (.int .i64 3)∧w.cell? ⟨B,1,none⟩=some (.func (.func 133) #[] c0) ∧
  w.cell? ⟨B,2,none⟩=some (.int .i64 4)∧w.cell? ⟨B,3,none⟩=some (.func (.func 134) #[] c1) ∧
  w.cell? ⟨B,4,none⟩=some (.int .i64 5)∧w.cell? ⟨B,5,none⟩=some (.func (.func 135) #[] c2) ∧
  w.cell? ⟨B,6,none⟩=some (.int .i64 6)∧w.cell? ⟨B,7,none⟩=some (.func (.func 137) #[] c3)) ∧
  Kf w 133 c0 f0∧Kf w 134 c1 f1∧Kf w 135 c2 f2∧Kf w 137 c3 f3
theorem RL.below{w w':World}{B:Nat}{f0 f1 f2 f3:Bool}(h:RL w B f0 f1 f2 f3)(hb:Below w.heap.size w w'):RL w' B f0 f1 f2 f3:=by
 obtain⟨hB,c0,c1,c2,c3,⟨a0,a1,a2,a3,a4,a5,a6,a7⟩,s0,s1,s2,s3⟩:=h;exact⟨Nat.lt_of_lt_of_le hB hb.size,c0,c1,c2,c3,⟨(hb.cell (p:=⟨B,0,none⟩) hB).trans a0,(hb.cell (p:=⟨B,1,none⟩) hB).trans a1,(hb.cell (p:=⟨B,2,none⟩) hB).trans a2,(hb.cell (p:=⟨B,3,none⟩) hB).trans a3,(hb.cell (p:=⟨B,4,none⟩) hB).trans a4,(hb.cell (p:=⟨B,5,none⟩) hB).trans a5,(hb.cell (p:=⟨B,6,none⟩) hB).trans a6,(hb.cell (p:=⟨B,7,none⟩) hB).trans a7⟩,s0.later hb,s1.later hb,s2.later hb,s3.later hb⟩
theorem OC{r q:ByteArray}{ad bd:Option Addr}{n m c c2:Nat}{A B:List ByteArray}{s e t mi sq now skew:Int}{k:RX}{BT:Nat}{lo hi:Int}(w3 W:World)(hb:Below w3.heap.size w3 W)
  (hT:oB w3 BT r ad n c s e k) (hU:Fa w3 (BT+1) q bd m c2 t mi sq) (hN:w3.cell? ⟨BT+1+1,0,none⟩=some (.int .i64 now)) (hS:w3.cell? ⟨BT+1+1+1,0,none⟩=some (.int .i64 skew)) (hlt:BT+3 < w3.heap.size)
  (ha:aM w3 ad n c A) (hb':aM w3 bd m c2 B) (ht:fk t) (hn:fk now)
  (hF:W.cell? ⟨w3.heap.size,0,none⟩=some (.int .i64 lo)) (hO:W.cell? ⟨w3.heap.size+1,0,none⟩=some (.int .i64 hi)) (hsz:w3.heap.size+1+1 < W.heap.size)
  (hcells:W.cell? ⟨w3.heap.size+1+1,0,none⟩=some (.int .i64 3)∧W.cell? ⟨w3.heap.size+1+1,1,none⟩=some (.func (.func 133) #[] #[.pointer (some ⟨BT+1+1,0,none⟩),.pointer (some ⟨w3.heap.size,0,none⟩)]) ∧
   W.cell? ⟨w3.heap.size+1+1,2,none⟩=some (.int .i64 4)∧W.cell? ⟨w3.heap.size+1+1,3,none⟩=some (.func (.func 134) #[] #[.pointer (some ⟨BT+1+1,0,none⟩),.pointer (some ⟨w3.heap.size+1,0,none⟩)]) ∧
   W.cell? ⟨w3.heap.size+1+1,4,none⟩=some (.int .i64 5)∧W.cell? ⟨w3.heap.size+1+1,5,none⟩=some (.func (.func 135) #[] #[.pointer (some ⟨BT,0,none⟩),.pointer (some ⟨BT+1,0,none⟩)]) ∧
   W.cell? ⟨w3.heap.size+1+1,6,none⟩=some (.int .i64 6)∧W.cell? ⟨w3.heap.size+1+1,7,none⟩=some (.func (.func 137) #[] #[.pointer (some ⟨BT+1,0,none⟩),.pointer (some ⟨BT+1+1,0,none⟩),.pointer (some ⟨BT+1+1+1,0,none⟩)])) :
  RL W (w3.heap.size+1+1) (decide (now < lo)) (decide (hi < now)) (!kL r q A B) (decide (skew < Ti (max t now - min t now))):=by
 refine⟨hsz,_,_,_,_,hcells,?_,?_,?_,?_⟩
 ·intro w' hw;have h3:=hb.trans (hw.mono hb.size);exact FC now lo _ _ w' ((h3.cell (p:=⟨BT+1+1,0,none⟩) (show BT+1+1 < w3.heap.size by omega)).trans hN) ((hw.cell (p:=⟨w3.heap.size,0,none⟩) (show w3.heap.size < W.heap.size by omega)).trans hF)
 ·intro w' hw;have h3:=hb.trans (hw.mono hb.size);exact FD now hi _ _ w' ((h3.cell (p:=⟨BT+1+1,0,none⟩) (show BT+1+1 < w3.heap.size by omega)).trans hN) ((hw.cell (p:=⟨w3.heap.size+1,0,none⟩) (show w3.heap.size+1 < W.heap.size by omega)).trans hO)
 ·intro w' hw;have h3:=hb.trans (hw.mono hb.size);exact FE r q ad bd n m c c2 A B s e t mi sq k _ _ w' (hT.below h3) (hU.below h3) (ha.below h3) (hb'.below h3)
 ·intro w' hw;have h3:=hb.trans (hw.mono hb.size);exact FF q bd m c2 t mi sq now skew _ _ _ w' (hU.below h3) ht hn ((h3.cell (p:=⟨BT+1+1,0,none⟩) (show BT+1+1 < w3.heap.size by omega)).trans hN) ((h3.cell (p:=⟨BT+1+1+1,0,none⟩) (show BT+1+1+1 < w3.heap.size by omega)).trans hS)
theorem yI(r q:ByteArray)(ad bd:Option Addr)(n m c c2:Nat)(A B:List ByteArray)(s e t mi sq now skew:Int)(k:RX)(w:World)(hs:fk s)(he:fk e)(ht:fk t)(hn:fk now)(hk:fk skew)(ha:aM w ad n c A)(hb:aM w bd m c2 B):
  Calls prog 91 #[.agg (tv r ad n c s e k),.agg #[.string q,.slice bd m c2,.int .i64 t,.int .u32 mi,.int .u32 sq],.int .i64 now,.int .i64 skew] w fun x w' =>
   (∃ B0,x = .returned (.slice (some ⟨B0,0,none⟩) 4 4)∧RL w' B0 (decide (now < Ti (s - skew))) (decide (Ti (e+skew) < now)) (!kL r q A B) (decide (skew < Ti (max t now - min t now))))∧Below w.heap.size w w':=by
 obtain⟨w0,hw0⟩:=eY ((((w.alloc (.cells (tv r ad n c s e k) 97)).alloc (.cells #[.string q,.slice bd m c2,.int .i64 t,.int .u32 mi,.int .u32 sq] 99)).alloc (.cells #[.int .i64 now] 2)).alloc (.cells #[.int .i64 skew] 2));have hsz:w0.heap.size=w.heap.size+4:=by rw[← hw0];simp
 have hb1:Below (w.heap.size+1) (w.alloc (.cells (tv r ad n c s e k) 97)) w0:=by
  rw[← hw0];exact (((Below.refl _ _).alloc sm _).alloc sm _).alloc sm _
 have hb2:Below (w.heap.size+1+1) ((w.alloc (.cells (tv r ad n c s e k) 97)).alloc (.cells #[.string q,.slice bd m c2,.int .i64 t,.int .u32 mi,.int .u32 sq] 99)) w0:=by
  rw[← hw0];exact ((Below.refl _ _).alloc sm _).alloc sm _
 have T0:=SM ((oB.new w r ad n c s e k).below (by simpa using hb1))
 have U0:=Fa.new (w.alloc (.cells (tv r ad n c s e k) 97)) q bd m c2 t mi sq;have U0:=SM (U0.below (by simpa using hb2))
 simp only[World.size_alloc] at U0;have N0:w0.cell? ⟨w.heap.size+1+1,0,none⟩=some (.int .i64 now):=by rw[← hw0];simp[go_sem]
 have S0:w0.cell? ⟨w.heap.size+1+1+1,0,none⟩=some (.int .i64 skew):=by rw[← hw0];simp[go_sem]
 have hb0:Below w.heap.size w w0:=by rw[← hw0];exact ba _ (ba _ (ba _ (ba _ (Below.refl _ _))))
 have Ha:=SM (ha.below hb0);have Hb:=SM (hb.below hb0);clear ha hb hb1 hb2;obtain⟨f0,f1,f2,f3,f4⟩:=T0.o.cells
 go_in
 go_wp2_with fail
 refine (Aw s e skew _ hs he hk).mono ?_;rintro _ w3 ⟨rfl,hb3⟩;have T3:=SM (T0.o.below hb3);have U3:=SM (U0.o.below hb3);have hsz0:w.heap.size+3 < w0.heap.size:=om;have N3:=SM ((hb3.cell (p:=⟨w.heap.size+1+1,0,none⟩) (show w.heap.size+1+1 < w0.heap.size by omega)).trans N0)
 have S3:=SM ((hb3.cell (p:=⟨w.heap.size+1+1+1,0,none⟩) (show w.heap.size+1+1+1 < w0.heap.size by omega)).trans S0)
 have Ha3:=SM (Ha.o.below hb3);have Hb3:=SM (Hb.o.below hb3);have hb4:=bt hb0 hb3;have hs3:w.heap.size+3 < w3.heap.size:=Nat.lt_of_lt_of_le hsz0 hb3.size;clear f0 f1 f2 f3 f4 T0 U0 N0 S0 Ha Hb hb0 hb3 hw0 hsz hsz0
 go_wp2
 go_ret
 refine⟨⟨w3.heap.size+1+1,rfl,?_⟩,ba _ (ba _ (ba _ hb4))⟩;have hbW:=ba (.cells #[.int .i64 3,.func (.func 133) #[] #[.pointer (some ⟨w.heap.size+1+1,0,none⟩),.pointer (some ⟨w3.heap.size,0,none⟩)],.int .i64 4,.func (.func 134) #[] #[.pointer (some ⟨w.heap.size+1+1,0,none⟩),.pointer (some ⟨w3.heap.size+1,0,none⟩)],.int .i64 5,.func (.func 135) #[] #[.pointer (some ⟨w.heap.size,0,none⟩),.pointer (some ⟨w.heap.size+1,0,none⟩)],.int .i64 6,.func (.func 137) #[] #[.pointer (some ⟨w.heap.size+1,0,none⟩),.pointer (some ⟨w.heap.size+1+1,0,none⟩),.pointer (some ⟨w.heap.size+1+1+1,0,none⟩)]] 182) (ba (.cells #[.int .i64 (Ti (e+skew))] 2) (ba (.cells #[.int .i64 (Ti (s - skew))] 2) (Sy w3)))
 refine OC w3 _ hbW T3.o U3.o N3.o S3.o om Ha3.o Hb3.o ht hn ?_ ?_ ?_ ⟨?_,?_,?_,?_,?_,?_,?_,?_⟩
 all_goals simp[go_sem]
end
section
theorem fv{w:World}{b n:Nat}{cs:Array Value}(h:readAt w b 0 n=some cs):∀ j u,cs.toList[j]? = some u→w.cell? ((⟨b,0,none⟩ : Addr).add j)=some u:=fun j u hu=>by
 have:=ab h j u (by simpa using hu)
 rw[Addr.add_lit];simpa using this
def rest(f0 f1 f2 f3:Bool):Nat→Int
 | 0=>if f0 then 3 else if f1 then 4 else if f2 then 5 else if f3 then 6 else 0
 | 1=>if f1 then 4 else if f2 then 5 else if f3 then 6 else 0
 | 2=>if f2 then 5 else if f3 then 6 else 0
 | 3=>if f3 then 6 else 0
 | _=>0
theorem BM(r q:ByteArray)(ad bd:Option Addr)(n m c c2:Nat)(A B:List ByteArray)(s e t mi sq now skew:Int)(k:RX)(w:World)(hs:fk s)(he:fk e)(ht:fk t)(hn:fk now)(hk:fk skew)(ha:aM w ad n c A)(hb:aM w bd m c2 B):
  Calls prog 61 #[.agg (tv r ad n c s e k),.agg #[.string q,.slice bd m c2,.int .i64 t,.int .u32 mi,.int .u32 sq],.int .i64 now,.int .i64 skew] w fun x w' =>
   x = .returned (.int .i64 (rest (decide (now < Ti (s - skew))) (decide (Ti (e+skew) < now)) (!kL r q A B) (decide (skew < Ti (max t now - min t now))) 0))∧Below w.heap.size w w':=by
 have hb0:=ba (.cells #[.string q,.slice bd m c2,.int .i64 t,.int .u32 mi,.int .u32 sq] 99) (ba (.cells (tv r ad n c s e k) 97) (Below.refl _ w));have hC:=fun w'=>yI r q ad bd n m c c2 A B s e t mi sq now skew k w' hs he ht hn hk;generalize decide (now < Ti (s - skew))=f0 at *;generalize decide (Ti (e+skew) < now)=f1 at *;generalize (!kL r q A B)=f2 at *;generalize decide (skew < Ti (max t now - min t now))=f3 at *
 have HC:=SM (hC _ (ha.below hb0) (hb.below hb0));obtain⟨R,hR⟩:=eY (rest f0 f1 f2 f3 0);rw[hR];clear hC ha hb hs he ht hn hk
 go_in
 go_wp2_with fail
 refine HC.o.mono ?_;rintro _ w1 ⟨⟨B0,rfl,hC⟩,hb1⟩;have hw1:=bt hb0 hb1;clear hb0 hb1 HC
 go_wp2
 go_loopw [17] (fun i wr=>∃ k:Nat,k≤4∧i = .int .i64 k∧Hd (rest f0 f1 f2 f3 k=R)∧Below w1.heap.size w1 wr) (fun i _=>4 - (intOf i).toNat)
 case atStart=>exact⟨0,Nat.zero_le _,rfl,hR,Below.refl _ _⟩
 case round =>
  obtain⟨k,hk,rfl,hrest,hbr⟩:=hrel;have hC2:=hC.below hbr;have hwr:=bt hw1 hbr;clear hR
  match k,hk with
  | 0,_ =>
   obtain⟨hB,c0,c1,c2,c3,⟨a0,a1,a2,a3,a4,a5,a6,a7⟩,s0,s1,s2,s3⟩:=hC2
   go_wp2_with fail
   have hbx:=ba (.cells #[.int .i64 3,.func (.func 133) #[] c0] 182) (Sy wr);refine (s0 _ hbx).mono ?_;rintro _ w4 ⟨rfl,hb4⟩;have hb5:=bt hbx hb4;have hd0:w4.cell? ⟨wr.heap.size,0,none⟩=some (.int .i64 3):=by rw[hb4.cell (p:=⟨wr.heap.size,0,none⟩) sm];simp[go_sem]
   have Hb5:=SM hb5;clear hb5 hb4 hbx a0 a1 a2 a3 a4 a5 a6 a7 s0 s1 s2 s3;cases f0 with
   | false =>
    have e1:Hd (rest false f1 f2 f3 1=R):=hrest;clear hrest
    go_wp2
    go_roundw
    case rel=>exact⟨1,om,by go_num,e1,bt hbr Hb5.o⟩
    case measure=>simp[intOf]
   | true =>
    have e1:Hd ((3:Int)=R):=hrest;clear hrest;have hfin:=bt hwr Hb5.o
    go_wp2
    go_ret
    exact⟨by rw[← e1.o];rfl,hfin⟩
  | 1,_ =>
   obtain⟨hB,c0,c1,c2,c3,⟨a0,a1,a2,a3,a4,a5,a6,a7⟩,s0,s1,s2,s3⟩:=hC2
   go_wp2_with fail
   have hbx:=ba (.cells #[.int .i64 4,.func (.func 134) #[] c1] 182) (Sy wr);refine (s1 _ hbx).mono ?_;rintro _ w4 ⟨rfl,hb4⟩;have hb5:=bt hbx hb4;have hd0:w4.cell? ⟨wr.heap.size,0,none⟩=some (.int .i64 4):=by rw[hb4.cell (p:=⟨wr.heap.size,0,none⟩) sm];simp[go_sem]
   have Hb5:=SM hb5;clear hb5 hb4 hbx a0 a1 a2 a3 a4 a5 a6 a7 s0 s1 s2 s3;cases f1 with
   | false =>
    have e1:Hd (rest f0 false f2 f3 2=R):=hrest;clear hrest
    go_wp2
    go_roundw
    case rel=>exact⟨2,om,by go_num,e1,bt hbr Hb5.o⟩
    case measure=>simp[intOf]
   | true =>
    have e1:Hd ((4:Int)=R):=hrest;clear hrest;have hfin:=bt hwr Hb5.o
    go_wp2
    go_ret
    exact⟨by rw[← e1.o];rfl,hfin⟩
  | 2,_ =>
   obtain⟨hB,c0,c1,c2,c3,⟨a0,a1,a2,a3,a4,a5,a6,a7⟩,s0,s1,s2,s3⟩:=hC2
   go_wp2_with fail
   have hbx:=ba (.cells #[.int .i64 5,.func (.func 135) #[] c2] 182) (Sy wr);refine (s2 _ hbx).mono ?_;rintro _ w4 ⟨rfl,hb4⟩;have hb5:=bt hbx hb4;have hd0:w4.cell? ⟨wr.heap.size,0,none⟩=some (.int .i64 5):=by rw[hb4.cell (p:=⟨wr.heap.size,0,none⟩) sm];simp[go_sem]
   have Hb5:=SM hb5;clear hb5 hb4 hbx a0 a1 a2 a3 a4 a5 a6 a7 s0 s1 s2 s3;cases f2 with
   | false =>
    have e1:Hd (rest f0 f1 false f3 3=R):=hrest;clear hrest
    go_wp2
    go_roundw
    case rel=>exact⟨3,om,by go_num,e1,bt hbr Hb5.o⟩
    case measure=>simp[intOf]
   | true =>
    have e1:Hd ((5:Int)=R):=hrest;clear hrest;have hfin:=bt hwr Hb5.o
    go_wp2
    go_ret
    exact⟨by rw[← e1.o];rfl,hfin⟩
  | 3,_ =>
   obtain⟨hB,c0,c1,c2,c3,⟨a0,a1,a2,a3,a4,a5,a6,a7⟩,s0,s1,s2,s3⟩:=hC2
   go_wp2_with fail
   have hbx:=ba (.cells #[.int .i64 6,.func (.func 137) #[] c3] 182) (Sy wr);refine (s3 _ hbx).mono ?_;rintro _ w4 ⟨rfl,hb4⟩;have hb5:=bt hbx hb4;have hd0:w4.cell? ⟨wr.heap.size,0,none⟩=some (.int .i64 6):=by rw[hb4.cell (p:=⟨wr.heap.size,0,none⟩) sm];simp[go_sem]
   have Hb5:=SM hb5;clear hb5 hb4 hbx a0 a1 a2 a3 a4 a5 a6 a7 s0 s1 s2 s3;cases f3 with
   | false =>
    have e1:Hd (rest f0 f1 f2 false 4=R):=hrest;clear hrest
    go_wp2
    go_roundw
    case rel=>exact⟨4,om,by go_num,e1,bt hbr Hb5.o⟩
    case measure=>simp[intOf]
   | true =>
    have e1:Hd ((6:Int)=R):=hrest;clear hrest;have hfin:=bt hwr Hb5.o
    go_wp2
    go_ret
    exact⟨by rw[← e1.o];rfl,hfin⟩
  | 4,_ =>
   have e1:Hd ((0:Int)=R):=hrest;clear hrest;have hfin:=hwr
   go_wp2
   go_ret
   exact⟨by rw[← e1.o];rfl,hfin⟩
end
end Go.Proofs.YtlcfaaodmickbaaGreatDoor
