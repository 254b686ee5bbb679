/- Part 24 of the proof: texts merged and shortened by a program. No conditions. -/
import Derived.Test.YtlcfaaodmickbaaGreatDoorCards
import Derived.Test.YtlcfaaodmickbaaGreatDoorTie
import Derived.LaidMore
import Derived.Lay
import Derived.LaidOnce
import Derived.SevenTiedAt
import Derived.JoinedOf
import Derived.ChangeVars
import Derived.Test.YtlcfaaodmickbaaGreatDoorPc23
set_option linter.unusedSimpArgs false
set_option linter.unusedVariables false
set_option maxRecDepth 100000
set_option maxHeartbeats 8000000
namespace Go.Proofs.YtlcfaaodmickbaaGreatDoor
open Go.RowKit Go.Proofs.Tryz
section
def un:rt→Prop:=fun q=>q=none
theorem fI(v:VM)(h:v.D.down=false):au v=v:=by unfold au;rw[if_neg (by rw[h];decide)]
theorem m6{n k:Nat}{D:DM}{P:rt→Prop}(hl:D.st.length=n)(hk:k+1 < 256)(hp:D.plan=[])(hC:Cr (n / 2) k P D)(skew now:Int):
  ∃ M es,(openC (bT D) n skew now).2 = .ok { M:=M,ix:=aO (gR es) now,til:=now+skew }∧R4 (n / 2) P k (bT D) (openC (bT D) n skew now).1 M es:=by
 rcases jS (bT D) n k P rfl hl hk (hC.same rfl rfl) with ⟨M,es,h1,h2⟩ | ⟨c,h1,h2,_⟩
 ·refine⟨M,es,?_,?_⟩
  ·unfold openC;rw[h1]
  ·unfold openC;rw[h1];exact h2
 ·exact absurd hp h2
theorem yT{n k:Nat}{now:Int}{D:DM}{c:CM}(h:Ag (n / 2) now D c)(hI:CI n c)(hk:tp c≤k)(hk2:k+1 < 256)(hp:D.plan=[]):
  (compactC D c now).2.2=0∧(compactC D c now).1.plan=[]∧Ag (n / 2) now (compactC D c now).1 (compactC D c now).2.1∧tp (compactC D c now).2.1≤k+1∧(compactC D c now).2.1.ix=aO c.ix now∧(compactC D c now).2.1.til=c.til:=by
 rcases ey h hI (k:=k+1) om hk2 with ⟨b1,b2,b3,b4,b5,b6,b7⟩ | ⟨b1,b2,_⟩
 ·exact⟨b1,b2.trans hp,b3,om,b5,b6⟩
 ·exact absurd hp b2
theorem mM{n k:Nat}{now:Int}{D:DM}{c:CM}(h:Ag (n / 2) now D c)(hI:CI n c)(hk:tp c≤k)(hk2:k+1 < 256)(hp:D.plan=[])(d:RP)(x:Nat):
  (insertC D c d x now).1.plan=[]∧Ag (n / 2) now (insertC D c d x now).1 (insertC D c d x now).2.1∧tp (insertC D c d x now).2.1≤k+1∧(insertC D c d x now).2.1.til=c.til∧(insertC D c d x now).2.2=sw n c.ix d x now∧aO (insertC D c d x now).2.1.ix now=CE n c.ix d x now:=by
 rcases kI h hI (k:=k+1) om hk2 d x _ rfl with ⟨b1,b2,b3,b4,b5,b6⟩ | ⟨b1,_⟩
 ·exact⟨b1.trans hp,b2,om,b4,b5,b6⟩
 ·exact absurd hp b1
theorem qQ(n:Nat)(v:VM)(L K:List R5):runL n v (L ++ K)=((runL n v L).1 ++ (runL n (runL n v L).2 K).1,(runL n (runL n v L).2 K).2):=by
 induction K using di with
 | h0=>simp[runL]
 | h1 K o ih =>
  rw[← List.append_assoc,gJ,gJ,ih];simp[Pb]
theorem em(n:Nat)(v:VM)(o:R5)(K:List R5):runL n v (o :: K)=(jt n v o :: (runL n (au (aQ n v o).1) K).1,(runL n (au (aQ n v o).1) K).2):=by
 have:=qQ n v [o] K;rw[List.singleton_append] at this;rw[this];have e:runL n v [o]=([jt n v o],au (aQ n v o).1):=by simp[runL,Pb]
 rw[e];rfl
end
section
open Go.RowKit Go.ChangeMaps
theorem oH(now skew:Int)(s e t q:Nat)(h1:1≤skew)(h1':skew≤1073741824)(hs:(s:Int)≤now)(he:now≤(e:Int))(ht:(t:Int)=now)(h2:(e:Int)≤1099511627776):iz now skew (IE s e) (yv t q)=0:=by
 have hn:kL (aY [82]) (aY [82]) (([[97,108,105,99,101]] : List (List UInt8)).map aY) (([[97,108,105,99,101]] : List (List UInt8)).map aY)=true:=by simp[kL]
 unfold iz IE yv;simp only[hn,Bool.not_true];have a1:decide (now < Ti ((s:Int) - skew))=false:=decide_eq_false (by unfold Ti;(repeat' split) <;> omega)
 have a2:decide (Ti ((e:Int)+skew) < now)=false:=decide_eq_false (by unfold Ti;(repeat' split) <;> omega)
 have a3:decide (skew < Ti (max (t:Int) now - min (t:Int) now))=false:=decide_eq_false (by rw[ht,Int.max_self,Int.min_self,Int.sub_self];unfold Ti;(repeat' split) <;> omega)
 rw[a1,a2,a3]
 rfl
theorem yz(n:Nat)(hn:n≤100)(h2:2≤n)(key:RW)(skew:Int):∃ c v,bG n (bN key skew (dG (n:Int)))=(v,0)∧v.c=some c∧v.now=0∧v.key=key∧v.skew=skew∧v.D.plan=[]∧Ag (n / 2) 0 v.D c∧tp c≤1∧c.til=0+skew∧∀ d,c.ix d=none:=by
 have hC:Cr (n / 2) 0 un (dG (n:Int)):=Cr.nil rfl rfl (iJ n om h2 0);have hl:(dG (n:Int)).st.length=n:=by simp[dG];omega
 obtain⟨M,es,a1,a2⟩:=m6 hl om rfl hC skew 0;have he:es=[]:=by
  rcases a2.p with h | ⟨_,h⟩
  ·cases h
  ·exact h
 subst he;refine⟨{ M:=M,ix:=aO (gR []) 0,til:=0+skew },{ key:=key,skew:=skew,now:=0,D:=(openC (bT (dG (n:Int))) n skew 0).1,c:=some { M:=M,ix:=aO (gR []) 0,til:=0+skew } },?_,rfl,rfl,rfl,rfl,?_,?_,a2.t,rfl,fun d=>(show aO (gR []) 0 d=none from cZ rfl)⟩
 ·unfold bG
  show (match (openC (bT (dG (n:Int))) n skew 0).2 with
   | .error c=>_
   | .ok c=>_)=_
  rw[a1];rfl
 ·exact a2.pl
 ·exact⟨a2.d,a2.o,a2.b,a2.h,[],a2.g,a2.c,(drop_drop _ _).symm⟩
theorem tT{n k:Nat}{v:VM}{c:CM}{l:List UInt8}{t:t6}{a:iq}(hq:eC v.key l = .ok (t,a))(hc:iz v.now v.skew t a=0)(h1:v.c=some c)(ha:Ag (n / 2) v.now v.D c)(hI:CI n c)(hk:tp c≤k)(hk2:k+1 < 256)(hp:v.D.plan=[])(ht:c.til < v.now):
  ∃ c',(aU v l).1.c=some c'∧(aU v l).1.now=v.now∧(aU v l).1.key=v.key∧(aU v l).1.skew=v.skew∧(aU v l).1.D.plan=[]∧Ag (n / 2) v.now (aU v l).1.D c'∧tp c'≤k+1∧c'.til=c.til∧(aU v l).2=sw n c.ix (iA a) (a.2.2.1+v.skew.toNat) v.now∧aO c'.ix v.now=CE n c.ix (iA a) (a.2.2.1+v.skew.toNat) v.now:=by
 have hl:=fI v ha.d;obtain⟨b1,b2,b3,b4,b5,b6⟩:=mM ha hI hk hk2 hp (iA a) (a.2.2.1+v.skew.toNat);have e:aU v l=({ v with D:=(insertC v.D c (iA a) (a.2.2.1+v.skew.toNat) v.now).1,c:=some (insertC v.D c (iA a) (a.2.2.1+v.skew.toNat) v.now).2.1 },(insertC v.D c (iA a) (a.2.2.1+v.skew.toNat) v.now).2.2):=by
  unfold aU;rw[hq];simp only;rw[if_pos hc,hl,h1];simp only;rw[if_neg om,fI _ b2.d]
 rw[e];exact⟨_,rfl,rfl,rfl,rfl,b1,b2,b3,b4,b5,b6⟩
theorem wA(o1 o2 o3 o4:R5)(h1:o1.kind=2)(h2:o2.kind=1)(h2':o2.N=10)(h3:o3.kind=3)(h3':o3.data=pn 0 100 10 0)(h4:o4.kind=3)(h4':o4.data=pn 0 100 10 0):
  ∃ a b c d,(runL 8 (bN gE 5 (dG (8:Nat))) [o1,o2,o3,o4]).1=[a,b,c,d]∧c.code=10∧d.code=8∧d.live=1:=by
 obtain⟨c,v,e1,hc,hnow,hkey,hskew,hpl,hag,htp,htil,hix⟩:=yz 8 om om gE 5;have hV0:=VI.new (n:=8) gE 5 om om om;have hV1:=hV0.boot om om;rw[e1] at hV1;simp only at hV1;obtain⟨vk,vs,vn,vD,vc⟩:=v;simp only at hc hnow hkey hskew hpl hag;subst hc hnow hkey hskew;have hdn:=hag.d;have s1:(aQ 8 (bN gE 5 (dG (8:Nat))) o1)=(⟨gE,5,0,vD,some c⟩,0):=by unfold aQ;rw[if_neg om,if_pos h1];exact e1
 have l1:au (⟨gE,5,0,vD,some c⟩ : VM)=⟨gE,5,0,vD,some c⟩:=fI _ hdn;have t1:dp (⟨gE,5,0,vD,some c⟩ : VM) 10=⟨gE,5,10,vD,some c⟩:=by unfold dp;rw[l1];rfl
 have s2:(aQ 8 (⟨gE,5,0,vD,some c⟩ : VM) o2)=(⟨gE,5,10,vD,some c⟩,0):=by unfold aQ;rw[if_pos h2,h2',t1]
 have l2:au (⟨gE,5,10,vD,some c⟩ : VM)=⟨gE,5,10,vD,some c⟩:=fI _ hdn;have hV2:=hV1.tick 10;rw[t1] at hV2;have hq:=sU 0 100 10 0 om om om om;have hck:=oH 10 5 0 100 10 0 om om om om om om;have hx:(yv 10 0).2.2.1+(5:Int).toNat=15:=rfl;have hag2:=hag.later (now':=10) om;have s3:∀ (u:VM) (o:R5),o.kind=3→o.data=pn 0 100 10 0→aQ 8 u o=aU u (pn 0 100 10 0):=by
  intro u o hk hd;unfold aQ;rw[if_neg om,if_neg om,if_pos hk,hd]
 obtain⟨c3,f1,f2,f3,f4,f5,f6,f7,f8,f9,f10⟩:=tT (n:=8) (k:=1) (v:=⟨gE,5,10,vD,some c⟩) (c:=c) hq hck rfl hag2 (hV2.c c rfl) htp om hpl (by rw[htil];show (0:Int)+5 < 10;omega)
 have hV3:=hV2.verify om (pn 0 100 10 0);rw[hx] at f9 f10;obtain⟨d,hd⟩:=eY (iA (yv 10 0));rw[hd] at f9 f10;obtain⟨v3,hv3⟩:=eY (aU (⟨gE,5,10,vD,some c⟩ : VM) (pn 0 100 10 0));rw[hv3] at f1 f2 f3 f4 f5 f6 f9 hV3;simp only at f2 f3 f4 f6 f9 f10;have l3:au v3.1=v3.1:=fI _ f6.d;obtain⟨c4,g1,g2,g3,g4,g5,g6,g7,g8,g9,g10⟩:=tT (n:=8) (k:=2) (v:=v3.1) (c:=c3) (l:=pn 0 100 10 0) (by rw[f3];exact hq) (by rw[f2,f4];exact hck) f1 (by rw[f2];exact f6) (hV3.c c3 f1) f7 om f5 (by rw[f8,htil,f2];decide)
 have hv4:=hV3;rw[hd,f4,hx,f2] at g9 g10;rw[f2] at g2 g6;clear hq hck hV0 hV1 hV2 e1;have hL0:ef c.ix 10 []:=⟨List.Pairwise.nil,fun e=>⟨(fun h=>by cases h),(fun h=>by rw[hix] at h;cases h.1)⟩⟩
 have hA:sw 8 c.ix d 15 10=10:=by
  unfold sw;rw[if_neg (by rw[hix];simp),if_neg om,hL0.eq,if_pos dc]
 have hp:∀ e,(oh c.ix d 15).1 e=if e=d then some 15 else none:=fun e=>by
  rw[qJ,hix,hix]
 have hI:CE 8 c.ix d 15 10=aO (oh c.ix d 15).1 10:=by unfold CE;rw[if_pos hA]
 rw[hI] at f10;have hdd:aO c3.ix 10 d=some 15:=by
  rw[f10,cH (x:=15) (by rw[hp,if_pos rfl]),if_pos om]
 have hA2:sw 8 c3.ix d 15 10=8:=by
  unfold sw;rw[if_pos (by rw[pW,hdd];rfl)]
 have hI2:CE 8 c3.ix d 15 10=aO c3.ix 10:=by unfold CE;rw[hA2,if_neg om]
 rw[hI2,f10] at g10;have hL1:ef (oh c.ix d 15).1 10 [(d,15)]:=by
  refine⟨List.pairwise_singleton _ _,fun e=>?_⟩;obtain⟨e1,e2⟩:=e;rw[hp]
  by_cases he:e1=d
  ·subst he;rw[if_pos rfl];simp only[List.mem_singleton,Prod.mk.injEq,true_and,Option.some.injEq];constructor
   ·intro h;subst h;exact⟨rfl,om⟩
   ·intro h;exact h.1.symm
  ·rw[if_neg he];simp only[List.mem_singleton,Prod.mk.injEq];constructor
   ·intro h;exact absurd h.1 he
   ·intro h;cases h.1
 have hL2:=hL1.eqv g10.symm;have l4:au (aU v3.1 (pn 0 100 10 0)).1=(aU v3.1 (pn 0 100 10 0)).1:=fI _ g6.d;have hlive:dD (aU v3.1 (pn 0 100 10 0)).1=[(d,15)]:=by
  rw[sC (c:=c4) (by rw[l4];exact g1),g2,hL2.eq]
 have e3:aQ 8 (⟨gE,5,10,vD,some c⟩ : VM) o3=v3:=by rw[s3 _ _ h3 h3',hv3]
 have e4:aQ 8 v3.1 o4=aU v3.1 (pn 0 100 10 0):=s3 _ _ h4 h4';refine⟨jt 8 (bN gE 5 (dG (8:Nat))) o1,jt 8 ⟨gE,5,0,vD,some c⟩ o2,jt 8 ⟨gE,5,10,vD,some c⟩ o3,jt 8 v3.1 o4,?_,?_,?_,?_⟩
 ·rw[em,s1];simp only;rw[l1,em,s2];simp only;rw[l2,em,e3];simp only;rw[l3,em]
  rfl
 ·show (aQ 8 (⟨gE,5,10,vD,some c⟩ : VM) o3).2=10
  rw[e3,f9,hA]
 ·show (aQ 8 v3.1 o4).2=8
  rw[e4,g9,hA2]
 ·show ((dD (au (aQ 8 v3.1 o4).1)).length:Int)=1
  rw[e4,l4,hlive];rfl
end
section
open Go.RowKit Go.ChangeMaps
def uk(parts:Array (Nat × Value)):Sem Value:=Instr.build 62 parts
def mg(parts:Array (Nat × Value)):Sem Value:=Instr.build 42 parts
@[go_sem ↓] theorem PR(parts:Array (Nat × Value)):Instr.build 62 parts=uk parts:=rfl
@[go_sem ↓] theorem PT(parts:Array (Nat × Value)):Instr.build 42 parts=mg parts:=rfl
theorem Md(w:World):(Instr.build 62 #[(3,.int .i64 100),(4,.int .i64 10)]).run prog w = .ok (.agg (SP 0 100 10 0)) w:=kr
@[go_sem ↓] theorem Hi(w:World):(uk #[(3,.int .i64 100),(4,.int .i64 10)]).run prog w = .ok (.agg (SP 0 100 10 0)) w:=Md w
theorem Ih(w:World)(D:List UInt8)(ad:Option Addr)(n c:Nat):(Instr.build 42 #[(0,.int .i64 3),(2,.slice ad n c)]).run prog w = .ok (.agg (Td ⟨3,0,D,[]⟩ (.slice ad n c) (.slice none 0 0))) w:=kr
theorem Ig(w:World):(Instr.build 42 #[(0,.int .i64 2)]).run prog w = .ok (.agg (Td ⟨2,0,[],[]⟩ (.slice none 0 0) (.slice none 0 0))) w:=kr
theorem Ie(w:World):(Instr.build 42 #[(0,.int .i64 1),(1,.int .i64 10)]).run prog w = .ok (.agg (Td ⟨1,10,[],[]⟩ (.slice none 0 0) (.slice none 0 0))) w:=kr
@[go_sem ↓] theorem JE(w:World):(mg #[(0,.int .i64 2)]).run prog w = .ok (.agg (Td ⟨2,0,[],[]⟩ (.slice none 0 0) (.slice none 0 0))) w:=Ig w
@[go_sem ↓] theorem JD(w:World):(mg #[(0,.int .i64 1),(1,.int .i64 10)]).run prog w = .ok (.agg (Td ⟨1,10,[],[]⟩ (.slice none 0 0) (.slice none 0 0))) w:=Ie w
def lF(n:Nat)(parts:Array (Nat × Value)):Sem Value:=Instr.buildSlice 25 n parts
@[go_sem ↓] theorem Oq(n:Nat)(parts:Array (Nat × Value)):Instr.buildSlice 25 n parts=lF n parts:=rfl
def AF(D:List UInt8)(ad:Option Addr)(n c:Nat):List R3:=[(⟨2,0,[],[]⟩,.slice none 0 0,.slice none 0 0),(⟨1,10,[],[]⟩,.slice none 0 0,.slice none 0 0),(⟨3,0,D,[]⟩,.slice ad n c,.slice none 0 0),(⟨3,0,D,[]⟩,.slice ad n c,.slice none 0 0)]
theorem Eb(w:World)(D:List UInt8)(ad:Option Addr)(n c:Nat):(Instr.buildSlice 25 4 #[(0,.agg (Td ⟨2,0,[],[]⟩ (.slice none 0 0) (.slice none 0 0))),(1,.agg (Td ⟨1,10,[],[]⟩ (.slice none 0 0) (.slice none 0 0))),(2,.agg (Td ⟨3,0,D,[]⟩ (.slice ad n c) (.slice none 0 0))),(3,.agg (Td ⟨3,0,D,[]⟩ (.slice ad n c) (.slice none 0 0)))]).run prog w = .ok (.slice (some ⟨w.heap.size,0,none⟩) 4 4) (w.alloc (.cells (aZ jE (AF D ad n c)).toArray 42)):=kr
@[go_sem ↓] theorem H9(w:World)(D:List UInt8)(ad:Option Addr)(n c:Nat):(lF 4 #[(0,.agg (Td ⟨2,0,[],[]⟩ (.slice none 0 0) (.slice none 0 0))),(1,.agg (Td ⟨1,10,[],[]⟩ (.slice none 0 0) (.slice none 0 0))),(2,.agg (Td ⟨3,0,D,[]⟩ (.slice ad n c) (.slice none 0 0))),(3,.agg (Td ⟨3,0,D,[]⟩ (.slice ad n c) (.slice none 0 0)))]).run prog w = .ok (.slice (some ⟨w.heap.size,0,none⟩) 4 4) (w.alloc (.cells (aZ jE (AF D ad n c)).toArray 42)):=Eb w D ad n c
theorem DS(s e t q:Nat):(pn s e t q).length≤10000:=by
 have l1:=tL dW fe s e ik dc dc;have l2:=rG dW fe t 0 q dc dc;unfold pn LA zW gi;simp only[List.length_append,aL,iR];simp;omega
theorem kR{w:World}{ad:Option Addr}{n c:Nat}{rs:List wO}(h:Se w (.slice ad n c) n 36 (aZ jy rs))(hn:rs.length=n)(k:Nat)(hk:k < n):
  ∃ b o,ad=some ⟨b,o,none⟩∧readAt w b (o+k * 36) 36=some (jy (rs[k]'(by rw[hn];exact hk))):=by
 obtain⟨ad',cap,hv,_,_,_,_,h6⟩:=h;simp only[Value.slice.injEq,true_and] at hv;obtain⟨rfl,rfl⟩:=hv;obtain⟨b,o,he,hr⟩:=h6 om;refine⟨b,o,he,?_⟩;have h2:=aB hr (o+k * 36) 36 om om;rw[h2,show o+k * 36 - o=k * 36 by omega]
 exact congrArg some (dC jy 36 fO rs k om)
theorem j9{w:World}{b o:Nat}{r:wO}(h:readAt w b o 36=some (jy r)):w.cell? ⟨b,o,none⟩=some (.int .i64 r.kind)∧w.cell? ⟨b,o+1,none⟩=some (.int .i64 r.code)∧w.cell? ⟨b,o+2,none⟩=some (.int .i64 r.now)∧w.cell? ⟨b,o+3,none⟩=some (.int .i64 r.live):=by
 refine⟨?_,?_,?_,?_⟩
 ·have:=ab h 0 (.int .i64 r.kind) (by simp[jy,eS]);simpa using this
 ·exact ab h 1 _ (by simp[jy,eS])
 ·exact ab h 2 _ (by simp[jy,eS])
 ·exact ab h 3 _ (by simp[jy,eS])
theorem eT(w:World)(hg:GK w):Calls prog 7 #[] w fun e w'=>e = .returned (.bool true)∧Below w.heap.size w w':=by
 have hle:=DS 0 100 10 0;obtain⟨nd,hnd⟩:=eY ((pn 0 100 10 0).length);rw[hnd] at hle;have HG:=SM hg;have Hnd:=SM hnd;clear hg hnd
 go_in
 go_wp2_with fail
 refine (qO w).mono ?_;rintro _ w1 ⟨rfl,hb1⟩;have HB:=SM hb1;clear hb1
 go_upto_region 2 with fail
 have hC:=eU.made w1 gE 5 8;have hb2:=ba (.cells (du gE 5 8) 33) (Sy w1);generalize w1.alloc (.cells (du gE 5 8) 33)=w2 at *;replace HB:=SM (bt HB.o hb2);have HC:=SM hC;clear hC hb2;generalize w1.heap.size=CB at *
 go_wp2_with fail
 refine (th 0 100 10 0 w2 om om om om).mono ?_;rintro _ w3 ⟨⟨v,rfl,ho⟩,hb3⟩;obtain⟨ad,c,rfl,hbs⟩:=ho.bs;rw[Hnd.o] at hbs ⊢;replace HC:=SM (HC.o.below hb3);replace HB:=SM (bt HB.o hb3);have HD:=SM hbs;obtain⟨D,hD⟩:=eY (pn 0 100 10 0);rw[hD] at HD Hnd;have hbo:∀ W:World,(mg #[(0,.int .i64 3),(2,.slice ad nd c)]).run prog W = .ok (.agg (Td ⟨3,0,D,[]⟩ (.slice ad nd c) (.slice none 0 0))) W:=fun W=>Ih W D ad nd c
 have HDD:=SM hD;clear ho hb3 hbs hD;have hcan:canAt (w3.alloc (.cells (Td ⟨0,0,[],[]⟩ (.slice none 0 0) (.slice none 0 0)) 42)) w3.heap.size 0 4=true:=aq _ _ _ _ _ _ rfl sm;have hrd:readAt (setAt (w3.alloc (.cells (Td ⟨0,0,[],[]⟩ (.slice none 0 0) (.slice none 0 0)) 42)) w3.heap.size 0 (Td ⟨3,0,D,[]⟩ (.slice ad nd c) (.slice none 0 0))) w3.heap.size 0 4=some (Td ⟨3,0,D,[]⟩ (.slice ad nd c) (.slice none 0 0)):=am _ _ _ _ _ sm hcan
 go_upto_region 3 with fail
 have hb4:Below w3.heap.size w3 (setAt (w3.alloc (.cells (Td ⟨0,0,[],[]⟩ (.slice none 0 0) (.slice none 0 0)) 42)) w3.heap.size 0 (Td ⟨3,0,D,[]⟩ (.slice ad nd c) (.slice none 0 0))):=aa (ba _ (Below.refl _ _)) (Nat.le_refl _) _ _;generalize setAt (w3.alloc (.cells (Td ⟨0,0,[],[]⟩ (.slice none 0 0) (.slice none 0 0)) 42)) w3.heap.size 0 (Td ⟨3,0,D,[]⟩ (.slice ad nd c) (.slice none 0 0))=w4 at *;replace HC:=SM (HC.o.below hb4)
 replace HB:=SM (bt HB.o hb4);replace HD:=SM (HD.o.below hb4);have q1:=HC.o.r;have Hrd:=SM hrd;clear hcan hb4 hbo;have hb5:=ba (.cells (aZ jE (AF D ad nd c)).toArray 42) (Sy w4);have hg5:=HG.o.below HG.o.1 (bt HB.o hb5);have hro:readAt (w4.alloc (.cells (aZ jE (AF D ad nd c)).toArray 42)) w4.heap.size 0 16=some (aZ jE (AF D ad nd c)).toArray:=aj _ _ _ _ _ _ _ rfl (Nat.le_refl _)
 go_wp2_with fail
 generalize w4.alloc (.cells (aZ jE (AF D ad nd c)).toArray 42)=w5 at *;replace HD:=SM (HD.o.below hb5);replace HB:=SM (bt HB.o hb5);have hO:rC w5 (.slice (some ⟨w4.heap.size,0,none⟩) 4 4) (AF D ad nd c):=by
  have hnil:Se w5 (.slice none 0 0) 0 1 (([] : List Int).map (Value.int .i64)):=⟨none,0,rfl,om,by simp[maxLen],rfl,(fun _=>⟨rfl,rfl⟩),(fun h=>om)⟩
  have hbn:Bs w5 none 0 0 []:=⟨rfl,om,om,(fun _=>rfl),(fun h=>om)⟩;refine⟨⟨_,_,rfl,by simp[AF],by simp[maxLen],rfl,(fun h=>by cases h),(fun _=>⟨_,_,rfl,hro⟩)⟩,fun x hx=>?_⟩
  simp only[AF,List.mem_cons,List.not_mem_nil,or_false] at hx
  rcases hx with rfl | rfl | rfl | rfl
  ·exact⟨⟨_,_,rfl,hbn⟩,hnil⟩
  ·exact⟨⟨_,_,rfl,hbn⟩,hnil⟩
  ·exact⟨⟨ad,c,by rw[Hnd.o],by rw[Hnd.o];exact HD.o⟩,hnil⟩
  ·exact⟨⟨ad,c,by rw[Hnd.o],by rw[Hnd.o];exact HD.o⟩,hnil⟩
 have hR:∀ x ∈ AF D ad nd c,R6 x.1:=by
  intro x hx;simp only[AF,List.mem_cons,List.not_mem_nil,or_false] at hx;have hdl:D.length≤131072:=by have:=Hnd.o;omega
  rcases hx with rfl | rfl | rfl | rfl
  ·exact⟨.inr (.inl ⟨rfl,rfl⟩),(fun _=>rfl),(fun _=>rfl),(fun x hx=>by cases hx),Nat.zero_le _,Nat.zero_le _⟩
  ·exact⟨.inl ⟨rfl,dc,dc⟩,(fun _=>rfl),(fun _=>rfl),(fun x hx=>by cases hx),Nat.zero_le _,Nat.zero_le _⟩
  ·exact⟨.inr (.inr (.inl ⟨rfl,rfl⟩)),(fun h=>absurd rfl h),(fun _=>rfl),(fun x hx=>by cases hx),Nat.zero_le _,hdl⟩
  ·exact⟨.inr (.inr (.inl ⟨rfl,rfl⟩)),(fun h=>absurd rfl h),(fun _=>rfl),(fun x hx=>by cases hx),Nat.zero_le _,hdl⟩
 refine (lG w5 gE 5 8 4 4 (some ⟨w4.heap.size,0,none⟩) (AF D ad nd c) om om om om rfl om hO hR hg5).mono ?_;rintro _ w6 ⟨⟨rv,rfl,hrow⟩,hb6⟩;obtain⟨ra,rb,rc,rd,hrun,hc10,hd8,hl1⟩:=wA ⟨2,0,[],[]⟩ ⟨1,10,[],[]⟩ ⟨3,0,D,[]⟩ ⟨3,0,D,[]⟩ rfl rfl rfl rfl HDD.o.symm rfl HDD.o.symm;change w6.ownsRow w5.heap.size 38 36 rv 4 (aZ jy (runL 8 (bN gE 5 (dG (8:Nat))) [⟨2,0,[],[]⟩,⟨1,10,[],[]⟩,⟨3,0,D,[]⟩,⟨3,0,D,[]⟩]).1) at hrow
 rw[hrun] at hrow;obtain⟨ad6,cap6,rfl,hrs⟩:=aG hrow;obtain⟨b6,o6,rfl,k2⟩:=kR ⟨_,_,rfl,hrs⟩ rfl 2 om;obtain⟨b7,o7,e7,k3⟩:=kR ⟨_,_,rfl,hrs⟩ rfl 3 om;simp only[Option.some.injEq,Addr.mk.injEq,and_true] at e7;obtain⟨rfl,rfl⟩:=e7;simp only[List.getElem_cons_succ,List.getElem_cons_zero] at k2 k3;have c1:=(j9 k2).2.1;have c2:=(j9 k3).2.1;have c3:=(j9 k3).2.2.2;rw[hc10] at c1;rw[hd8] at c2;rw[hl1] at c3
 replace HB:=SM (bt HB.o hb6);clear hrow hrs k2 k3 hrd HC q1 Hrd hro hO hR hg5 HD
 go_wp2
 go_ret
 exact⟨rfl,HB.o⟩
end
section
theorem sY(w:World)(key:RW)(skew n:Int):
  Calls prog 24 #[.agg (bQ key skew n)] w fun e w'=>e = .returned (.bool (decide (1≤skew) && decide (skew≤1073741824) && decide (2≤n) && decide (n≤4096)))∧Below w.heap.size w w':=by
 have hM:=eV.made w key skew n;have hb:=ba (.cells (bQ key skew n) 24) (Sy w);have c1:=hM.f1;have c2:=hM.f2;obtain⟨b1,e1⟩ : ∃ b,decide ((1:Int)≤skew)=b:=⟨_,rfl⟩;obtain⟨b2,e2⟩ : ∃ b,decide (skew≤(1073741824:Int))=b:=⟨_,rfl⟩;obtain⟨b3,e3⟩ : ∃ b,decide ((2:Int)≤n)=b:=⟨_,rfl⟩;obtain⟨b4,e4⟩ : ∃ b,decide (n≤(4096:Int))=b:=⟨_,rfl⟩;rw[e1,e2,e3,e4];cases b1 <;> cases b2 <;> cases b3 <;> cases b4
 all_goals
  go_in
  go_wp2
  go_ret
  exact⟨rfl,hb⟩
theorem zM(w:World)(ad:Option Addr)(kn c:Nat)(L:List R3)(hL:L.length=kn)(hO:rC w (.slice ad kn c) L)(hkn:kn≤9223372036854775807):
  Calls prog 23 #[.slice ad kn c] w fun e w'=>(∃ z:Int,e = .returned (.int .i64 z)∧(z=1→kn≤40∧∀ x ∈ L,x.1.data.length≤1000))∧w=w':=by
 have HO:=SM hO;have HL:=SM hL;clear hO hL
 go_in
 go_wp2
 go_loopw [3] (fun i wr=>∃ k:Nat,k≤kn∧i = .int .i64 k∧w=wr∧Hd (∀ x ∈ L.take k,x.1.data.length≤1000)) (fun i _=>kn - (intOf i).toNat)
 case atStart=>exact⟨0,om,rfl,rfl,fun x hx=>by simp at hx⟩
 case round =>
  obtain⟨k,hk,rfl,rfl,hall⟩:=hrel
  by_cases hlt:k < kn
  ·have d1:decide ((k:Int) < (kn:Int))=true:=dt;obtain⟨b,oo,had,hrd⟩:=HO.o.cell HL.o k hlt;have hmem:L[k]'(by rw[HL.o];exact hlt) ∈ L:=List.getElem_mem _
   have hOx:=HO.o.o _ hmem;have htk:L.take (k+1)=L.take k ++ [L[k]'(by rw[HL.o];exact hlt)]:=by
    rw[List.take_add_one,List.getElem?_eq_getElem (by rw[HL.o];exact hlt)];simp
   obtain⟨x,hx⟩:=eY (L[k]'(by rw[HL.o];exact hlt))
   rw[hx] at hrd hOx htk;clear hmem hx;obtain⟨o,dv,cv⟩:=x;obtain⟨⟨a1,k1,hdv,hBs⟩,hcu⟩:=hOx;obtain⟨a2,k2,hcv,_⟩:=hcu;simp only at hdv hcv;subst hdv hcv had;have o2:w.cell? ⟨b,oo+k * 4+2,none⟩=some (.slice a1 o.data.length k1):=ab hrd 2 _ rfl;have o3:w.cell? ⟨b,oo+k * 4+3,none⟩=some (.slice a2 o.cuts.length k2):=ab hrd 3 _ rfl;have k0:(0:Int)≤(k:Int):=om;have k3:(k:Int) < (kn:Int):=om;have wk:IntKind.i64.wrap ((k:Int)+1)=(k:Int)+1:=wi
   clear hrd hBs
   by_cases hd:1000 < o.data.length
   ·have e1:decide ((1000:Int) < (o.data.length:Int))=true:=dt;clear htk hall
    go_wp2
    go_ret
    exact⟨⟨0,rfl,fun h=>by cases h⟩,rfl⟩
   have e1:decide ((1000:Int) < (o.data.length:Int))=false:=df
   by_cases hc:30 < o.cuts.length
   ·have e2:decide ((30:Int) < (o.cuts.length:Int))=true:=dt;clear htk hall
    go_wp2
    go_ret
    exact⟨⟨0,rfl,fun h=>by cases h⟩,rfl⟩
   have e2:decide ((30:Int) < (o.cuts.length:Int))=false:=df;have hall2:Hd (∀ x ∈ L.take (k+1),x.1.data.length≤1000):=SM (fun x hx=>by
    rw[htk] at hx
    rcases List.mem_append.1 hx with hx | hx
    ·exact hall.o x hx
    ·rw[List.mem_singleton.1 hx];show o.data.length≤1000;omega)
   clear htk hall
   go_wp2
   go_roundw
   case rel=>exact⟨k+1,om,by go_num,trivial,hall2⟩
   case measure=>simp[intOf];omega
  ·obtain rfl:k=kn:=om;have hall2:Hd (∀ x ∈ L,x.1.data.length≤1000):=SM (fun x hx=>hall.o x (by rw[List.take_of_length_le (by rw[HL.o];exact Nat.le_refl _)];exact hx))
   clear hall
   by_cases h4:40 < k
   ·have d4:decide ((40:Int) < (k:Int))=true:=dt
    go_wp2
    go_ret
    exact⟨⟨0,rfl,fun h=>by cases h⟩,rfl⟩
   ·have d4:decide ((40:Int) < (k:Int))=false:=df
    go_wp2
    go_ret
    exact⟨⟨1,rfl,fun _=>⟨om,hall2.o⟩⟩,rfl⟩
end
section
def Rk(o:R5)(e:Ending):Prop:=∃ bb,e = .returned (.bool bb)∧(bb=true→R6 o)
theorem sX(w:World)(o:R5)(dv cv:Value)(h:uw w o dv cv)(hcm:o.cuts.length≤9223372036854775807):
  Calls prog 22 #[.agg (Td o dv cv)] w fun e w'=>Rk o e∧Below w.heap.size w w':=by
 have hO:=Bk.new w (Td o dv cv) 42;have hb:=ba (.cells (Td o dv cv) 42) (Sy w);have h1:=h.below hb;obtain⟨⟨ad,c1,rfl,hBs⟩,hcu⟩:=h1;have hcu0:=hcu;obtain⟨ad2,c2,rfl,_⟩:=hcu0;obtain⟨kind,N,data,cuts⟩:=o;simp only at hcu hcm;obtain⟨dn,hdn⟩:=eY data.length;obtain⟨cn,hcn⟩:=eY cuts.length;have Hdn:=SM hdn;have Hcn:=SM hcn;simp only[hdn,hcn] at hO hb hcu hcm ⊢;have o0:(w.alloc (.cells (Td ⟨kind,N,data,cuts⟩ (.slice ad dn c1) (.slice ad2 cn c2)) 42)).cell? ⟨w.heap.size,0,none⟩=some (.int .i64 kind):=hO.cell 0 _ rfl
 have o1:(w.alloc (.cells (Td ⟨kind,N,data,cuts⟩ (.slice ad dn c1) (.slice ad2 cn c2)) 42)).cell? ⟨w.heap.size,1,none⟩=some (.int .i64 N):=hO.cell 1 _ rfl;have o2:(w.alloc (.cells (Td ⟨kind,N,data,cuts⟩ (.slice ad dn c1) (.slice ad2 cn c2)) 42)).cell? ⟨w.heap.size,2,none⟩=some (.slice ad dn c1):=hO.cell 2 _ rfl;have o3:(w.alloc (.cells (Td ⟨kind,N,data,cuts⟩ (.slice ad dn c1) (.slice ad2 cn c2)) 42)).cell? ⟨w.heap.size,3,none⟩=some (.slice ad2 cn c2):=hO.cell 3 _ rfl
 have Hcu:=SM hcu;have Hb:=SM hb;clear hO hcu hBs h hdn hcn hb
 go_in
 go_upto_region 1 with fail
 generalize w.alloc (.cells (Td ⟨kind,N,data,cuts⟩ (.slice ad dn c1) (.slice ad2 cn c2)) 42)=w1 at *
 go_wp2
 go_loopw [3] (fun i wr=>∃ k:Nat,k≤cn∧i = .int .i64 k∧w1=wr∧Hd (∀ x ∈ cuts.take k,0≤x∧x≤64)) (fun i _=>cn - (intOf i).toNat)
 case atStart=>exact⟨0,om,rfl,rfl,fun x hx=>by simp at hx⟩
 case round =>
  obtain⟨k,hk,rfl,rfl,hall⟩:=hrel
  by_cases hlt:k < cn
  ·have d1:decide ((k:Int) < (cn:Int))=true:=dt;have htk:cuts.take (k+1)=cuts.take k ++ [cuts[k]'(by rw[Hcn.o];exact hlt)]:=by
    rw[List.take_add_one,List.getElem?_eq_getElem (by rw[Hcn.o];exact hlt)];simp
   obtain⟨b,off,rfl,hc⟩ : ∃ b o,ad2=some ⟨b,o,none⟩∧w1.cell? ⟨b,o+k,none⟩=some (.int .i64 (cuts[k]'(by rw[Hcn.o];exact hlt))):=by
    obtain⟨ad',cap,hv,_,_,_,_,h6⟩:=Hcu.o;simp only[Value.slice.injEq] at hv;obtain⟨rfl,_,rfl⟩:=hv;obtain⟨b,o,he,hrd⟩:=h6 om;refine⟨b,o,he,ab hrd k _ ?_⟩;simp[Hcn.o,hlt]
   obtain⟨x,hx⟩:=eY (cuts[k]'(by rw[Hcn.o];exact hlt))
   rw[hx] at hc htk;have k0:(0:Int)≤(k:Int):=om;have k3:(k:Int) < (cn:Int):=om;have wk:IntKind.i64.wrap ((k:Int)+1)=(k:Int)+1:=wi;have Htk:=SM htk;clear hx htk
   by_cases h2:x < 0
   ·have d2:decide (x < (0:Int))=true:=decide_eq_true h2;clear Htk hall
    (
     go_wp2
     go_ret
     exact⟨⟨false,rfl,fun h=>by cases h⟩,Hb.o⟩)
   have d2:decide (x < (0:Int))=false:=decide_eq_false h2
   by_cases h3:64 < x
   ·have d3:decide ((64:Int) < x)=true:=decide_eq_true h3;clear Htk hall
    (
     go_wp2
     go_ret
     exact⟨⟨false,rfl,fun h=>by cases h⟩,Hb.o⟩)
   have d3:decide ((64:Int) < x)=false:=decide_eq_false h3;have hall2:Hd (∀ x ∈ cuts.take (k+1),0≤x∧x≤64):=SM (fun y hy=>by
    rw[Htk.o] at hy
    rcases List.mem_append.1 hy with hy | hy
    ·exact hall.o y hy
    ·rw[List.mem_singleton.1 hy];omega)
   clear Htk hall h2 h3
   go_wp2
   go_roundw
   case rel=>exact⟨k+1,om,by go_num,trivial,hall2⟩
   case measure=>simp[intOf];omega
  ·obtain rfl:k=cn:=om;have hall2:Hd (∀ x ∈ cuts,0≤x∧x≤64):=SM (fun x hx=>hall.o x (by rw[List.take_of_length_le (by rw[Hcn.o];exact Nat.le_refl _)];exact hx))
   obtain⟨cn,hcnn⟩ : ∃ c,c=k:=⟨_,rfl⟩;subst hcnn;clear hall hlt hk Hcu;have nil_of:∀ {α:Type} (l:List α),l.length=0→l=[]:=fun l hl=>List.eq_nil_of_length_eq_zero hl
   by_cases k1:kind=1
   ·subst k1
    (
     by_cases h2:0 < dn
     ·have e2:decide ((0:Int) < (dn:Int))=true:=dt
      (
       go_wp2
       go_ret
       exact⟨⟨false,rfl,fun h=>by cases h⟩,Hb.o⟩)
     obtain⟨dn,hdn0⟩ : ∃ z,z=dn:=⟨_,rfl⟩;obtain rfl:dn=0:=om;subst hdn0;clear h2)
    (
     by_cases h4:0 < cn
     ·have e4:decide ((0:Int) < (cn:Int))=true:=dt
      (
       go_wp2
       go_ret
       exact⟨⟨false,rfl,fun h=>by cases h⟩,Hb.o⟩)
     obtain⟨cn,hcn0⟩ : ∃ z,z=cn:=⟨_,rfl⟩;obtain rfl:cn=0:=om;subst hcn0;clear h4)
    (
     by_cases h7:N < 0
     ·have e7:decide (N < (0:Int))=true:=decide_eq_true h7
      (
       go_wp2
       go_ret
       exact⟨⟨false,rfl,fun h=>by cases h⟩,Hb.o⟩)
     have e7:decide (N < (0:Int))=false:=decide_eq_false h7)
    go_wp2
    go_ret
    exact⟨⟨decide (N≤1099511627776),rfl,fun h=>⟨.inl ⟨rfl,om,by simpa using h⟩,fun _=>nil_of _ (by show data.length=0;exact Hdn.o),fun _=>nil_of _ (by show cuts.length=0;exact Hcn.o),hall2.o,by show cuts.length≤20;rw[Hcn.o];omega,by show data.length≤131072;rw[Hdn.o];omega⟩⟩,Hb.o⟩
   by_cases k5:kind=5
   ·subst k5
    (
     by_cases h2:0 < dn
     ·have e2:decide ((0:Int) < (dn:Int))=true:=dt
      (
       go_wp2
       go_ret
       exact⟨⟨false,rfl,fun h=>by cases h⟩,Hb.o⟩)
     obtain⟨dn,hdn0⟩ : ∃ z,z=dn:=⟨_,rfl⟩;obtain rfl:dn=0:=om;subst hdn0;clear h2)
    (
     by_cases h4:0 < cn
     ·have e4:decide ((0:Int) < (cn:Int))=true:=dt
      (
       go_wp2
       go_ret
       exact⟨⟨false,rfl,fun h=>by cases h⟩,Hb.o⟩)
     obtain⟨cn,hcn0⟩ : ∃ z,z=cn:=⟨_,rfl⟩;obtain rfl:cn=0:=om;subst hcn0;clear h4)
    (
     by_cases h7:N < 0
     ·have e7:decide (N < (0:Int))=true:=decide_eq_true h7
      (
       go_wp2
       go_ret
       exact⟨⟨false,rfl,fun h=>by cases h⟩,Hb.o⟩)
     have e7:decide (N < (0:Int))=false:=decide_eq_false h7)
    by_cases h8:1≤N
    ·have e8:decide ((1:Int)≤N)=true:=decide_eq_true h8
     go_wp2
     go_ret
     exact⟨⟨decide (N≤1048576),rfl,fun h=>⟨.inr (.inr (.inr (.inr (.inl ⟨rfl,h8,by simpa using h⟩)))),fun _=>nil_of _ (by show data.length=0;exact Hdn.o),fun _=>nil_of _ (by show cuts.length=0;exact Hcn.o),hall2.o,by show cuts.length≤20;rw[Hcn.o];omega,by show data.length≤131072;rw[Hdn.o];omega⟩⟩,Hb.o⟩
    have e8:decide ((1:Int)≤N)=false:=decide_eq_false h8
    (
     go_wp2
     go_ret
     exact⟨⟨false,rfl,fun h=>by cases h⟩,Hb.o⟩)
   by_cases k6:kind=6
   ·subst k6
    (
     by_cases h2:0 < dn
     ·have e2:decide ((0:Int) < (dn:Int))=true:=dt
      (
       go_wp2
       go_ret
       exact⟨⟨false,rfl,fun h=>by cases h⟩,Hb.o⟩)
     obtain⟨dn,hdn0⟩ : ∃ z,z=dn:=⟨_,rfl⟩;obtain rfl:dn=0:=om;subst hdn0;clear h2)
    (
     by_cases h5:20 < cn
     ·have e5:decide ((20:Int) < (cn:Int))=true:=dt
      (
       go_wp2
       go_ret
       exact⟨⟨false,rfl,fun h=>by cases h⟩,Hb.o⟩)
     have e5:decide ((20:Int) < (cn:Int))=false:=df)
    (
     by_cases h7:N < 0
     ·have e7:decide (N < (0:Int))=true:=decide_eq_true h7
      (
       go_wp2
       go_ret
       exact⟨⟨false,rfl,fun h=>by cases h⟩,Hb.o⟩)
     have e7:decide (N < (0:Int))=false:=decide_eq_false h7)
    go_wp2
    go_ret
    exact⟨⟨decide (N≤1048576),rfl,fun h=>⟨.inr (.inr (.inr (.inr (.inr ⟨rfl,om,by simpa using h⟩)))),fun _=>nil_of _ (by show data.length=0;exact Hdn.o),fun hx=>absurd rfl hx,hall2.o,by show cuts.length≤20;rw[Hcn.o];omega,by show data.length≤131072;rw[Hdn.o];omega⟩⟩,Hb.o⟩
   by_cases k3:kind=3
   ·subst k3
    (
     by_cases h4:0 < cn
     ·have e4:decide ((0:Int) < (cn:Int))=true:=dt
      (
       go_wp2
       go_ret
       exact⟨⟨false,rfl,fun h=>by cases h⟩,Hb.o⟩)
     obtain⟨cn,hcn0⟩ : ∃ z,z=cn:=⟨_,rfl⟩;obtain rfl:cn=0:=om;subst hcn0;clear h4)
    (
     by_cases h6:131072 < dn
     ·have e6:decide ((131072:Int) < (dn:Int))=true:=dt
      (
       go_wp2
       go_ret
       exact⟨⟨false,rfl,fun h=>by cases h⟩,Hb.o⟩)
     have e6:decide ((131072:Int) < (dn:Int))=false:=df)
    (
     by_cases h7:N < 0
     ·have e7:decide (N < (0:Int))=true:=decide_eq_true h7
      (
       go_wp2
       go_ret
       exact⟨⟨false,rfl,fun h=>by cases h⟩,Hb.o⟩)
     have e7:decide (N < (0:Int))=false:=decide_eq_false h7)
    go_wp2
    go_ret
    exact⟨⟨N == 0,rfl,fun h=>⟨.inr (.inr (.inl ⟨rfl,by simpa using h⟩)),fun hx=>absurd rfl hx,fun _=>nil_of _ (by show cuts.length=0;exact Hcn.o),hall2.o,by show cuts.length≤20;rw[Hcn.o];omega,by show data.length≤131072;rw[Hdn.o];omega⟩⟩,Hb.o⟩
   by_cases k2:kind=2
   ·subst k2
    (
     by_cases h2:0 < dn
     ·have e2:decide ((0:Int) < (dn:Int))=true:=dt
      (
       go_wp2
       go_ret
       exact⟨⟨false,rfl,fun h=>by cases h⟩,Hb.o⟩)
     obtain⟨dn,hdn0⟩ : ∃ z,z=dn:=⟨_,rfl⟩;obtain rfl:dn=0:=om;subst hdn0;clear h2)
    (
     by_cases h4:0 < cn
     ·have e4:decide ((0:Int) < (cn:Int))=true:=dt
      (
       go_wp2
       go_ret
       exact⟨⟨false,rfl,fun h=>by cases h⟩,Hb.o⟩)
     obtain⟨cn,hcn0⟩ : ∃ z,z=cn:=⟨_,rfl⟩;obtain rfl:cn=0:=om;subst hcn0;clear h4)
    (
     by_cases h7:N < 0
     ·have e7:decide (N < (0:Int))=true:=decide_eq_true h7
      (
       go_wp2
       go_ret
       exact⟨⟨false,rfl,fun h=>by cases h⟩,Hb.o⟩)
     have e7:decide (N < (0:Int))=false:=decide_eq_false h7)
    go_wp2
    go_ret
    exact⟨⟨N == 0,rfl,fun h=>⟨.inr (.inl ⟨rfl,by simpa using h⟩),fun _=>nil_of _ (by show data.length=0;exact Hdn.o),fun _=>nil_of _ (by show cuts.length=0;exact Hcn.o),hall2.o,by show cuts.length≤20;rw[Hcn.o];omega,by show data.length≤131072;rw[Hdn.o];omega⟩⟩,Hb.o⟩
   by_cases k4:kind=4
   ·subst k4
    (
     by_cases h2:0 < dn
     ·have e2:decide ((0:Int) < (dn:Int))=true:=dt
      (
       go_wp2
       go_ret
       exact⟨⟨false,rfl,fun h=>by cases h⟩,Hb.o⟩)
     obtain⟨dn,hdn0⟩ : ∃ z,z=dn:=⟨_,rfl⟩;obtain rfl:dn=0:=om;subst hdn0;clear h2)
    (
     by_cases h4:0 < cn
     ·have e4:decide ((0:Int) < (cn:Int))=true:=dt
      (
       go_wp2
       go_ret
       exact⟨⟨false,rfl,fun h=>by cases h⟩,Hb.o⟩)
     obtain⟨cn,hcn0⟩ : ∃ z,z=cn:=⟨_,rfl⟩;obtain rfl:cn=0:=om;subst hcn0;clear h4)
    (
     by_cases h7:N < 0
     ·have e7:decide (N < (0:Int))=true:=decide_eq_true h7
      (
       go_wp2
       go_ret
       exact⟨⟨false,rfl,fun h=>by cases h⟩,Hb.o⟩)
     have e7:decide (N < (0:Int))=false:=decide_eq_false h7)
    go_wp2
    go_ret
    exact⟨⟨N == 0,rfl,fun h=>⟨.inr (.inr (.inr (.inl ⟨rfl,by simpa using h⟩))),fun _=>nil_of _ (by show data.length=0;exact Hdn.o),fun _=>nil_of _ (by show cuts.length=0;exact Hcn.o),hall2.o,by show cuts.length≤20;rw[Hcn.o];omega,by show data.length≤131072;rw[Hdn.o];omega⟩⟩,Hb.o⟩
   have f1:(kind == 1)=false:=by simpa using k1
   have f5:(kind == 5)=false:=by simpa using k5
   have f6:(kind == 6)=false:=by simpa using k6
   have g3:(kind != 3)=true:=bne_iff_ne.2 k3;have g6:(kind != 6)=true:=bne_iff_ne.2 k6
   (
    by_cases h2:0 < dn
    ·have e2:decide ((0:Int) < (dn:Int))=true:=dt
     (
      go_wp2
      go_ret
      exact⟨⟨false,rfl,fun h=>by cases h⟩,Hb.o⟩)
    obtain⟨dn,hdn0⟩ : ∃ z,z=dn:=⟨_,rfl⟩;obtain rfl:dn=0:=om;subst hdn0;clear h2)
   (
    by_cases h4:0 < cn
    ·have e4:decide ((0:Int) < (cn:Int))=true:=dt
     (
      go_wp2
      go_ret
      exact⟨⟨false,rfl,fun h=>by cases h⟩,Hb.o⟩)
    obtain⟨cn,hcn0⟩ : ∃ z,z=cn:=⟨_,rfl⟩;obtain rfl:cn=0:=om;subst hcn0;clear h4)
   (
    by_cases h7:N < 0
    ·have e7:decide (N < (0:Int))=true:=decide_eq_true h7
     (
      go_wp2
      go_ret
      exact⟨⟨false,rfl,fun h=>by cases h⟩,Hb.o⟩)
    have e7:decide (N < (0:Int))=false:=decide_eq_false h7)
   by_cases h8:2≤kind
   ·have e8:decide ((2:Int)≤kind)=true:=decide_eq_true h8;have e9:decide (kind≤(4:Int))=false:=df
    (
     go_wp2
     go_ret
     exact⟨⟨false,rfl,fun h=>by cases h⟩,Hb.o⟩)
   have e8:decide ((2:Int)≤kind)=false:=decide_eq_false h8
   (
    go_wp2
    go_ret
    exact⟨⟨false,rfl,fun h=>by cases h⟩,Hb.o⟩)
end
section
structure Qi (skew n:Int) (L:List R3):Prop where
 s:1≤skew∧skew≤1073741824
 n:2≤n∧n≤30
 l:L.length≤40
 o:∀ x ∈ L,R6 x.1
 d:∀ x ∈ L,x.1.data.length≤1000
def Rl(skew n:Int)(L:List R3)(e:Ending):Prop:=∃ bb,e = .returned (.bool bb)∧(bb=true→Qi skew n L)
theorem jZ(w:World)(key:RW)(skew n:Int)(ad:Option Addr)(kn c:Nat)(L:List R3)(hL:L.length=kn)(hO:rC w (.slice ad kn c) L)(hkn:kn≤9223372036854775807):
  Calls prog 8 #[.agg (bQ key skew n),.slice ad kn c] w fun e w'=>Rl skew n L e∧Below w.heap.size w w':=by
 have hM:=eV.made w key skew n;have hb1:=ba (.cells (bQ key skew n) 24) (Sy w);have HO:=SM (hO.below hb1);have HL:=SM hL;clear hO hL
 go_in
 go_upto_region 1 with fail
 have hsz:(w.alloc (.cells (bQ key skew n) 24)).heap.size=w.heap.size+1:=sm;generalize w.alloc (.cells (bQ key skew n) 24)=w1 at *;have HM:=SM hM;have Hb1:=SM hb1;have hz1:w.heap.size≤w1.heap.size:=om;clear hM hb1 hsz
 go_wp2
 go_loopw [5] (fun i wr=>∃ k:Nat,k≤kn∧i = .int .i64 k∧Below w1.heap.size w1 wr∧Hd (∀ x ∈ L.take k,R6 x.1)) (fun i _=>kn - (intOf i).toNat)
 case atStart=>exact⟨0,om,rfl,Below.refl _ _,fun x hx=>by simp at hx⟩
 case round =>
  obtain⟨k,hk,rfl,hbr,hall⟩:=hrel
  by_cases hlt:k < kn
  ·have d1:decide ((k:Int) < (kn:Int))=true:=dt;have hOr:=HO.o.below hbr;obtain⟨b,oo,had,hrd⟩:=hOr.cell HL.o k hlt;have hmem:L[k]'(by rw[HL.o];exact hlt) ∈ L:=List.getElem_mem _
   have hOx:=hOr.o _ hmem;have htk:L.take (k+1)=L.take k ++ [L[k]'(by rw[HL.o];exact hlt)]:=by
    rw[List.take_add_one,List.getElem?_eq_getElem (by rw[HL.o];exact hlt)];simp
   obtain⟨x,hx⟩:=eY (L[k]'(by rw[HL.o];exact hlt))
   rw[hx] at hrd hOx htk;clear hmem hx hOr;obtain⟨o,dv,cv⟩:=x;have hrd':readAt wr b (oo+k * 4) 4=some (Td o dv cv):=hrd;have hOx:uw wr o dv cv:=hOx;have hcl:o.cuts.length≤9223372036854775807:=by
    obtain⟨a2,k2,hv,h1,h2,_⟩:=hOx.c;unfold maxLen at h2;omega
   have k0:(0:Int)≤(k:Int):=om;have k3:(k:Int) < (kn:Int):=om;have wk:IntKind.i64.wrap ((k:Int)+1)=(k:Int)+1:=wi;have HOx:=SM hOx;have Htk:=SM htk;have Hbr:=SM hbr;subst had;clear hrd hOx htk hbr
   go_wp2_with fail
   refine (sX wr o dv cv HOx.o hcl).mono ?_;rintro _ w2 ⟨⟨bb,rfl,hbb⟩,hb2⟩;have Hb2:=SM (bt Hbr.o hb2);have Hbb:=SM hbb;clear hb2 hbb hrd';cases bb
   ·go_wp2
    go_ret
    exact⟨⟨false,rfl,fun h=>by cases h⟩,Hb1.o.trans (Hb2.o.mono hz1)⟩
   ·have hall2:Hd (∀ x ∈ L.take (k+1),R6 x.1):=SM (fun y hy=>by
     rw[Htk.o] at hy
     rcases List.mem_append.1 hy with hy | hy
     ·exact hall.o y hy
     ·rw[List.mem_singleton.1 hy];exact Hbb.o rfl)
    clear hall Htk
    go_wp2
    go_roundw
    case rel=>exact⟨k+1,om,by go_num,Hb2.o,hall2⟩
    case measure=>simp[intOf];omega
  ·obtain rfl:k=kn:=om;have hall2:Hd (∀ x ∈ L,R6 x.1):=SM (fun x hx=>hall.o x (by rw[List.take_of_length_le (by rw[HL.o];exact Nat.le_refl _)];exact hx))
   have HMr:=SM (HM.o.below hbr);have HOr:=SM (HO.o.below hbr);have Hbr:=SM (Hb1.o.trans (hbr.mono hz1));clear hall hbr
   go_wp2_with fail
   refine (zM wr ad k c L HL.o HOr.o om).mono ?_;rintro _ _ ⟨⟨z,rfl,hz⟩,rfl⟩;have r0:=HMr.o.r;have c2:=HMr.o.f2
   by_cases h1:z=1
   ·have hz2:=SM (hz h1);subst h1;clear hz
    go_wp2_with fail
    refine (sY wr key skew n).mono ?_;rintro _ w3 ⟨rfl,hb3⟩;have Hb3:=SM (hb3);have c2':=(HMr.o.below hb3).f2;obtain⟨br,hbr⟩ : ∃ br,(decide (1≤skew) && decide (skew≤1073741824) && decide (2≤n) && decide (n≤4096))=br:=⟨_,rfl⟩;rw[hbr];have Hbrr:=SM hbr;clear hbr hb3 r0 c2;cases br
    ·go_wp2
     go_ret
     exact⟨⟨false,rfl,fun h=>by cases h⟩,bt Hbr.o Hb3.o⟩
    ·go_wp2
     go_ret
     refine⟨⟨decide (n≤30),rfl,fun h=>?_⟩,bt Hbr.o Hb3.o⟩;have h5:n≤30:=by simpa using h
     have h6:=Hbrr.o;simp only[Bool.and_eq_true,decide_eq_true_eq] at h6;exact⟨⟨h6.1.1.1,h6.1.1.2⟩,⟨h6.1.2,h5⟩,by rw[HL.o];exact hz2.o.1,hall2.o,hz2.o.2⟩
   ·have d1:(z == 1)=false:=by simpa using h1
    clear hz h1
    go_wp2
    go_ret
    exact⟨⟨false,rfl,fun h=>by cases h⟩,Hbr.o⟩
end
section
open Go.RowKit
end
section
open Go.RowKit Go.ChangeShapes Go.WideShapes Go.ChangeAt Go.Deep
section
variable {H:Type} {enc:TypeId × Value→H} {w:World} {base b0:Nat} {r:Reach} {spare:Nat→Bool} {held:Bool} {v:Value} {d:DataW H} {p:List MemPlace}
theorem BI:prog.cellsOf 3=1:=kr
theorem BJ:prog.cellsOf 5=1:=kr
theorem Jf:prog.cellsOf 2=1:=kr
theorem OA:prog.cellsOf 40=1:=kr
theorem Ox:prog.cellsOf 39=1:=kr
theorem Oz:prog.cellsOf 22=16:=kr
theorem Oy:prog.cellsOf 24=18:=kr
theorem Jg:prog.cellsOf 42=4:=kr
def i1(x:Int):Array Value:=#[.int .i64 x]
theorem KK(l:List Int):aZ i1 l=l.map (Value.int .i64):=by
 induction l with
 | nil=>rfl
 | cons a l ih=>simp[aZ,i1] at ih ⊢;exact ih
def u1(x:UInt8):Array Value:=#[B8 x]
theorem KL(l:List UInt8):aZ u1 l=l.map B8:=by
 induction l with
 | nil=>rfl
 | cons a l ih=>simp[aZ,u1] at ih ⊢;exact ih
set_option maxRecDepth 100000 in
theorem sy{fuel:Nat}{cs:List Value}{x:DataW H × List MemPlace}(hf:DataW.trod enc prog w base spare held fuel 40 cs=some x):
  ∃ ad c,∃ l:List Int,cs=[.slice ad l.length c]∧Se w (.slice ad l.length c) l.length 1 (l.map (Value.int .i64))∧∀ x,x ∈ l→fk x:=by
 have key:∃ ad n c,cs=[.slice ad n c]:=by
  rcases DataW.trod_slice underlying40 hf with ⟨h0,_⟩ | ⟨a,len,cap,elems,rest,k,_,hcs,_⟩
  ·exact⟨none,0,0,h0⟩
  ·exact⟨some a,len,cap,hcs⟩
 obtain⟨ad,n,c,rfl⟩:=key;obtain⟨R,h1,h2,h3⟩:=m4 i1 1 (fun _=>rfl) om underlying40 BI fk (fun k cs y hy=>by
  obtain⟨z,e,_,wz⟩:=DataW.trod_int underlying3 hy;exact⟨z,by rw[e];rfl,bounds_i64 wz⟩) hf
 subst h1;rw[KK] at h2;exact⟨ad,c,R,rfl,h2,h3⟩
set_option maxRecDepth 100000 in
theorem uF{fuel:Nat}{cs:List Value}{x:DataW H × List MemPlace}(hf:DataW.trod enc prog w base spare held fuel 39 cs=some x):
  ∃ ad c,∃ l:List UInt8,cs=[.slice ad l.length c]∧Bs w ad l.length c l:=by
 have key:∃ ad n c,cs=[.slice ad n c]:=by
  rcases DataW.trod_slice underlying39 hf with ⟨h0,_⟩ | ⟨a,len,cap,elems,rest,k,_,hcs,_⟩
  ·exact⟨none,0,0,h0⟩
  ·exact⟨some a,len,cap,hcs⟩
 obtain⟨ad,n,c,rfl⟩:=key;obtain⟨R,h1,h2,h3⟩:=m4 u1 1 (fun _=>rfl) om underlying39 BJ (fun _=>True) (fun k cs y hy=>by
  obtain⟨z,e,_,wz⟩:=DataW.trod_int underlying5 hy;exact⟨P7 z,by rw[e];unfold u1;rw[NT z (bounds_u8 wz)],trivial⟩) hf
 subst h1;rw[KL] at h2;obtain⟨ad',cap,e,g1,g2,g3,g4,g5⟩:=h2;simp only[Value.slice.injEq,true_and] at e;obtain⟨rfl,rfl⟩:=e;refine⟨ad,c,R,rfl,rfl,g1,by simpa [maxLen] using g2,fun h=>(g4 h).2,fun h0=>?_⟩
 obtain⟨b,o,e,hr⟩:=g5 h0;exact⟨b,o,e,by rw[Nat.mul_one] at hr;exact hr⟩
set_option maxRecDepth 100000 in
theorem Dh(hv:Value.okWide prog w r b0 40 v)(h:DataW.Trod enc prog w base spare held 40 v d p):
  ∃ ad c,∃ l:List Int,v = .slice ad l.length c∧Se w (.slice ad l.length c) l.length 1 (l.map (Value.int .i64)):=by
 obtain⟨ad,n,c,rfl⟩:=okWide_slice underlying40 hv;obtain⟨fuel,hf⟩:=h;obtain⟨ad',c',l,e,hl,_⟩:=sy hf;simp only[Value.cells,List.cons.injEq,and_true] at e;exact⟨ad',c',l,by simpa using e,hl⟩
set_option maxRecDepth 100000 in
theorem jR(hv:Value.okWide prog w r b0 25 v)(h:DataW.Trod enc prog w base spare held 25 v d p):
  ∃ ad c,∃ L:List R3,v = .slice ad L.length c∧rC w (.slice ad L.length c) L∧L.length≤9223372036854775807:=by
 obtain⟨ad,n,c,rfl⟩:=okWide_slice underlying25 hv;obtain⟨fuel,hf⟩:=h;have:=m4 jE 4 gL om underlying25 Jg (fun x=>uw w x.1 x.2.1 x.2.2) (fun k cs y hy=>by
  obtain⟨y0,y1,y2,y3,m,_,hl,h0,h1,h2,h3⟩:=Joins.trod_struct4 underlying42 hy;rw[Jg] at hl
  match cs,hl with
  | [c0,c1,c2,c3],_ =>
   simp only[BI,Jf,OA,Ox,List.drop_zero,List.drop_succ_cons,List.take_succ_cons,List.take_zero] at h0 h1 h2 h3;obtain⟨z0,e0,_,w0⟩:=DataW.trod_int underlying3 h0;obtain⟨z1,e1,_,w1⟩:=DataW.trod_int underlying2 h1;obtain⟨ad2,c2',l2,e2,r2⟩:=uF h2;obtain⟨ad3,c3',l3,e3,r3,i3⟩:=sy h3;refine⟨(⟨z0,z1,l2,l3⟩,.slice ad2 l2.length c2',.slice ad3 l3.length c3'),?_,⟨⟨ad2,c2',rfl,r2⟩,r3⟩⟩;simp only[List.cons.injEq,and_true] at e0 e1 e2 e3
   subst e0 e1 e2 e3
   rfl) hf
 obtain⟨R,h1,h2,h3⟩:=this;subst h1;refine⟨ad,c,R,rfl,⟨h2,h3⟩,?_⟩;obtain⟨_,cap,_,g1,g2,_⟩:=h2;simp only[maxLen] at g2;omega
set_option maxRecDepth 100000 in
theorem jQ(hv:Value.okWide prog w r b0 24 v)(h:DataW.Trod enc prog w base spare held 24 v d p):
  ∃ (key:RW) (skew n:Int),v = .agg (bQ key skew n):=by
 unfold Value.okWide at hv;rw[underlying24] at hv;obtain⟨cs,rfl,hsz,_⟩:=hv;rw[Oy] at hsz;obtain⟨fuel,hf⟩:=h;obtain⟨y0,y1,y2,m,_,hl,h0,h1,h2⟩:=Go.Deep.trod_struct3 underlying24 hf;simp only[Value.cells,Oz,Jf,BI] at h0 h1 h2;obtain⟨z1,e1,_,w1⟩:=DataW.trod_int underlying2 h1;obtain⟨z2,e2,_,w2⟩:=DataW.trod_int underlying3 h2;obtain⟨xs,m',_,_,_,hl',hx⟩:=DataW.trod_array underlying22 h0;obtain⟨l,hcs⟩:=eY cs.toList
 have hll:l.length=18:=by rw[← hcs];simpa using hsz
 have hcs2:cs=l.toArray:=by rw[← hcs]
 rw[hcs] at e1 e2 hx;obtain⟨K,hK⟩:=p6 (cs:=(l.take 16).toArray) (n:=16) sO (fun i hi=>by
  have h1:=hx i hi;rw[BJ,Nat.mul_one] at h1;have hi2:i < xs.length:=om;rw[List.getElem?_eq_getElem hi2] at h1;have hi3:i < (l.take 16).length:=sO;rw[List.drop_zero,List.drop_eq_getElem_cons hi3] at h1;simp only[List.take_succ_cons,List.take_zero] at h1;obtain⟨z,hz,_,wz⟩:=DataW.trod_int underlying5 h1;have hz1:(l.take 16)[i] = .int .u8 z:=by simpa using hz
  exact⟨z,by rw[List.getElem?_toArray,List.getElem?_eq_getElem hi3,hz1],bounds_u8 wz⟩)
 refine⟨K,z1,z2,congrArg Value.agg ?_⟩;have h3:(l.take 16)=(av K).toList:=by rw[← hK]
 have e3:l=l.take 16 ++ ((l.drop 16).take 1 ++ (l.drop 17).take 1):=by
  have a1:=(List.take_append_drop 16 l).symm;have a2:=(List.take_append_drop 1 (l.drop 16)).symm;rw[List.drop_drop] at a2;have a3:(l.drop 17).take 1=l.drop 17:=List.take_of_length_le sO;rw[a3,← a2];exact a1
 rw[hcs2,e3,e1,e2,h3]
 apply Array.ext'
 unfold bQ;simp only[Array.toList_append,List.append_assoc]
 rfl
end
theorem gX:laidOutB prog=true:=kr
theorem Qa:ownKnob prog.godebug=none:=kr
abbrev iF : List (String × DataW Unit) := [("toll/sha.constants", Rows.laid_toll_sha_constants)]
theorem Gd{W:World}(h:laidMetH prog iF W):GK W:=by
 rw[MakeChecks.laidMetH_plain _ _ _ kr] at h;obtain⟨ps,⟨g,t,cs,fuel,p,q,hg,ht,hv,hd,_,_⟩,_,_⟩:=h;obtain rfl := Option.some.inj ((show Tryz.prog.globalNamed "toll/sha.constants" = some 0 by kernel_rfl).symm.trans hg)
 obtain rfl:=Option.some.inj ((show (prog.globals[0]?).map (·.type)=some 296 by kernel_rfl).symm.trans ht)
 obtain⟨xs,m,_,ex,_,hl,hel⟩:=DataW.trod_array underlying296 hd;have c5:prog.cellsOf 56=1:=kr;have hlay:(Rows.laid_toll_sha_constants:DataW Unit) = .agg (lD.toList.map fun x=>.lit (.int .u32 (x.toNat:Int))):=kr;have key:∀ k:Nat,(h:k < 64)→W.cell? ⟨0,k,none⟩=some (W4 lD[k]):=by
  intro k hk;have hE:=hel k hk;rw[c5,Nat.mul_one,List.getElem?_eq_getElem om] at hE;obtain⟨z,e1,e2,_⟩:=DataW.trod_int underlying56 hE;have e3:=ex;rw[hlay] at e3;have e4:=(DataW.agg.inj (Prod.mk.inj e3).1).symm;have e5:(xs.map (·.1))[k]? = (lD.toList.map fun x=>(DataW.lit (.int .u32 (x.toNat:Int)):DataW Unit))[k]?:=by rw[e4]
  rw[List.getElem?_map,List.getElem?_map,List.getElem?_eq_getElem (by omega:k < xs.length),List.getElem?_eq_getElem (by simpa using hk:k < lD.toList.length),e2] at e5
  rw[World.var?_cell hg hv k];have h0:cs.toList[k]? = some (.int .u32 z):=by
   have h0:((cs.toList.drop k).take 1)[0]? = some (.int .u32 z):=by rw[e1];rfl
   simpa using h0
  simp only[Option.map_some,Option.some.injEq,DataW.lit.injEq,Lit.int.injEq,true_and] at e5;subst e5
  simpa [W4,wI] using h0
 exact⟨World.block_lt_of_cell? W _ (key 0 om),key⟩
end
end Go.Proofs.YtlcfaaodmickbaaGreatDoor
