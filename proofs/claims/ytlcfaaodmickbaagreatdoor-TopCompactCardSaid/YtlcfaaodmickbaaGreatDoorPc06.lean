/- Part 6 of the proof: texts merged and shortened by a program. No conditions. -/
import Derived.Deep.AppendLies
import Derived.Test.YtlcfaaodmickbaaGreatDoorPc05
set_option linter.unusedSimpArgs false
set_option linter.unusedVariables false
set_option maxRecDepth 100000
set_option maxHeartbeats 8000000
namespace Go.Proofs.YtlcfaaodmickbaaGreatDoor
open Go.RowKit Go.Proofs.Tryz
section
theorem Hd.out{p:Prop}(h:Hd p):p:=h
open Go.RowKit Go.ChangeMaps
section
variable {base n:Nat} {p:DP} {D:DM}
theorem EV(w:World):(zeroValue 4).run prog w = .ok (.bool false) w:=kr
theorem EW(w:World):(zeroValue 40).run prog w = .ok (.slice none 0 0) w:=kr
theorem I1(w:World):(zeroValue 3).run prog w = .ok (.int .i64 0) w:=kr
theorem RM.lookF{w u:World}(h:RM w base p n D)(hu:u.heap[p.bf]? = w.heap[p.bf]?)(k:Int)(h1:D.steps < k)(h64:RV k):
  (Instr.lookup 83 (.map (some p.bf)) (.int .i64 k) false).run prog u = .ok (.bool (SL D.plan k)) u:=by
 obtain⟨M,hM,hM2,hM3⟩:=h.fa;rw[(hM.kept hu).look h64 underlying83 (EV u) false,← hM2 k h1];cases hq:M k with
 | none=>rfl
 | some v=>rw[hM3 k v hq];rfl
theorem RM.lookC{w u:World}(h:RM w base p n D)(hu:u.heap[p.bc]? = w.heap[p.bc]?)(k:Int)(h1:D.steps < k)(h64:RV k):
  ∃ v ok,(Instr.lookup 84 (.map (some p.bc)) (.int .i64 k) true).run prog u = .ok (.tuple #[v,.bool ok]) u∧((ok=true∧∃ cs,SJ D.plan k=some cs∧rz w p v cs)∨(ok=false∧SJ D.plan k=none)):=by
 obtain⟨M,hM,hM2⟩:=h.cr;refine⟨_,_,(hM.kept hu).look h64 underlying84 (EW u) true,?_⟩
 rcases hM2 k h1 with ⟨e1,e2⟩ | ⟨cs,v,e1,e2,e3⟩
 ·exact .inr ⟨by rw[e2];rfl,e1⟩
 ·exact .inl ⟨by rw[e2];rfl,cs,e1,by rw[e2];exact e3⟩
theorem RM.delF{w:World}(h:RM w base p n D)(k:Int)(hk:k≤D.steps)(h64:RV k)(ty:TypeId):
  ∃ o,(Builtin.delete_ #[83,3] ty #[.map (some p.bf),.int .i64 k]).run prog w = .ok (.tuple #[]) (setBlock w p.bf o)∧RM (setBlock w p.bf o) base p n D:=by
 obtain⟨n1,n2,n3,n4,n5,n6,n7,n8,n9,n10⟩:=h.ok.ne;obtain⟨M,hM,hM2,hM3⟩:=h.fa;obtain⟨M',hM',hM2'⟩:=h.cr;obtain⟨o,hrun,him⟩:=hM.drop h64 underlying83 ty;have ho:=Ob.setBlock w p.bf o;have hc:∀ g,g ∈ p.cb→g≠p.bf:=fun g hg e=>(h.ok.c g hg).1 (e ▸ fF p);refine⟨o,hrun,h.ok,by rw[ho.readAt n3];exact h.r,by rw[ho.canAt n3];exact h.k,by rw[ho.readAt n6];exact h.sr,by rw[ho.canAt n6];exact h.sk,h.sc,ho.own h.op (h.ok.o' (fF p)),ho.im n8 h.la,⟨_,him,fun j hj=>?_,fun j v hv=>?_⟩,⟨M',ho.im n10.symm hM',fun k hk=>(hM2' k hk).same (fun b hb _=>ho.block b (hc b hb))⟩,fun b hb=>by rw[ho.size];exact h.lt b hb⟩
 ·have:j≠k:=om;unfold Tm;rw[if_neg this];exact hM2 j hj
 ·unfold Tm at hv
  split at hv
  ·cases hv
  ·exact hM3 j v hv
theorem RM.delC{w:World}(h:RM w base p n D)(k:Int)(hk:k≤D.steps)(h64:RV k)(ty:TypeId):
  ∃ o,(Builtin.delete_ #[84,3] ty #[.map (some p.bc),.int .i64 k]).run prog w = .ok (.tuple #[]) (setBlock w p.bc o)∧RM (setBlock w p.bc o) base p n D:=by
 obtain⟨n1,n2,n3,n4,n5,n6,n7,n8,n9,n10⟩:=h.ok.ne;obtain⟨M,hM,hM2,hM3⟩:=h.fa;obtain⟨M',hM',hM2'⟩:=h.cr;obtain⟨o,hrun,him⟩:=hM'.drop h64 underlying84 ty;have ho:=Ob.setBlock w p.bc o;have hc:∀ g,g ∈ p.cb→g≠p.bc:=fun g hg e=>(h.ok.c g hg).1 (e ▸ eZ p);refine⟨o,hrun,h.ok,by rw[ho.readAt n4];exact h.r,by rw[ho.canAt n4];exact h.k,by rw[ho.readAt n7];exact h.sr,by rw[ho.canAt n7];exact h.sk,h.sc,ho.own h.op (h.ok.o' (eZ p)),ho.im n9 h.la,⟨M,ho.im n10 hM,hM2,hM3⟩,⟨_,him,fun j hj=>?_⟩,fun b hb=>by rw[ho.size];exact h.lt b hb⟩
 have hj2:j≠k:=om;have h3:Tm M' k none j=M' j:=by unfold Tm;rw[if_neg hj2]
 have h4:=(hM2' j hj).same (w':=setBlock w p.bc o) (fun b hb _=>ho.block b (hc b hb));unfold um at h4 ⊢;rw[h3];exact h4
def pT(w':World)(p:DP)(D:DM)(e:Ending):Prop :=
 (∃ cs v,SJ D.plan (D.steps+1)=some cs∧e = .returned (.tuple #[.int .i64 2,v])∧rz w' p v cs) ∨
 (SJ D.plan (D.steps+1)=none∧SL D.plan (D.steps+1)=true∧e = .returned (.tuple #[.int .i64 1,.slice none 0 0])) ∨
 (SJ D.plan (D.steps+1)=none∧SL D.plan (D.steps+1)=false∧e = .returned (.tuple #[.int .i64 0,.slice none 0 0]))
set_option maxRecDepth 100000 in
theorem tJ(w:World)(h:RM w base p n D)(h0:0≤D.steps)(h1:D.steps≤1000000):
  Calls prog 120 #[.pointer (some ⟨p.B,0,none⟩)] w fun e w'=>pT w' p D e∧RM w' base p n (cX D)∧Kb p.has w w':=by
 obtain⟨-,-,-,-,c4,-⟩:=h.cells;have f4:=h.free 4;obtain⟨n1,n2,n3,n4,n5,n6,n7,n8,n9,n10⟩:=h.ok.ne;have hd:RM (setAt w p.B 4 #[.int .i64 (D.steps+1)]) base p n (cX D):=h.setSteps (D.steps+1) om;have he:=aK (aC h.k 4 1 om) (.int .i64 (D.steps+1));have ho:=Ob.setAt w p.B 4 #[.int .i64 (D.steps+1)];rw[← he] at hd ho;have h64:RV (D.steps+1):=by unfold RV;omega
 have hlc:∀ cs v,rz w p v cs→∀ u,(∀ b,p.has b→b≠p.B→b≠p.bf→b≠p.bc→u.heap[b]? = w.heap[b]?)→rz u p v cs:=by
  rintro cs v ⟨hr,hb⟩ u hu;refine⟨hr.same (fun g hg _=>?_),hb⟩;have hgc:=hb g hg;have hne:=(h.ok.c g hgc).1;exact hu g (.inr (.inr hgc)) (fun e=>hne (e ▸ fE p)) (fun e=>hne (e ▸ fF p)) (fun e=>hne (e ▸ eZ p))
 have Hd:=SM hd;have Ho:=SM ho;have H:=SM h;have H64:=SM h64;have Hlc:=SM hlc;have Hn3:=SM n3;have Hn4:=SM n4;have Hn10:=SM n10;clear hd ho he h h64 hlc n1 n2 n3 n4 n5 n6 n7 n8 n9 n10
 go_in
 go_wp2_with fail
 generalize hw1:w.setCell ⟨p.B,4,none⟩ (.int .i64 (D.steps+1))=w1 at *;clear hw1 c4 f4;refine yW (tk 0 10 .done) (fun u=>u=w1.drew) rfl ?_;have Hd2:=SM Hd.out.drew;have hf2:w1.drew.heap[p.bf]? = w.heap[p.bf]?:=Ho.out.block _ Hn3.out.symm;have hc2:w1.drew.heap[p.bc]? = w.heap[p.bc]?:=Ho.out.block _ Hn4.out.symm;have Hw2:Hid (∀ b,b≠p.B→w1.drew.heap[b]? = w.heap[b]?):=fun b hb=>Ho.out.block b hb;have Hk2:Hid (Kb p.has w w1.drew):=(Ho.out.kb zi).trans (Kb.of_below (X:=p.has) (Below.refl _ _).drew) (fun i hi=>.inl hi)
 clear Hd Ho Hn3 Hn4;generalize w1.drew=w2 at *;have hl:=H.out.lookF (u:=w2) hf2 (D.steps+1) om H64.out;obtain⟨-,-,-,-,c4,c5,-⟩:=Hd2.out.cells;have c4':w2.cell? ⟨p.B,4,none⟩=some (.int .i64 (D.steps+1)):=c4;clear c4 hf2
 repeat((first|refine yO ?_|refine yM ?_|refine yF rfl rfl (fun w' hC'=>by subst hC';go_simp;first|done|exact rfl) ?_);walk_nrm)
 refine al ?_;clear hl c4' c5
 go_wp2
 refine yW (tk 0 14 .done) (fun u=>u=w2.drew) rfl ?_;have Hd3:=SM Hd2.out.drew;have hc3:w2.drew.heap[p.bc]? = w.heap[p.bc]?:=hc2;have Hw3:Hid (∀ b,b≠p.B→w2.drew.heap[b]? = w.heap[b]?):=fun b hb=>Hw2.out b hb;have Hk3:Hid (Kb p.has w w2.drew):=Hk2.out.trans (Kb.of_below (X:=p.has) (Below.refl _ _).drew) (fun i hi=>.inl hi);clear hc2 Hd2 Hw2 Hk2;generalize w2.drew=w3 at *;obtain⟨vc,ok,hl,hok⟩:=H.out.lookC (u:=w3) hc3 (D.steps+1) om H64.out
 obtain⟨-,-,-,-,c4,-,c6⟩:=Hd3.out.cells;have c4':w3.cell? ⟨p.B,4,none⟩=some (.int .i64 (D.steps+1)):=c4;have Hok:=SM hok;clear c4 hc3 hok
 repeat((first|refine yO ?_|refine yM ?_|refine yF rfl rfl (fun w' hC'=>by subst hC';go_simp;first|done|exact rfl) ?_);walk_nrm)
 refine al ?_;clear hl c4' c6
 go_wp2
 refine yW (tk 0 8 (.run 8 .done)) (fun u=>readAt u p.B 0 7=some (d7 p n D.down (D.steps+1))) Hd3.out.drew.r ?_;have Hd4:=SM Hd3.out.drew;have Hw4:Hid (∀ b,b≠p.B→w3.drew.heap[b]? = w.heap[b]?):=fun b hb=>Hw3.out b hb;have Hk4:Hid (Kb p.has w w3.drew):=Hk3.out.trans (Kb.of_below (X:=p.has) (Below.refl _ _).drew) (fun i hi=>.inl hi);clear Hd3 Hw3 Hk3;generalize w3.drew=w4 at *;obtain⟨o,hdel,hd5⟩:=Hd4.out.delF (D.steps+1) (Int.le_refl _) H64.out 0
 have Ho5:=SM (Ob.setBlock w4 p.bf o);have Hd5:=SM hd5;clear hd5
 repeat((first|refine yO ?_|refine yM ?_|refine yF rfl rfl (fun w' hC'=>by obtain⟨-,-,-,-,c4,c5,c6⟩:=eH hC';go_simp;first|done|exact rfl) ?_);walk_nrm)
 refine dd rfl rfl (fun K hK=>?_);go_simp;refine hK _ _ (fun u=>readAt u p.B 0 7=some (d7 p n D.down (D.steps+1))) (fun _ h=>h) Hd5.out.r ?_;clear hK K
 try walk_nrm
 refine al ?_;clear hdel;have Hw5:Hid (∀ b,b≠p.B→b≠p.bf→(setBlock w4 p.bf o).heap[b]? = w.heap[b]?):=fun b hb hb2=>(Ho5.out.block b hb2).trans (Hw4.out b hb);have Hk5:Hid (Kb p.has w (setBlock w4 p.bf o)):=Hk4.out.trans (Ho5.out.kb (X:=p.has) (.inl (fF p))) (fun i hi=>.inl hi);clear Ho5 Hw4 Hk4 Hd4;generalize setBlock w4 p.bf o=w5 at *
 go_wp2
 refine yW (tk 0 8 (.run 8 .done)) (fun u=>readAt u p.B 0 7=some (d7 p n D.down (D.steps+1))) Hd5.out.drew.r ?_;have Hd6:=SM Hd5.out.drew;have Hw6:Hid (∀ b,b≠p.B→b≠p.bf→w5.drew.heap[b]? = w.heap[b]?):=fun b hb hb2=>Hw5.out b hb hb2;have Hk6:Hid (Kb p.has w w5.drew):=Hk5.out.trans (Kb.of_below (X:=p.has) (Below.refl _ _).drew) (fun i hi=>.inl hi);clear Hd5 Hw5 Hk5;generalize w5.drew=w6 at *;obtain⟨o2,hdel,hd7⟩:=Hd6.out.delC (D.steps+1) (Int.le_refl _) H64.out 0
 have Ho7:=SM (Ob.setBlock w6 p.bc o2);have Hd7:=SM hd7;clear hd7
 repeat((first|refine yO ?_|refine yM ?_|refine yF rfl rfl (fun w' hC'=>by obtain⟨-,-,-,-,c4,c5,c6⟩:=eH hC';go_simp;first|done|exact rfl) ?_);walk_nrm)
 refine dd rfl rfl (fun K hK=>?_);go_simp;refine hK _ _ (fun u=>readAt u p.B 0 7=some (d7 p n D.down (D.steps+1))) (fun _ h=>h) Hd7.out.r ?_;clear hK K
 try walk_nrm
 refine al ?_;clear hdel;have Hw7:Hid (∀ b,b≠p.B→b≠p.bf→b≠p.bc→(setBlock w6 p.bc o2).heap[b]? = w.heap[b]?):=fun b hb hb2 hb3=>(Ho7.out.block b hb3).trans (Hw6.out b hb hb2);have Hk7:Hid (Kb p.has w (setBlock w6 p.bc o2)):=Hk6.out.trans (Ho7.out.kb (X:=p.has) (.inl (eZ p))) (fun i hi=>.inl hi);clear Ho7 Hw6 Hk6 Hd6;generalize setBlock w6 p.bc o2=w7 at *
 rcases Hok.out with ⟨rfl,cs,e1,e2⟩ | ⟨rfl,e1⟩
 ·have HA:Hid (pT w7 p D (.returned (.tuple #[.int .i64 2,vc]))):=.inl ⟨cs,vc,e1,rfl,Hlc.out cs vc e2 w7 (fun b _ h1 h2 h3=>Hw7.out b h1 h2 h3)⟩;clear e1 e2 Hok
  go_wp2
  go_ret2
  exact⟨HA.out,Hd7.out,Hk7.out⟩
 ·cases hF:SL D.plan (D.steps+1)
  ·have HA:Hid (pT w7 p D (.returned (.tuple #[.int .i64 0,.slice none 0 0]))):=.inr (.inr ⟨e1,hF,rfl⟩);clear e1 Hok hF
   go_wp2
   go_ret2
   exact⟨HA.out,Hd7.out,Hk7.out⟩
  ·have HA:Hid (pT w7 p D (.returned (.tuple #[.int .i64 1,.slice none 0 0]))):=.inr (.inl ⟨e1,hF,rfl⟩);clear e1 Hok hF
   go_wp2
   go_ret2
   exact⟨HA.out,Hd7.out,Hk7.out⟩
end
end
section
open Go.RowKit Go.ChangeMaps
section
variable {base n:Nat} {p:DP} {D:DM}
theorem Kb.grown{X:Nat→Prop}{w w':World}{row:Option Nat}(h:w.grownBy w' row)(hX:∀ b,row=some b→X b):Kb X w w' :=
 ⟨h.os,h.tape,h.output,h.size,fun k hk hx=>h.block k hk (fun e=>hx (hX k e.symm))⟩
theorem Kb.drew{X:Nat→Prop}{w w':World}(h:Kb X w w'):Kb X w w'.drew:=h.trans (Kb.of_below (X:=X) (Below.refl _ _).drew) (fun i hi=>.inl hi)
theorem Kb.ob{X:Nat→Prop}{w w' w'':World}{B:Nat}(h:Kb X w w')(ho:Ob B w' w'')(hB:X B):Kb X w w'':=h.trans (ho.kb hB) (fun i hi=>.inl hi)
theorem Kb.blw{X:Nat→Prop}{w w' w'':World}(h:Kb X w w')(hb:Below w'.heap.size w' w''):Kb X w w'':=h.trans (Kb.of_below (X:=X) hb) (fun i hi=>.inl hi)
theorem RM.re{w u:World}(h:RM w base p n D)(vo':Value)(op':List (Int × Sj))(hs:w.heap.size≤u.heap.size)
  (hk:∀ b,b < w.heap.size→b≠p.B→b≠p.bl→some b≠p.vo.ownBlock→u.heap[b]? = w.heap[b]?)
  (hr:readAt u p.B 0 7=some (d7 { p with vo:=vo' } n D.down D.steps)) (hc:canAt u p.B 0 7=true)
  (ho:u.ownsRow base 203 65 vo' op'.length (aZ To op')) (hl:IM u p.bl (kJ op'))
  (hv:∀ g,vo'.ownBlock=some g→p.vo.ownBlock=some g∨w.heap.size≤g) (hb:base≤w.heap.size):RM u base { p with vo:=vo' } n { D with op:=op' }:=by
 obtain⟨n1,n2,n3,n4,n5,n6,n7,n8,n9,n10⟩:=h.ok.ne;obtain⟨M,hM,hM2,hM3⟩:=h.fa;obtain⟨M',hM',hM2'⟩:=h.cr;have hnv:∀ b,b ∈ p.five→some b≠p.vo.ownBlock:=fun b hb e=>h.ok.o b e.symm hb;have kgs:=hk p.gs (ac h.sr) n1.symm n5 (hnv _ (jp p));have hcb:∀ b,b ∈ p.cb→b < w.heap.size→u.heap[b]? = w.heap[b]?:=fun b hb1 hb2=>hk b hb2 (fun e=>(h.ok.c b hb1).1 (e ▸ fE p)) (fun e=>(h.ok.c b hb1).1 (e ▸ gU p)) (fun e=>(h.ok.c b hb1).2 e.symm)
 have hlt5:∀ b,b ∈ p.five→b < w.heap.size:=fun b hb1=>h.has_lt b (.inl hb1);refine⟨⟨h.ok.d,fun g hg h5=>?_,fun g hg=>⟨(h.ok.c g hg).1,fun e=>?_⟩,fun b hb1=>?_⟩,hr,hc,?_,?_,h.sc,ho,hl,⟨M,hM.kept (hk _ hM.lt n3.symm n8.symm (hnv _ (fF p))),hM2,hM3⟩,⟨M',hM'.kept (hk _ hM'.lt n4.symm n9.symm (hnv _ (eZ p))),fun k hk1=>?_⟩,fun b hb1=>Nat.lt_of_lt_of_le (h.lt b hb1) hs⟩
 ·rcases hv g hg with h1 | h1
  ·exact h.ok.o g h1 h5
  ·have:=hlt5 g h5;omega
 ·rcases hv g e with h1 | h1
  ·exact (h.ok.c g hg).2 h1
  ·have:=h.lt g hg;omega
 ·rcases hb1 with h1 | h1 | h1
  ·exact h.ok.lo b (.inl h1)
  ·rcases hv b h1 with h2 | h2
   ·exact h.ok.lo b (.inr (.inl h2))
   ·omega
  ·exact h.ok.lo b (.inr (.inr h1))
 ·rw[← h.sr];simp[readAt,kgs]
 ·rw[← h.sk];simp[canAt,kgs]
 ·rcases hM2' k hk1 with h1 | ⟨cs,v,h1,h2,h3,h4⟩
  ·exact .inl h1
  ·exact .inr ⟨cs,v,h1,h2,h3.same (fun g hg hl=>hcb g (h4 g hg) hl),h4⟩
theorem Jr{p:DP}{vo':Value}{w:World}(hv:∀ g,vo'.ownBlock=some g→p.vo.ownBlock=some g∨w.heap.size≤g):∀ b,DP.has { p with vo:=vo' } b→p.has b∨w.heap.size≤b:=fun b hb=>by
 rcases hb with h1 | h1 | h1
 ·exact .inl (.inl h1)
 ·rcases hv b h1 with h2 | h2
  ·exact .inl (.inr (.inl h2))
  ·exact .inr h2
 ·exact .inl (.inr (.inr h1))
theorem rO(w:World)(h:RM w base p n D)(hbase:base≤w.heap.size):
  Calls prog 52 #[.pointer (some ⟨p.B,0,none⟩)] w fun e w'=>e = .returned (.tuple #[])∧bm w base p n { D with op:=[] } w':=by
 obtain⟨c0,c1,c2,-⟩:=h.cells;have f1:=h.free 1;have he:=aK (aC h.k 1 1 om) (.slice none 0 0);have ho:=Ob.setAt w p.B 1 #[.slice none 0 0];obtain⟨n1,n2,-⟩:=h.ok.ne;obtain⟨o,hcl,him⟩:=(ho.im n2.symm h.la).clear underlying82 0;have ho2:=Ob.setBlock (setAt w p.B 1 #[.slice none 0 0]) p.bl o;have hr1:readAt (setAt w p.B 1 #[.slice none 0 0]) p.B 0 7=some (d7 { p with vo:=.slice none 0 0 } n D.down D.steps):=by
  rw[ae w p.B 0 7 _ h.r h.k 1 _ om sm];rfl
 have hk1:canAt (setAt w p.B 1 #[.slice none 0 0]) p.B 0 7=true:=by rw[ap _ _ _ _ _ _ _ (aC h.k 1 1 om)];exact h.k
 have HN:Hd (bm w base p n { D with op:=[] } (setBlock (w.setCell ⟨p.B,1,none⟩ (.slice none 0 0)) p.bl o)):=by
  rw[he];have hv:∀ g,(Value.slice none 0 0).ownBlock=some g→p.vo.ownBlock=some g∨w.heap.size≤g:=fun g hg=>(by cases hg)
  refine⟨{ p with vo:=.slice none 0 0 },rfl,h.re (.slice none 0 0) [] ?_ ?_ ?_ ?_ ?_ ?_ hv hbase,?_,Jr hv⟩
  ·rw[ho2.size,ho.size];exact Nat.le_refl _
  ·intro b _ h1 h2 _;exact (ho2.block b h2).trans (ho.block b h1)
  ·rw[ho2.readAt n2];exact hr1
  ·rw[ho2.canAt n2];exact hk1
  ·exact World.ownsRow_nil _ _ _ _
  ·exact him
  ·exact ((ho.kb zi).ob ho2 (.inl (gU p)))
 rw[← he] at hcl;clear h he ho n1 n2 him ho2 hr1 hk1
 go_in
 go_wp2
 go_end0
 exact⟨rfl,HN.o⟩
end
end
section
open Go.RowKit Go.ChangeMaps
section
variable {base n:Nat} {p:DP} {D:DM}
theorem I8(w:World)(k:Int)(x:Sj)(h:RM w base p n D)(hl:D.st.length=n)(hn:n≤5000)(hk:kH D k=false):
  Calls prog 172 #[.pointer (some ⟨p.B,0,none⟩),.int .i64 k,.agg (av x)] w fun e w'=>e = .returned (.bool false)∧Below w.heap.size w w':=by
 have hb:=ba (.cells (av x) 201) (Sy w);have H:=SM (h.below hb);have Hb:=SM hb;clear h hb
 go_in
 go_wp2_with fail
 refine (qw _ k H.o hl hn).mono ?_;rw[hk];rintro _ w2 ⟨rfl,rfl⟩
 go_wp2
 go_ret
 exact⟨rfl,Hb.o⟩
theorem zq(l:List (Int × Sj))(k:Int)(x:Sj)(v:Value)(hv:v = .int .i64 (l.length:Nat)):kJ (l ++ [(k,x)])=Tm (kJ l) k (some v):=by
 funext j
 unfold kJ Tm;rw[oU,hv]
 by_cases h:k=j
 ·subst h;simp
 ·rw[if_neg h,if_neg (fun e=>h e.symm)]
set_option maxRecDepth 100000 in
theorem Bh(w:World)(k:Int)(x:Sj)(h:RM w base p n D)(hl:D.st.length=n)(hn:n≤5000)(hk:kH D k=true)(hm:D.op.length≤100000)(hbase:base≤w.heap.size):
  Calls prog 172 #[.pointer (some ⟨p.B,0,none⟩),.int .i64 k,.agg (av x)] w fun e w'=>e = .returned (.bool true)∧bm w base p n { D with op:=D.op ++ [(k,x)] } w'∧∀ b,b ∈ p.cb→w'.heap[b]? = w.heap[b]?:=by
 obtain⟨i0,hi,hz,hs,hby⟩:=info_parts rm;obtain⟨n1,n2,n3,n4,n5,n6,n7,n8,n9,n10⟩:=h.ok.ne;obtain⟨W,hW⟩:=eY (w.alloc (.cells (av x) 201));have hb:Below w.heap.size w W:=by rw[← hW];exact ba _ (Sy w)
 have hrx:readAt W w.heap.size 0 64=some (av x):=by rw[← hW];simp[go_sem]
 have hsz:W.heap.size=w.heap.size+1:=by rw[← hW];simp
 have hk64:RV k:=by
  simp only[kH,Bool.and_eq_true,decide_eq_true_eq,hl] at hk;unfold RV;omega
 obtain⟨ad,cap,hv,_⟩:=aG h.op;have HH:=SM h;have H:=SM (h.below hb);have Hb:=SM hb;have Hx:=SM hrx;have HV:=SM hv;have Hsz:=SM hsz;have Hbase:=SM hbase;have H64:=SM hk64;have Hn:Hd (p.bl≠p.B∧w.heap.size≠p.B∧w.heap.size≠p.bl∧some w.heap.size≠p.vo.ownBlock):=⟨n2.symm,fun e=>by have:=ac h.r;omega,fun e=>by have:=h.la.lt;omega,fun e=>by have:=oZ h.op _ e.symm;omega⟩
 clear h hb hrx hv hsz hbase hk64 n1 n2 n3 n4 n5 n6 n7 n8 n9 n10
 go_in
 go_wp2_with fail
 clear hW;refine (qw _ k H.o hl hn).mono ?_;rw[hk];rintro _ w2 ⟨rfl,rfl⟩
 go_wp2_with fail
 obtain⟨o,hst,him⟩:=H.o.la.drew.store H64.o underlying82 (.int .i64 (D.op.length:Nat));have Hst:=SM hst;have Him:=SM him;clear hst him hk hl;refine yW (tk 0 9 (.run 9 (.run 10 .done))) (fun u=>readAt u p.B 0 7=some (d7 p n D.down D.steps)) H.o.r ?_
 repeat((first|refine yO ?_|refine yM ?_|refine yF rfl rfl (fun w' hC'=>by obtain⟨-,c1,c2,-⟩:=eH hC';go_simp;first|done|exact rfl) ?_);walk_nrm)
 rw[HV.o];refine fJ rfl rfl ?_;apply Exists.intro;apply Exists.intro;refine⟨?_,?_⟩;(go_simp;exact⟨rfl,rfl⟩);refine kC H.o.r ?_;walk_nrm;have hst:=Hst.o;refine dd rfl rfl (fun K hK=>?_);go_simp;have Ho3:=SM (Ob.setBlock W.drew p.bl o);have hr3:readAt (setBlock W.drew p.bl o) p.B 0 7=some (d7 p n D.down D.steps):=by rw[Ho3.o.readAt Hn.o.1.symm];exact H.o.r
 refine hK _ _ (fun u=>readAt u p.B 0 7=some (d7 p n D.down D.steps)) (fun _ h=>h) hr3 ?_;clear hK K hst
 try walk_nrm
 refine al ?_;have hw3:∀ b,b < w.heap.size→b≠p.bl→(setBlock W.drew p.bl o).heap[b]? = w.heap[b]?:=fun b h1 h2=>(Ho3.o.block b h2).trans (Hb.o.block b h1);have Hw3:=SM hw3;have Hs3:Hd ((setBlock W.drew p.bl o).heap.size=w.heap.size+1):=Ho3.o.size.trans Hsz.o;have HK3:Hd (Kb p.has w (setBlock W.drew p.bl o)):=((Kb.of_below (X:=p.has) Hb.o).drew).ob Ho3.o (.inl (gU p));have Hr3:=SM hr3;have Hk3:Hd (canAt (setBlock W.drew p.bl o) p.B 0 7=true):=by show _=_;rw[Ho3.o.canAt Hn.o.1.symm];exact H.o.k
 have Hx3:Hd (readAt (setBlock W.drew p.bl o) w.heap.size 0 64=some (av x)):=by show _=_;rw[Ho3.o.readAt Hn.o.2.2.1];exact Hx.o
 have hov:∀ g,p.vo.ownBlock=some g→g≠p.bl:=HH.o.ok.o' (gU p);have Hv3:=SM (Ho3.o.own H.o.op.drew hov);have Him3:=SM Him.o;have HvB:Hd (some p.B≠p.vo.ownBlock):=fun e=>HH.o.ok.o p.B e.symm (fE p);have HvL:Hd (some p.bl≠p.vo.ownBlock):=fun e=>HH.o.ok.o p.bl e.symm (gU p);have HB:Hd (p.B < w.heap.size):=ac HH.o.r;have HL:Hd (p.bl < w.heap.size):=HH.o.la.lt;clear hw3 hr3 Ho3 Him Hst hov;generalize setBlock W.drew p.bl o=w3 at *
 clear H Hb Hx Hsz
 go_wp2
 refine yW (tk 0 8 (.run 8 (.run 9 (tk 10 2 (.brk 12 .done))))) (fun u=>readAt u p.B 0 7=some (d7 p n D.down D.steps)∧readAt u w.heap.size 0 64=some (av x)) ⟨Hr3.o,Hx3.o⟩ ?_
 repeat((first|refine yO ?_|refine yM ?_|refine yF rfl rfl (fun w' hC'=>by have hrx:=hC'.2;obtain⟨-,c1,c2,-⟩:=eH hC'.1;go_simp;first|done|exact rfl) ?_);walk_nrm)
 refine fJ rfl rfl ?_;apply Exists.intro;apply Exists.intro;refine⟨?_,?_⟩;(go_simp;exact⟨rfl,rfl⟩);have hba:=ba (.cells (wv k x) 203) (Sy w3);have hb4:=hba.drew;have Hr4:=SM ((ak hb4 (ac Hr3.o) 0 7).trans Hr3.o);have Hx4:=SM ((ak hb4 (ac Hx3.o) 0 64).trans Hx3.o);have Hb4:=SM hb4;have hnew:readAt (w3.alloc (.cells (wv k x) 203)).drew w3.heap.size 0 65=some (wv k x):=by simp[go_sem]
 have Hnew:=SM hnew;have Hv4:=SM (ah Hv3.o hb4);clear hba hb4 hnew;have Hw4:Hd (∀ b,b < w.heap.size→b≠p.bl→(w3.alloc (.cells (wv k x) 203)).drew.heap[b]? = w.heap[b]?):=fun b h1 h2=>(Hb4.o.block b (by rw[Hs3.o];omega)).trans (Hw3.o b h1 h2)
 have HK4:Hd (Kb p.has w (w3.alloc (.cells (wv k x) 203)).drew):=HK3.o.blw Hb4.o;have Him4:Hd (IM (w3.alloc (.cells (wv k x) 203)).drew p.bl (Tm (kJ D.op) k (some (.int .i64 (D.op.length:Nat))))):=Him3.o.kept (Hb4.o.block _ Him3.o.lt);have Hk4:Hd (canAt (w3.alloc (.cells (wv k x) 203)).drew p.B 0 7=true):=(ay Hb4.o (ac Hr3.o) 0 7).trans Hk3.o;have Hs4:Hd (w.heap.size≤(w3.alloc (.cells (wv k x) 203)).drew.heap.size):=by have h1:=Hs3.o;have h2:=Hb4.o.size;show _≤_;omega
 refine kC ⟨Hr4.o,Hx4.o⟩ ?_;walk_nrm;have hHs:(w3.alloc (.cells (wv k x) 203)).drew.heap.size=w3.heap.size+1:=sm;have Hsz4:=SM hHs;clear hHs Hr3 Hx3 Hw3 HK3 Him3 Hk3 Hv3 Hb4;have hd3:w.heap.size+1=w3.heap.size:=Hs3.o.symm;have Hd3:=SM hd3;clear hd3;generalize (w3.alloc (.cells (wv k x) 203)).drew=w4 at *;generalize w3.heap.size=N3 at *;refine dd rfl rfl (fun K hK=>?_);refine wp_append_lies _ (.tmp 25) (.tmp 29) 81 rfl base 203 i0 _ 65 72 underlying81 hi hz hs hby (by simp[Value.cells]) dc _ D.op.length _ rfl Hv4.o ⟨N3,0,none⟩ 1 1 (wv k x).toList rfl ?d1 ?d2 ?d3 dc ?d4 ?d5 ?d6 (N3+1) Hsz4.o ?_
 case d1=>simp
 case d2=>exact BL Hnew.o
 case d3=>simpa using J1 k x
 case d4=>simp only[maxLen];omega
 case d5=>omega
 case d6=>have h1:=Hs4.o;have h2:=Hbase.o;omega
 intro g cap' w5 hown5 hgr5 hloc hlt5;have hr5:readAt w5 p.B 0 7=some (d7 p n D.down D.steps):=by
  rw[← Hr4.o];simp[readAt,hgr5.block p.B (Nat.lt_of_lt_of_le HB.o Hs4.o) HvB.o]
 have hk5:canAt w5 p.B 0 7=true:=by
  rw[← Hk4.o];simp[canAt,hgr5.block p.B (Nat.lt_of_lt_of_le HB.o Hs4.o) HvB.o]
 have hx5:readAt w5 w.heap.size 0 64=some (av x):=by
  rw[← Hx4.o];simp[readAt,hgr5.block w.heap.size (ac Hx4.o) Hn.o.2.2.2]
 refine hK _ _ (fun u=>readAt u p.B 0 7=some (d7 p n D.down D.steps)∧readAt u w.heap.size 0 64=some (av x)) (fun _ h=>h) ⟨hr5,hx5⟩ ?_;clear hK K
 walk_nrm
 have Hr5:=SM hr5;have Hk5:=SM hk5;clear hr5 hk5 hx5;have Hw5:Hd (∀ b,b < w.heap.size→b≠p.bl→some b≠p.vo.ownBlock→w5.heap[b]? = w.heap[b]?):=fun b h1 h2 h3=>(hgr5.block b (Nat.lt_of_lt_of_le h1 Hs4.o) h3).trans (Hw4.o b h1 h2);have HK5:Hd (Kb p.has w w5):=HK4.o.trans (Kb.grown (X:=p.has) hgr5 (fun b hb=>.inr (.inl hb))) (fun i hi=>.inl hi);have Hs5:Hd (w.heap.size≤w5.heap.size):=Nat.le_trans Hs4.o hgr5.size
 have Him5:Hd (IM w5 p.bl (kJ (D.op ++ [(k,x)]))):=by
  rw[zq _ _ _ _ rfl];exact Him4.o.kept (hgr5.block _ (Nat.lt_of_lt_of_le HL.o Hs4.o) HvL.o)
 have Hloc:=SM hloc;have hown6:w5.ownsRow base 203 65 (.slice (some ⟨g,0,none⟩) (D.op.length+1) cap') (D.op ++ [(k,x)]).length (aZ To (D.op ++ [(k,x)])):=by
  rw[iB,List.length_append];exact hown5
 have Hown6:=SM hown6;clear hown5 hown6 hgr5 hloc hlt5 Hr4 Hx4 Hw4 HK4 Him4 Hk4 Hs4 Hv4 Hnew Hsz4
 repeat(refine yA ?_;walk_nrm)
 have f1:w5.frozen? ⟨p.B,1,none⟩=false:=by have:=bq Hk5.o 1;rwa [Nat.zero_add] at this
 obtain⟨-,c1,-⟩:=eH Hr5.o;refine et rfl rfl (fun K hK=>?_);go_simp;refine hK _ _ (fun _=>True) trivial ?_;clear hK K f1 c1
 try walk_nrm
 refine al ?_;have he:=aK (aC Hk5.o 1 1 om) (.slice (some ⟨g,0,none⟩) (D.op.length+1) cap');have ho6:=Ob.setAt w5 p.B 1 #[.slice (some ⟨g,0,none⟩) (D.op.length+1) cap'];have hv:∀ b,(Value.slice (some ⟨g,0,none⟩) (D.op.length+1) cap').ownBlock=some b→p.vo.ownBlock=some b∨w.heap.size≤b:=by
  intro b hb;have hb':g=b:=by simpa [Value.ownBlock] using hb
  subst hb'
  rcases Hloc.o with h1 | h1
  ·exact .inl h1
  ·right;have:=Hd3.o;omega
 have hgB:∀ b,(Value.slice (some ⟨g,0,none⟩) (D.op.length+1) cap').ownBlock=some b→b≠p.B:=by
  rintro b hb rfl
  rcases hv _ hb with h1 | h1
  ·exact HvB.o h1.symm
  ·have:=HB.o;omega
 have HN:Hd (bm w base p n { D with op:=D.op ++ [(k,x)] } (w5.setCell ⟨p.B,1,none⟩ (.slice (some ⟨g,0,none⟩) (D.op.length+1) cap'))):=by
  rw[he];refine⟨{ p with vo:=.slice (some ⟨g,0,none⟩) (D.op.length+1) cap' },rfl,HH.o.re _ (D.op ++ [(k,x)]) ?_ ?_ ?_ ?_ ?_ ?_ hv Hbase.o,?_,Jr hv⟩
  ·rw[ho6.size];exact Hs5.o
  ·intro b h1 h2 h3 h4;exact (ho6.block b h2).trans (Hw5.o b h1 h3 h4)
  ·rw[ae w5 p.B 0 7 _ Hr5.o Hk5.o 1 _ om sm];rfl
  ·rw[ap _ _ _ _ _ _ _ (aC Hk5.o 1 1 om)];exact Hk5.o
  ·exact ho6.own Hown6.o hgB
  ·exact ho6.im Hn.o.1 Him5.o
  ·exact HK5.o.ob ho6 zi
 have HN2:Hd (∀ b,b ∈ p.cb→(w5.setCell ⟨p.B,1,none⟩ (.slice (some ⟨g,0,none⟩) (D.op.length+1) cap')).heap[b]? = w.heap[b]?):=by
  show ∀ _,_
  rw[he];intro b hb;have hc:=HH.o.ok.c b hb;exact (ho6.block b (fun e=>hc.1 (e ▸ fE p))).trans (Hw5.o b (HH.o.lt b hb) (fun e=>hc.1 (e ▸ gU p)) (fun e=>hc.2 e.symm))
 clear he ho6 hv hgB;generalize w5.setCell ⟨p.B,1,none⟩ (.slice (some ⟨g,0,none⟩) (D.op.length+1) cap')=w6 at *
 go_wp2
 go_ret
 exact⟨rfl,HN.o,HN2.o⟩
end
end
section
open Go.RowKit Go.ChangeMaps
section
variable {base n:Nat} {p:DP} {D:DM}
theorem RM.reS{w u:World}(h:RM w base p n D)(g cap:Nat)(st':List Sj)(hs:w.heap.size≤u.heap.size)
  (hk:∀ b,b < w.heap.size→b≠p.B→u.heap[b]? = w.heap[b]?)
  (hr:readAt u p.B 0 7=some (d7 { p with gs:=g,gc:=cap } n D.down D.steps)) (hc:canAt u p.B 0 7=true)
  (hg:w.heap.size≤g) (hb:base≤w.heap.size) (hsr:readAt u g 0 (n * 64)=some (aZ av st').toArray) (hsk:canAt u g 0 (n * 64)=true) (hsc:n≤cap∧cap≤maxLen) :
  RM u base { p with gs:=g,gc:=cap } n { D with st:=st' }:=by
 obtain⟨n1,n2,n3,n4,n5,n6,n7,n8,n9,n10⟩:=h.ok.ne;obtain⟨M,hM,hM2,hM3⟩:=h.fa;obtain⟨M',hM',hM2'⟩:=h.cr;have hlt5:∀ b,p.has b→b < w.heap.size:=h.has_lt;have hne:∀ b,p.has b→b≠g:=fun b hb e=>by have:=hlt5 b hb;omega
 have e5:∀ b,b ∈ DP.five { p with gs:=g,gc:=cap }→b=g∨(b ∈ p.five∧b≠g):=by
  intro b hb;simp only[DP.five,List.mem_cons,List.not_mem_nil,or_false] at hb ⊢
  by_cases e:b=g
  ·exact .inl e
  ·right
   refine⟨?_,e⟩
   rcases hb with h1 | h1 | h1 | h1 | h1
   ·exact .inl h1
   ·exact absurd h1 e
   ·exact .inr (.inr (.inl h1))
   ·exact .inr (.inr (.inr (.inl h1)))
   ·exact .inr (.inr (.inr (.inr h1)))
 have hcb:∀ b,b ∈ p.cb→b < w.heap.size→u.heap[b]? = w.heap[b]?:=fun b hb1 hb2=>hk b hb2 (fun e=>(h.ok.c b hb1).1 (e ▸ fE p));have gB:=hne p.B (.inl (fE p));have gl:=hne p.bl (.inl (gU p));have gf:=hne p.bf (.inl (fF p));have gc:=hne p.bc (.inl (eZ p));refine⟨⟨?_,fun b hb1 h5=>?_,fun b hb1=>⟨fun h5=>?_,(h.ok.c b hb1).2⟩,fun b hb1=>?_⟩,hr,hc,hsr,hsk,hsc,bu h.op (fun b hb1 hl=>hk b hl (h.ok.o' (fE p) b hb1)),h.la.kept (hk _ h.la.lt n2.symm),⟨M,hM.kept (hk _ hM.lt n3.symm),hM2,hM3⟩,⟨M',hM'.kept (hk _ hM'.lt n4.symm),fun k hk1=>?_⟩,fun b hb1=>Nat.lt_of_lt_of_le (h.lt b hb1) hs⟩
 ·simp only[DP.five,List.nodup_cons,List.mem_cons,List.not_mem_nil,or_false,not_or,List.nodup_nil,and_true,not_false_eq_true];exact⟨⟨gB,n2,n3,n4⟩,⟨gl.symm,gf.symm,gc.symm⟩,⟨n8,n9⟩,n10⟩
 ·rcases e5 b h5 with e | ⟨e,_⟩
  ·exact hne b (.inr (.inl hb1)) e
  ·exact h.ok.o b hb1 e
 ·rcases e5 b h5 with e | ⟨e,_⟩
  ·exact hne b (.inr (.inr hb1)) e
  ·exact (h.ok.c b hb1).1 e
 ·rcases hb1 with h1 | h1 | h1
  ·rcases e5 b h1 with e | ⟨e,_⟩
   ·omega
   ·exact h.ok.lo b (.inl e)
  ·exact h.ok.lo b (.inr (.inl h1))
  ·exact h.ok.lo b (.inr (.inr h1))
 ·rcases hM2' k hk1 with h1 | ⟨cs,v,h1,h2,h3,h4⟩
  ·exact .inl h1
  ·exact .inr ⟨cs,v,h1,h2,h3.same (fun g hg hl=>hcb g (h4 g hg) hl),h4⟩
theorem DK{p:DP}{g cap:Nat}{w:World}(hg:w.heap.size≤g):∀ b,DP.has { p with gs:=g,gc:=cap } b→p.has b∨w.heap.size≤b:=fun b hb=>by
 rcases hb with h1 | h1 | h1
 ·simp only[DP.five,List.mem_cons,List.not_mem_nil,or_false] at h1
  rcases h1 with h1 | h1 | h1 | h1 | h1
  ·exact .inl (.inl (h1 ▸ fE p))
  ·exact .inr (h1 ▸ hg)
  ·exact .inl (.inl (h1 ▸ gU p))
  ·exact .inl (.inl (h1 ▸ fF p))
  ·exact .inl (.inl (h1 ▸ eZ p))
 ·exact .inl (.inr (.inl h1))
 ·exact .inl (.inr (.inr h1))
set_option maxRecDepth 100000 in
theorem fx(w:World)(vc:Value)(cs:List Int)(m:Nat)(h:RM w base p n D)(hD:R0 D n m)(hm:m≤100000)(hn:n≤5000)(hbase:base≤w.heap.size)(hc:Se w vc cs.length 1 (cs.map (Value.int .i64))):
  Calls prog 29 #[.pointer (some ⟨p.B,0,none⟩),vc] w fun e w'=>e = .returned (.tuple #[])∧bm w base p n (de D cs) w':=by
 have H:=SM h;have Hc:=SM hc;have HD:=SM hD;have Hbase:=SM hbase;clear h hc hbase hD
 go_in
 go_wp2
 refine yW (tk 0 10 (.run 10 (tk 11 2 (.brk 13 .done)))) (fun u=>readAt u p.B 0 7=some (d7 p n D.down D.steps)) H.o.drew.r ?_
 repeat((first|refine yO ?_|refine yM ?_|refine yF rfl rfl (fun w' hC'=>by obtain⟨c0,c1,-⟩:=eH hC';go_simp;first|done|exact rfl) ?_);walk_nrm)
 refine yR ?_;refine (FN p.gs 0 p.gc p.vo vc n D.op.length cs.length D.st D.op cs _ hn HD.o.len (Nat.le_trans HD.o.few hm) rfl rfl H.o.drew.sr (aG H.o.drew.op) (Hc.o.below (Below.refl _ _).drew) HD.o.at_).mono ?_;rintro _ w2 ⟨⟨v,rfl,g,cap,rfl,hg,hcap,hmax,_,hrg,hkg⟩,hb2⟩;have hb2':Below w.heap.size w w2:=bt (Below.refl _ _).drew hb2;have hr2:=(ak hb2' (ac H.o.r) 0 7).trans H.o.r;have Hr2:=SM hr2;have Hk2:=SM ((ay hb2' (ac H.o.r) 0 7).trans H.o.k)
 have Hb2:=SM hb2';have Hg:Hd (w.heap.size≤g):=hg;have Hrg:=SM hrg;have Hkg:=SM hkg;have Hcap:Hd (n≤cap∧cap≤maxLen):=⟨hcap,hmax⟩;clear hb2 hb2' hr2 hg hrg hkg hcap hmax;refine kS Hr2.o ?_;walk_nrm
 repeat(refine yA ?_;walk_nrm)
 have f0:w2.frozen? ⟨p.B,0,none⟩=false:=by have:=bq Hk2.o 0;rwa [Nat.zero_add] at this
 obtain⟨c0,-⟩:=eH Hr2.o;refine et rfl rfl (fun K hK=>?_);go_simp;refine hK _ _ (fun _=>True) trivial ?_;clear hK K f0 c0
 try walk_nrm
 refine al ?_;have he:=aK (aC Hk2.o 0 1 om) (.slice (some ⟨g,0,none⟩) n cap);have ho:=Ob.setAt w2 p.B 0 #[.slice (some ⟨g,0,none⟩) n cap];have hgB:g≠p.B:=fun e=>by have h1:=ac H.o.r;have h2:=Hg.o;omega
 have HA:Hd (RM (w2.setCell ⟨p.B,0,none⟩ (.slice (some ⟨g,0,none⟩) n cap)) base { p with gs:=g,gc:=cap } n { D with st:=bC D.st D.op (kx cs) D.op.length }):=by
  show RM _ _ _ _ _
  rw[he];refine H.o.reS g cap _ ?_ ?_ ?_ ?_ Hg.o Hbase.o ?_ ?_ Hcap.o
  ·rw[ho.size];exact Hb2.o.size
  ·intro b h1 h2;exact (ho.block b h2).trans (Hb2.o.block b h1)
  ·rw[ae w2 p.B 0 7 _ Hr2.o Hk2.o 0 _ om sm];rfl
  ·rw[ap _ _ _ _ _ _ _ (aC Hk2.o 0 1 om)];exact Hk2.o
  ·rw[ho.readAt hgB];exact Hrg.o
  ·rw[ho.canAt hgB];exact Hkg.o
 have HK:Hd (Kb p.has w (w2.setCell ⟨p.B,0,none⟩ (.slice (some ⟨g,0,none⟩) n cap))):=by
  show Kb _ _ _
  rw[he];exact (Kb.of_below (X:=p.has) Hb2.o).ob ho zi
 have Hsz3:Hd (base≤(w2.setCell ⟨p.B,0,none⟩ (.slice (some ⟨g,0,none⟩) n cap)).heap.size):=Nat.le_trans Hbase.o HK.o.size;clear he ho hgB Hr2 Hk2 Hb2 Hrg Hkg Hcap;generalize w2.setCell ⟨p.B,0,none⟩ (.slice (some ⟨g,0,none⟩) n cap)=w3 at *
 go_wp2_with fail
 refine (rO w3 HA.o Hsz3.o).mono ?_;rintro _ w4 ⟨rfl,p4,hB4,hA4,hK4,hh4⟩;have hh4':∀ b,p4.has b→p.has b∨w.heap.size≤b:=fun b hb=>by
  rcases hh4 b hb with h1 | h1
  ·exact DK Hg.o b h1
  ·exact .inr (Nat.le_trans HK.o.size h1)
 have HK4:Hd (Kb p.has w w4):=HK.o.trans hK4 (DK Hg.o);have f3:=hA4.free 3;have he:=aK (aC hA4.k 3 1 om) (.bool true);have hB4':p4.B=p.B:=hB4;have HN:Hd (bm w base p n (de D cs) (w4.setCell ⟨p4.B,3,none⟩ (.bool true))):=by
  show bm _ _ _ _ _ _
  rw[he];exact⟨p4,hB4',hA4.setDown true,HK4.o.trans ((Ob.setAt w4 p4.B 3 _).kb (X:=p4.has) zi) hh4',hh4'⟩
 obtain⟨-,-,-,c3,-⟩:=hA4.cells;rw[hB4'] at f3 c3 HN;clear he hA4 hK4 hh4 hh4' HK4 HK Hsz3 HA Hg hB4 hB4'
 go_wp2
 go_end0
 exact⟨rfl,HN.o⟩
end
end
section
open Go.RowKit Go.ChangeMaps
def mA(c:Int):Value:=.iface 34 (.int .i64 c)
def lf(c k:Int):Value:=.iface 143 (.agg #[.int .i64 c,.int .i64 k])
def fg(c k:Int):Value:=if c=0 then .nilIface else if c=15 then lf 15 k else mA c
theorem xu(c k:Int)(w:World):
  Calls prog 44 #[.int .i64 c,.int .i64 k] w fun e w'=>e = .returned (lf c k)∧w=w':=by
 go_in
 go_wp2
 go_ret
 exact⟨rfl,rfl⟩
section
variable {base n:Nat} {p:DP} {D:DM}
theorem bm.of_kb{w w1 w':World}{D':DM}(hb:Kb p.has w w1)(h:bm w1 base p n D' w'):bm w base p n D' w' :=
 bm.trans rfl hb (fun b hb=>.inl hb) h
set_option maxRecDepth 100000 in
theorem kz(w:World)(k:Int)(x:Sj)(m:Nat)(h:RM w base p n D)(hD:R0 D n m)(hm:m+2≤100000)(hn:n≤5000)(hbase:base≤w.heap.size):
  Calls prog 118 #[.pointer (some ⟨p.B,0,none⟩),.int .i64 k,.agg (av x)] w fun e w'=>e = .returned (fg (bE D k x).2 k)∧bm w base p n (bE D k x).1 w':=by
 obtain⟨W,hW⟩:=eY (w.alloc (.cells (av x) 201));have hb:Below w.heap.size w W:=by rw[← hW];exact ba _ (Sy w)
 have hrx:readAt W w.heap.size 0 64=some (av x):=by rw[← hW];simp[go_sem]
 have hA:=h.below hb;obtain⟨-,-,-,c3,-⟩:=hA.cells;have hlB:∀ b,p.has b→b < w.heap.size:=h.has_lt;have HlB:=SM hlB;have HA:=SM hA;have Hb:=SM hb;have Hx:=SM hrx;have HD:=SM hD;have Hbase:=SM hbase;clear h hb hrx hA hlB hD hbase;cases hdn:D.down with
 | true =>
  have HM:Hd (bE D k x=(D,12)):=by unfold Hd bE;rw[if_pos hdn]
  rw[hdn] at c3;clear hdn
  go_in
  go_wp2
  go_ret
  rw[HM.o];exact⟨rfl,p,rfl,HA.o,Kb.of_below Hb.o,fun b hb=>.inl hb⟩
 | false =>
  rw[hdn] at c3;have Hdn:=SM hdn;clear hdn
  go_in
  go_wp2_with fail
  clear hW c3;refine (tJ W HA.o HD.o.s0 (by have:=HD.o.s1;omega)).mono ?_
  rintro _ w2 ⟨hout,hA2,hK2⟩;have Hx2:Hd (readAt w2 w.heap.size 0 64=some (av x)):=by
   have h1:w2.heap[w.heap.size]? = W.heap[w.heap.size]?:=hK2.block _ (ac Hx.o) (fun e=>by have:=HlB.o _ e;omega)
   show _=_
   rw[← Hx.o];simp[readAt,h1]
  have HK2:Hd (Kb p.has w w2):=(Kb.of_below (X:=p.has) Hb.o).trans hK2 (fun i hi=>.inl hi);have HA2:=SM hA2;have Hb2:Hd (base≤w2.heap.size):=Nat.le_trans Hbase.o HK2.o.size;have hx2:=Hx2.o;have HT:=SM HD.o.tick;have Hfew:Hd (D.op.length≤100000):=by have:=HD.o.few;show _≤_;omega
  clear hA2 hK2 Hx HA Hb
  rcases hout with ⟨cs,v,e1,rfl,e2⟩ | ⟨e1,e2,rfl⟩ | ⟨e1,e2,rfl⟩
  ·have HM:Hd (bE D k x=(de (pU (cX D) k x) cs,12)):=by unfold Hd bE;rw[if_neg (by rw[Hdn.o];decide),e1]
   have HE:=SM e2;clear e1 e2
   go_wp2_with fail
   clear hx2;cases hk:kH (cX D) k with
   | false =>
    have Hadd:Hd (pU (cX D) k x=cX D):=by unfold Hd pU;rw[hk];rfl
    refine (I8 w2 k x HA2.o HT.o.len hn hk).mono ?_;rintro _ w3 ⟨rfl,hb3⟩;have HA3:=SM (HA2.o.below hb3);have HK3:=SM (HK2.o.blw hb3);have Hb3:Hd (base≤w3.heap.size):=Nat.le_trans Hb2.o hb3.size;have Hc3:Hd (Se w3 v cs.length 1 (cs.map (Value.int .i64))):=HE.o.1.below (hb3);clear hb3 HA2 HK2 HE hk Hx2
    go_wp2_with fail
    refine (fx w3 v cs (m+1) HA3.o HT.o om hn Hb3.o Hc3.o).mono ?_;rintro _ w4 ⟨rfl,hN⟩;have HN:=SM (bm.of_kb HK3.o hN);clear hN
    go_wp2
    go_ret
    rw[HM.o,Hadd.o];exact⟨rfl,HN.o⟩
   | true =>
    have hadd:pU (cX D) k x={ cX D with op:=(cX D).op ++ [(k,x)] }:=by unfold pU;rw[if_pos hk]
    have HT2:Hd (R0 { cX D with op:=(cX D).op ++ [(k,x)] } n (m+2)):=by have:=HT.o.add k x;rw[hadd] at this;exact this
    have Hadd:=SM hadd;clear hadd;refine (Bh w2 k x HA2.o HT.o.len hn hk Hfew.o Hb2.o).mono ?_;rintro _ w3 ⟨rfl,⟨p3,hB3,hA3,hK3,hh3⟩,hcb⟩;have Hc3:Hd (Se w3 v cs.length 1 (cs.map (Value.int .i64))):=HE.o.1.same (fun g hg hl=>hcb g (HE.o.2 g hg));have HA3:=SM hA3;have HK3:Hd (Kb p.has w w3):=HK2.o.trans hK3 (fun i hi=>.inl hi);have Hb3:Hd (base≤w3.heap.size):=Nat.le_trans Hb2.o hK3.size;have Hh3:Hd (∀ b,p3.has b→p.has b∨w.heap.size≤b):=fun b hb=>by
     rcases hh3 b hb with h1 | h1
     ·exact .inl h1
     ·exact .inr (Nat.le_trans HK2.o.size h1)
    clear hA3 hK3 hh3 hcb HA2 HK2 HE hk Hx2;have HB3:=SM hB3
    go_wp2_with fail
    rw[← hB3];clear hB3;refine (fx w3 v cs (m+2) HA3.o HT2.o om hn Hb3.o Hc3.o).mono ?_;rintro _ w4 ⟨rfl,hN⟩;have HN:=SM (bm.trans HB3.o HK3.o Hh3.o hN);clear hN
    go_wp2
    go_ret
    rw[HM.o,Hadd.o];exact⟨rfl,HN.o⟩
  ·have HM:Hd (bE D k x=(cX D,11)):=by unfold Hd bE;rw[if_neg (by rw[Hdn.o];decide),e1];simp only;rw[if_pos e2]
   clear e1 e2
   go_wp2
   go_ret
   rw[HM.o];exact⟨rfl,p,rfl,HA2.o,HK2.o,fun b hb=>.inl hb⟩
  ·have hnf : ¬ SL D.plan (D.steps+1)=true:=by rw[e2];decide
   cases hk:kH (cX D) k with
   | false =>
    have HM:Hd (bE D k x=(cX D,15)):=by unfold Hd bE;rw[if_neg (by rw[Hdn.o];decide),e1];simp only;rw[if_neg hnf,if_neg (by rw[← mJ,hk];decide)]
    clear e1 e2 hnf
    go_wp2_with fail
    clear hx2;refine (I8 w2 k x HA2.o HT.o.len hn hk).mono ?_;rintro _ w3 ⟨rfl,hb3⟩;have HA3:=SM (HA2.o.below hb3);have HK3:=SM (HK2.o.blw hb3);clear hb3 HA2 HK2 hk Hx2
    go_wp2_with fail
    refine (xu 15 k _).mono ?_;rintro _ w4 ⟨rfl,rfl⟩
    go_wp2
    go_ret
    rw[HM.o];exact⟨rfl,p,rfl,HA3.o,HK3.o,fun b hb=>.inl hb⟩
   | true =>
    have hadd:pU (cX D) k x={ cX D with op:=(cX D).op ++ [(k,x)] }:=by unfold pU;rw[if_pos hk]
    have HM:Hd (bE D k x=({ cX D with op:=(cX D).op ++ [(k,x)] },0)):=by unfold Hd bE;rw[if_neg (by rw[Hdn.o];decide),e1];simp only;rw[if_neg hnf,if_pos (by rw[← mJ,hk]),hadd]
    clear e1 e2 hnf hadd
    go_wp2_with fail
    clear hx2;refine (Bh w2 k x HA2.o HT.o.len hn hk Hfew.o Hb2.o).mono ?_;rintro _ w3 ⟨rfl,hN,_⟩;have HN:=SM (bm.of_kb HK2.o hN);clear hN HA2 hk Hx2
    go_wp2
    go_ret
    rw[HM.o];exact⟨rfl,HN.o⟩
end
end
section
open Go.RowKit Go.ChangeMaps
section
variable {base n:Nat} {p:DP} {D:DM}
theorem RM.lookL{w:World}(h:RM w base p n D)(k:Int)(h64:RV k):
  (Instr.lookup 82 (.map (some p.bl)) (.int .i64 k) true).run prog w = .ok (.tuple #[(kJ D.op k).getD (.int .i64 0),.bool (kJ D.op k).isSome]) w :=
 h.la.look h64 underlying82 (I1 w) true
set_option maxRecDepth 100000 in
theorem xk(w:World)(k:Int)(h:RM w base p n D)(hl:D.st.length=n)(hn:n≤5000)(hno:D.down=true∨(D.down=false∧kH D k=false)):
  Calls prog 121 #[.pointer (some ⟨p.B,0,none⟩),.int .i64 k] w fun e w'=>e = .returned (.tuple #[.agg (av (eD D k).1),fg (eD D k).2 k])∧Below w.heap.size w w':=by
 obtain⟨W,hW⟩:=eY (w.alloc (.cells (av cB) 201));have hb:Below w.heap.size w W:=by rw[← hW];exact ba _ (Sy w)
 have hk:canAt W w.heap.size 0 64=true:=by rw[← hW];simp[go_sem]
 have hA:=h.below hb;obtain⟨-,-,-,c3,-⟩:=hA.cells;have HA:=SM hA;have Hb:=SM hb;have Hk:=SM hk;clear h hb hA
 rcases hno with hdn | ⟨hdn,hh⟩
 ·have HM:Hd (eD D k=(cB,12)):=by unfold Hd eD;rw[if_pos hdn]
  rw[hdn] at c3;clear hdn
  go_in
  go_wp2
  rw[HM.o];refine bodyPost_ret (cu rfl _ _ w.heap.size 0 (av cB) _ rfl rfl ?_) rfl ⟨rfl,aa Hb.o (Nat.le_refl _) _ _⟩;exact am _ _ _ _ _ sm Hk.o
 ·have HM:Hd (eD D k=(cB,15)):=by unfold Hd eD;rw[if_neg (by rw[hdn];decide),if_pos hh]
  rw[hdn] at c3;clear hdn
  go_in
  go_wp2_with fail
  clear hW c3 hk;refine (qw W k HA.o hl hn).mono ?_;rw[hh];rintro _ w2 ⟨rfl,rfl⟩
  go_wp2_with fail
  refine (xu 15 k _).mono ?_;rintro _ w3 ⟨rfl,rfl⟩;have hk:=Hk.o
  go_wp2
  rw[HM.o];refine bodyPost_ret (cu rfl _ _ w.heap.size 0 (av cB) _ rfl rfl ?_) rfl ⟨rfl,aa Hb.o (Nat.le_refl _) _ _⟩;exact am _ _ _ _ _ sm Hk.o
set_option maxRecDepth 100000 in
theorem Cf(w:World)(j m:Nat)(h:RM w base p n D)(hD:R0 D n m)(hm:m≤100000)(hn:n≤5000)(hdn:D.down=false)(hh:kH D (j:Int)=true):
  Calls prog 121 #[.pointer (some ⟨p.B,0,none⟩),.int .i64 (j:Int)] w fun e w'=>e = .returned (.tuple #[.agg (av (eD D j).1),fg (eD D j).2 j])∧Below w.heap.size w w':=by
 obtain⟨W,hW⟩:=eY (w.alloc (.cells (av cB) 201));have hb:Below w.heap.size w W:=by rw[← hW];exact ba _ (Sy w)
 have hk:canAt W w.heap.size 0 64=true:=by rw[← hW];simp[go_sem]
 have hA:=h.below hb;obtain⟨c0,c1,c2,c3,-⟩:=hA.cells;have hjn:j < n:=by
  simp only[kH,Bool.and_eq_true,decide_eq_true_eq,hD.len] at hh;omega
 have h64:RV (j:Int):=by unfold RV;omega
 have hlk:=hA.lookL (j:Int) h64;have HA:=SM hA;have Hb:=SM hb;have Hk:=SM hk;have HD:=SM hD;have Hc0:=SM c0;have Hc1:=SM c1;have Hc2:=SM c2;have Hlk:=SM hlk;have HM:Hd (eD D j=(vq D.op j (D.st.getD j cB),0)):=by unfold Hd eD;rw[if_neg (by rw[hdn];decide),if_neg (by rw[hh];decide)];rfl
 rw[hdn] at c3;clear h hb hA hD c0 c1 c2 hlk hdn
 go_in
 go_wp2_with fail
 clear hW c3 hk;refine (qw W j HA.o HD.o.len hn).mono ?_;rw[hh];rintro _ w2 ⟨rfl,rfl⟩;clear hh
 rcases Gv D.op (j:Int) (D.st.getD j cB) with ⟨e1,e2⟩ | ⟨i,q,e1,e2,e3,e4⟩
 ·have hlk:=Hlk.o;rw[show kJ D.op (j:Int)=none by unfold kJ;rw[e1];rfl] at hlk
  simp only[Option.getD_none,Option.isSome_none] at hlk;rw[e2] at HM;clear e1 e2;have hrd:readAt W p.gs (j * 64) 64=some (av (D.st.getD j cB)):=by
   have h1:=aB HA.o.sr (j * 64) 64 om om;rw[Nat.sub_zero] at h1;have hjl:j < D.st.length:=by rw[HD.o.len];exact hjn
   rw[h1,dC av 64 cU D.st j hjl,List.getD_eq_getElem?_getD,List.getElem?_eq_getElem hjl];rfl
  have c0:=Hc0.o;have c2:=Hc2.o;have hk:=Hk.o
  go_wp2_with fail
  rw[HM.o];refine bodyPost_ret (cu rfl _ _ w.heap.size 0 (av (D.st.getD j cB)) _ rfl rfl ?_) rfl ⟨rfl,aa Hb.o (Nat.le_refl _) _ _⟩;exact am _ _ _ _ _ sm Hk.o
 ·have hlk:=Hlk.o;rw[show kJ D.op (j:Int)=some (.int .i64 (i:Nat)) by unfold kJ;rw[e1];rfl] at hlk
  simp only[Option.getD_some,Option.isSome_some] at hlk;rw[e4] at HM;obtain⟨hil,hiq⟩:=List.getElem?_eq_some_iff.1 e2;obtain⟨g,o,cap,hv,hc1,hc2,hrd0⟩:=(aG HA.o.op).at i hil;have hlen:D.op.length≤100000:=Nat.le_trans HD.o.few hm;rw[dC To 65 qZ D.op i hil,hiq] at hrd0;have hrd:readAt W g (o+i * 65+1) 64=some (av q.2):=by
   have h1:=aB hrd0 (o+i * 65+1) 64 om om;rw[show o+i * 65+1 - (o+i * 65)=1 by omega] at h1
   rw[h1]
   show some ((wv q.1 q.2).extract 1 65)=_
   rw[wF]
  have hi0:(0:Int)≤(i:Int):=om;have hi1:(i:Int) < (D.op.length:Int):=om;have c1:=Hc1.o;rw[hv] at c1;have c2:=Hc2.o;have hk:=Hk.o;clear e1 e2 e3 e4 hiq hrd0 hv hc1 hc2
  go_wp2_with fail
  rw[HM.o];refine bodyPost_ret (cu rfl _ _ w.heap.size 0 (av q.2) _ rfl rfl ?_) rfl ⟨rfl,aa Hb.o (Nat.le_refl _) _ _⟩;exact am _ _ _ _ _ sm Hk.o
theorem mD(w:World)(k:Int)(m:Nat)(h:RM w base p n D)(hD:R0 D n m)(hm:m≤100000)(hn:n≤5000):
  Calls prog 121 #[.pointer (some ⟨p.B,0,none⟩),.int .i64 k] w fun e w'=>e = .returned (.tuple #[.agg (av (eD D k).1),fg (eD D k).2 k])∧Below w.heap.size w w':=by
 cases hdn:D.down with
 | true=>exact xk w k h hD.len hn (.inl hdn)
 | false =>
  cases hh:kH D k with
  | false=>exact xk w k h hD.len hn (.inr ⟨hdn,hh⟩)
  | true =>
   have h0:0≤k:=by
    simp only[kH,Bool.and_eq_true,decide_eq_true_eq] at hh;exact hh.1
   obtain⟨j,rfl⟩:=Int.eq_ofNat_of_zero_le h0;exact Cf w j m h hD hm hn hdn hh
end
end
section
open Go.RowKit Go.ChangeMaps
section
variable {base n:Nat} {p:DP} {D:DM}
theorem IC(x y:Sj):tear x y 64=y:=by
 apply Vector.ext;intro i hi;simp[tear];intro h;omega
theorem RM.inS{w u:World}(h:RM w base p n D)(st':List Sj)(hk:Kb (fun b=>b=p.gs) w u)
  (hsr:readAt u p.gs 0 (n * 64)=some (aZ av st').toArray) (hsk:canAt u p.gs 0 (n * 64)=true):RM u base p n { D with st:=st' }:=by
 obtain⟨n1,n2,n3,n4,n5,n6,n7,n8,n9,n10⟩:=h.ok.ne;obtain⟨M,hM,hM2,hM3⟩:=h.fa;obtain⟨M',hM',hM2'⟩:=h.cr;have hkb:∀ b,b < w.heap.size→b≠p.gs→u.heap[b]? = w.heap[b]?:=fun b h1 h2=>hk.block b h1 h2;have hcb:∀ b,b ∈ p.cb→b < w.heap.size→u.heap[b]? = w.heap[b]?:=fun b hb1 hb2=>hkb b hb2 (fun e=>(h.ok.c b hb1).1 (e ▸ jp p));refine⟨h.ok,?_,?_,hsr,hsk,h.sc,bu h.op (fun b hb1 hl=>hkb b hl (h.ok.o' (jp p) b hb1)),h.la.kept (hkb _ h.la.lt n5.symm),⟨M,hM.kept (hkb _ hM.lt n6.symm),hM2,hM3⟩,⟨M',hM'.kept (hkb _ hM'.lt n7.symm),fun k hk1=>?_⟩,fun b hb1=>Nat.lt_of_lt_of_le (h.lt b hb1) hk.size⟩
 ·rw[← h.r];simp[readAt,hkb p.B (ac h.r) n1]
 ·rw[← h.k];simp[canAt,hkb p.B (ac h.r) n1]
 ·rcases hM2' k hk1 with h1 | ⟨cs,v,h1,h2,h3,h4⟩
  ·exact .inl h1
  ·exact .inr ⟨cs,v,h1,h2,h3.same (fun g hg hl=>hcb g (h4 g hg) hl),h4⟩
def rQ(D:DM)(k:Nat):List Sj:=bC D.st D.op (fun _=>64) k
def Bd(w2:World)(p:DP)(n:Nat)(D:DM)(k:Nat)(wr:World):Prop :=
 Kb (fun b=>b=p.gs) w2 wr∧readAt wr p.gs 0 (n * 64)=some (aZ av (rQ D k)).toArray∧canAt wr p.gs 0 (n * 64)=true
set_option maxRecDepth 100000 in
theorem jD(w:World)(m:Nat)(h:RM w base p n D)(hD:R0 D n m)(hm:m+2≤100000)(hn:n≤5000)(hbase:base≤w.heap.size):
  Calls prog 81 #[.pointer (some ⟨p.B,0,none⟩)] w fun e w'=>e = .returned (fg (bz D).2 0)∧bm w base p n (bz D).1 w':=by
 obtain⟨-,-,-,c3,-⟩:=h.cells;have HA:=SM h;have HD:=SM hD;have Hbase:=SM hbase;clear h hD hbase;cases hdn:D.down with
 | true =>
  have HM:Hd (bz D=(D,12)):=by unfold Hd bz;rw[if_pos hdn]
  rw[hdn] at c3;clear hdn
  go_in
  go_wp2
  go_ret
  rw[HM.o];exact⟨rfl,p,rfl,HA.o,Kb.refl _ _,fun b hb=>.inl hb⟩
 | false =>
  rw[hdn] at c3;have Hdn:=SM hdn;clear hdn
  go_in
  go_wp2_with fail
  clear c3;refine (tJ w HA.o HD.o.s0 (by have:=HD.o.s1;omega)).mono ?_
  rintro _ w2 ⟨hout,hA2,hK2⟩;have HK2:=SM hK2;have HA2:=SM hA2;have Hb2:Hd (base≤w2.heap.size):=Nat.le_trans Hbase.o HK2.o.size;have HT:=SM HD.o.tick;have Hfew:Hd (D.op.length≤100000):=by have:=HD.o.few;show _≤_;omega
  clear hA2 hK2 HA
  rcases hout with ⟨cs,v,e1,rfl,e2⟩ | ⟨e1,e2,rfl⟩ | ⟨e1,e2,rfl⟩
  ·have HM:Hd (bz D=(de (cX D) cs,12)):=by unfold Hd bz;rw[if_neg (by rw[Hdn.o];decide),e1]
   have HE:=SM e2;clear e1 e2
   go_wp2_with fail
   refine (fx w2 v cs (m+1) HA2.o HT.o om hn Hb2.o HE.o.1).mono ?_;rintro _ w4 ⟨rfl,hN⟩;have HN:=SM (bm.of_kb HK2.o hN);clear hN
   go_wp2
   go_ret
   rw[HM.o];exact⟨rfl,HN.o⟩
  ·have HM:Hd (bz D=(cX D,11)):=by unfold Hd bz;rw[if_neg (by rw[Hdn.o];decide),e1];simp only;rw[if_pos e2]
   clear e1 e2
   go_wp2
   go_ret
   rw[HM.o];exact⟨rfl,p,rfl,HA2.o,HK2.o,fun b hb=>.inl hb⟩
  ·have hnf : ¬ SL D.plan (D.steps+1)=true:=by rw[e2];decide
   have HM:Hd (bz D=(oS (cX D),0)):=by unfold Hd bz;rw[if_neg (by rw[Hdn.o];decide),e1];simp only;rw[if_neg hnf]
   obtain⟨ad,cap,hv⟩ : ∃ ad cap,p.vo = .slice ad D.op.length cap:=by
    obtain⟨ad,cap,hv,_⟩:=aG HA2.o.op;exact⟨ad,cap,hv⟩
   obtain⟨c0,c1,-⟩:=HA2.o.cells;rw[hv] at c1;have HV:=SM hv;have HC0:=SM c0;clear e1 e2 hnf hv c0
   go_wp2_with fail
   clear c1
   go_loopw [36] (fun i wr=>∃ k:Nat,k≤D.op.length∧i = .int .i64 k∧Bd w2 p n (cX D) k wr) (fun i _=>D.op.length - (intOf i).toNat)
   case atStart=>exact⟨0,Nat.zero_le _,rfl,Kb.refl _ _,HA2.o.sr,HA2.o.sk⟩
   case round =>
    obtain⟨k,hk,rfl,hrel⟩:=hrel;have HR:=SM hrel;clear hrel
    by_cases hlt:k < D.op.length
    ·obtain⟨d,hdk⟩:=eY (D.op[k]'hlt);obtain⟨at_,x⟩:=d;have hat:=HD.o.at_ _ (List.getElem_mem hlt);rw[hdk] at hat;obtain⟨j,hj⟩ : ∃ j:Nat,at_=(j:Int):=⟨at_.toNat,by simp only at hat;omega⟩
     subst hj;have hjn:j < n:=by simp only at hat;omega
     have hop:wr.ownsRow base 203 65 p.vo D.op.length (aZ To D.op):=bu HA2.o.op (fun b hb hl=>HR.o.1.block b hl (HA2.o.ok.o' (jp p) b hb));obtain⟨bw,ow,cw,hv2,hc1,hc2,hrw⟩:=(aG hop).at k hlt;rw[HV.o] at hv2;simp only[Value.slice.injEq,true_and] at hv2;obtain⟨rfl,rfl⟩:=hv2;rw[dC To 65 qZ D.op k hlt,hdk] at hrw;simp only[To] at hrw;obtain⟨M,hM⟩:=eY (rQ (cX D) k);have hML:M.length=n:=by rw[← hM];unfold rQ;rw[bY];exact HD.o.len
     have hstep:rQ (cX D) (k+1)=M.set j x:=by
      rw[← hM];have hgd:D.op.getD k (0,cB)=((j:Int),x):=by rw[← hdk,List.getD_eq_getElem?_getD,List.getElem?_eq_getElem hlt];rfl
      show dI (bC D.st D.op (fun _=>64) k) (D.op.getD k (0,cB)) 64=_
      rw[hgd];unfold dI;rw[IC,Int.toNat_natCast];rfl
     have Hstep:=SM hstep;have HML:=SM hML;have hr3:readAt wr p.gs 0 (n * 64)=some (aZ av M).toArray:=by rw[← hM];exact HR.o.2.1
     have Hr3:=SM hr3;have Hk3:=SM HR.o.2.2;have HKR:=SM HR.o.1;have hB3:readAt wr p.B 0 7=some (d7 p n D.down (D.steps+1)):=by
      have h1:wr.heap[p.B]? = w2.heap[p.B]?:=HR.o.1.block _ (ac HA2.o.r) HA2.o.ok.ne.1;rw[← show readAt w2 p.B 0 7=some (d7 p n D.down (D.steps+1)) from HA2.o.r];simp[readAt,h1]
     have HB3:=SM hB3;have HgB:Hd (p.gs≠p.B):=HA2.o.ok.ne.1.symm;clear hdk hat hop hc1 hc2 hstep hML hr3 hB3 hM HR;obtain⟨wa,hwa⟩:=eY (setAt (wr.alloc (.cells (wv 0 cB) 203)) wr.heap.size 0 (wv j x));have hbwa:Below wr.heap.size wr wa:=by
      rw[← hwa];exact aa (ba _ (Below.refl _ _)) (Nat.le_refl _) _ _
     have hcz:canAt (wr.alloc (.cells (wv 0 cB) 203)) wr.heap.size 0 65=true:=aq _ _ _ _ _ _ rfl sm;have hrc:readAt wa wr.heap.size 0 65=some (wv j x):=by rw[← hwa];exact am _ _ _ _ _ sm hcz
     have Hrc:=SM hrc;have Hbwa:=SM hbwa;have Hcz:=SM hcz;have hlbw:=ac hrw;have hk0:(0:Int)≤(k:Int):=om;have hk1:(k:Int) < (D.op.length:Int):=om;have hj0:(0:Int)≤(j:Int):=om;have hj1:(j:Int) < (n:Int):=om;clear hrc hbwa
     go_wp2_with fail
     clear hwa hcz;refine yW (tk 0 9 (.run 9 .done)) (fun u=>readAt u p.B 0 7=some (d7 p n D.down (D.steps+1))∧readAt u wr.heap.size 0 65=some (wv j x)) ⟨(ak Hbwa.o (ac HB3.o) 0 7).trans HB3.o,Hrc.o⟩ ?_
     repeat((first|refine yO ?_|refine yM ?_|refine yF rfl rfl (fun w' hC'=>by obtain⟨c0,-⟩:=eH hC'.1;have hca:=ab hC'.2 0 (.int .i64 j) (PC _ _);rw[Nat.add_zero] at hca;have hcd:readAt w' wr.heap.size 1 64=some (av x):=(aB hC'.2 1 64 om om).trans (congrArg some (wF _ _));go_simp;first|done|exact rfl) ?_);walk_nrm)
     have Hbd:Hd (Below wr.heap.size wr wa.drew):=Hbwa.o.drew;have hr4:=(ak Hbd.o (ac Hr3.o) 0 (n * 64)).trans Hr3.o;have hk4:=(ay Hbd.o (ac Hr3.o) 0 (n * 64)).trans Hk3.o;have hk5:canAt wa.drew p.gs (j * 64) 64=true:=aC hk4 (j * 64) 64 om;have Hr4:=SM hr4;have Hk4:=SM hk4;clear hr4 hk4;refine dd rfl rfl (fun K hK=>?_);go_simp;have ho:=Ob.setAt wa.drew p.gs (j * 64) (av x);have hne:wr.heap.size≠p.gs:=fun e=>by have:=ac Hr3.o;omega
     refine hK _ _ (fun u=>readAt u p.B 0 7=some (d7 p n D.down (D.steps+1))∧readAt u wr.heap.size 0 65=some (wv j x)) (fun _ h=>h) ⟨?_,?_⟩ ?_
     ·rw[ho.readAt HgB.o.symm];exact (ak Hbwa.o (ac HB3.o) 0 7).trans HB3.o
     ·rw[ho.readAt hne];exact Hrc.o
     clear hK K
     try walk_nrm
     refine al ?_;have HF:Hd (Bd w2 p n (cX D) (k+1) (setAt wa.drew p.gs (j * 64) (av x))):=by
      refine⟨(HKR.o.blw Hbd.o).ob ho rfl,?_,?_⟩
      ·rw[ae _ _ 0 (n * 64) _ Hr4.o Hk4.o (j * 64) _ (Nat.zero_le _) sO,Nat.sub_zero,qs av 64 cU M j (by rw[HML.o];exact hjn),Hstep.o]
      ·rw[ap _ _ _ _ _ _ _ (by simpa using hk5)];exact Hk4.o
     clear ho hne hk5 Hr4 Hk4 Hbd Hcz;generalize setAt wa.drew p.gs (j * 64) (av x)=w5 at *;have hfew:=Hfew.o
     go_wp2
     go_roundw
     case rel=>exact⟨k+1,om,by go_num,HF.o⟩
     case measure=>simp[intOf];omega
    ·obtain rfl:k=D.op.length:=om;have HA3:Hd (RM wr base p n { cX D with st:=rQ (cX D) D.op.length }):=HA2.o.inS _ HR.o.1 HR.o.2.1 HR.o.2.2
     have HK3:Hd (Kb p.has w wr):=HK2.o.trans HR.o.1 (fun i hi=>.inl (.inl (by subst hi;exact jp p)))
     have Hb3:Hd (base≤wr.heap.size):=Nat.le_trans Hbase.o HK3.o.size;clear HR
     go_wp2_with fail
     refine (rO wr HA3.o Hb3.o).mono ?_;rintro _ w4 ⟨rfl,hN⟩;have HN:=SM (bm.of_kb HK3.o hN);clear hN
     go_wp2
     go_ret
     rw[HM.o];exact⟨rfl,HN.o⟩
end
end
section
open Go.RowKit Go.ChangeMaps
theorem Gm(l:List Int):∀ v ∈ l.map (Value.int .i64),v.oneCell'=true:=by
 intro v hv;obtain⟨x,_,rfl⟩:=List.mem_map.1 hv
 rfl
set_option maxRecDepth 100000 in
theorem uH(a:Addr)(q cap:Nat)(cs:List Int)(w:World)(hq:cs.length=q)(hm:q≤100000)(hr:0 < q→∃ b o,a=⟨b,o,none⟩∧readAt w b o q=some (cs.map (Value.int .i64)).toArray):
  Calls prog 32 #[.slice (some a) q cap] w fun e w'=>(∃ v,e = .returned v∧Se w' v q 1 (cs.map (Value.int .i64))∧∀ g,v.ownBlock=some g→w.heap.size≤g∧g < w'.heap.size)∧Below w.heap.size w w':=by
 obtain⟨i0,hi,hz,hs,hby⟩:=info_parts IL;have Hr:=SM hr;have Hq:=SM hq;clear hr hq;have heq:=fun w=>Lib.run_eql_slice_nil (P:=prog) w 40 3 (some a) q cap 0 0 underlying40
 go_in
 have hown0:(w.alloc (.cells #[] 3)).ownsRow w.heap.size 3 1 (.slice (some ⟨w.heap.size,0,none⟩) 0 0) 0 [] :=
  World.ownsRow_made (size:=1) w #[] 0 (Nat.le_refl _) (by simp[maxLen]) sm
 have hbz:=dV (P:=prog) w 40 3 i0 underlying40 hi
 go_wp2_with (at_builtin;refine wpList_append_own _ rfl _ _ 40 rfl w.heap.size 3 i0 _ 1 8 underlying40 hi hz hs hby rfl dc _ 0 _ rfl hown0 a q cap (cs.map (Value.int .i64)) rfl ?c1 ?c2 ?c3 ?c4 ?c5 ?c6 ?_)
 case c1=>rw[List.length_map,Hq.o,Nat.mul_one]
 case c2 =>
  intro j u hu;have hj:j < q:=by
   have:=(List.getElem?_eq_some_iff.1 hu).1
   simpa [Hq.o] using this
  obtain⟨b,o,rfl,hrd⟩:=Hr.o om;have h1:=(cJ hrd).1 j u (by simpa using hu)
  rw[Addr.add_lit,World.cell?_alloc_past _ _ _ (ac hrd)];exact h1
 case c3=>exact Gm cs
 case c4=>simp only[maxLen];omega
 case c5=>omega
 case c6=>simp
 intro v w2 hown hgr hnil;have HN:Hd (∀ g,v.ownBlock=some g→w.heap.size≤g∧g < w2.heap.size):=fun g hg=>hown.lt g hg;have HB:Hd (Below w.heap.size w w2):=(ba (.cells #[] 3) (Sy w)).trans ⟨hgr.os,hgr.tape,hgr.output,hgr.size,fun k hk=>hgr.block k sO (by simp[Value.ownBlock];omega)⟩
 have HO:Hd (Se w2 v q 1 (cs.map (Value.int .i64))):=by
  show Se _ _ _ _ _
  have h:=aG hown
  simpa using h
 clear hown hgr hnil hown0 hbz
 go_wp2
 go_ret
 exact⟨⟨v,rfl,HO.o,HN.o⟩,HB.o⟩
theorem yL(w:World):
  Calls prog 32 #[.slice none 0 0] w fun e w'=>e = .returned (.slice none 0 0)∧w=w':=by
 have heq:=fun w=>Lib.run_eql_slice_nil (P:=prog) w 40 3 none 0 0 0 0 underlying40
 go_in
 go_wp2
 go_ret
 exact⟨rfl,rfl⟩
theorem yK(vc:Value)(cs:List Int)(w:World)(hm:cs.length≤100000)(hc:Se w vc cs.length 1 (cs.map (Value.int .i64))):
  Calls prog 32 #[vc] w fun e w'=>(∃ v,e = .returned v∧Se w' v cs.length 1 (cs.map (Value.int .i64))∧∀ g,v.ownBlock=some g→w.heap.size≤g∧g < w'.heap.size)∧Below w.heap.size w w':=by
 obtain⟨ad,cap,rfl,h1,h2,h3,h4,h5⟩:=hc;cases ad with
 | none =>
  obtain⟨e1,rfl⟩:=h4 rfl;have e2:cs=[]:=List.eq_nil_of_length_eq_zero e1;subst e2;refine (yL w).mono ?_;rintro _ w' ⟨rfl,rfl⟩;exact⟨⟨_,rfl,⟨none,0,rfl,Nat.le_refl _,by simp[maxLen],rfl,fun _=>⟨rfl,rfl⟩,fun h=>absurd h sm⟩,fun g hg=>(by cases hg)⟩,Below.refl _ _⟩
 | some a =>
  refine uH a cs.length cap cs w rfl hm (fun h0=>?_);obtain⟨b,o,e,hr⟩:=h5 h0;cases e;rw[Nat.mul_one] at hr;exact⟨b,o,rfl,hr⟩
section
variable {base n:Nat} {p:DP} {D:DM}
theorem RM.storeF{w:World}(h:RM w base p n D)(a:Int)(ha:1≤a)(h64:RV (D.steps+a))(cuts:List Int):
  ∃ o,(Instr.mapUpdate 83 (.map (some p.bf)) (.int .i64 (D.steps+a)) (.bool true)).run prog w = .ok () (setBlock w p.bf o)∧RM (setBlock w p.bf o) base p n { D with plan:=D.plan ++ [⟨D.steps+a,false,cuts⟩] }:=by
 obtain⟨n1,n2,n3,n4,n5,n6,n7,n8,n9,n10⟩:=h.ok.ne;obtain⟨M,hM,hM2,hM3⟩:=h.fa;obtain⟨M',hM',hM2'⟩:=h.cr;obtain⟨o,hrun,him⟩:=hM.store h64 underlying83 (.bool true);have ho:=Ob.setBlock w p.bf o;have hc:∀ g,g ∈ p.cb→g≠p.bf:=fun g hg e=>(h.ok.c g hg).1 (e ▸ fF p);refine⟨o,hrun,h.ok,by rw[ho.readAt n3];exact h.r,by rw[ho.canAt n3];exact h.k,by rw[ho.readAt n6];exact h.sr,by rw[ho.canAt n6];exact h.sk,h.sc,ho.own h.op (h.ok.o' (fF p)),ho.im n8 h.la,⟨_,him,fun j hj=>?_,fun j v hv=>?_⟩,⟨M',ho.im n10.symm hM',fun k hk=>?_⟩,fun b hb=>by rw[ho.size];exact h.lt b hb⟩
 ·simp only[xm];unfold Tm
  by_cases e:j=D.steps+a
  ·rw[if_pos e,decide_eq_true e.symm];simp
  ·rw[if_neg e,decide_eq_false (fun e2=>e e2.symm),hM2 j hj];simp
 ·unfold Tm at hv
  split at hv
  ·cases hv;rfl
  ·exact hM3 j v hv
 ·have h4:=(hM2' k hk).same (w':=setBlock w p.bf o) (fun b hb _=>ho.block b (hc b hb));unfold um at h4 ⊢;simp only[qn]
  simpa using h4
theorem RM.storeC{w:World}(h:RM w base p n D)(a:Int)(ha:1≤a)(h64:RV (D.steps+a))(cuts:List Int)(v:Value)(hv:Se w v cuts.length 1 (cuts.map (Value.int .i64)))
  (hg:∀ g,v.ownBlock=some g→base≤g∧g < w.heap.size∧¬ p.has g) :
  ∃ o,(Instr.mapUpdate 84 (.map (some p.bc)) (.int .i64 (D.steps+a)) v).run prog w = .ok () (setBlock w p.bc o)∧RM (setBlock w p.bc o) base { p with cb:=v.ownBlock.toList ++ p.cb } n { D with plan:=D.plan ++ [⟨D.steps+a,true,cuts⟩] }:=by
 obtain⟨n1,n2,n3,n4,n5,n6,n7,n8,n9,n10⟩:=h.ok.ne;obtain⟨M,hM,hM2,hM3⟩:=h.fa;obtain⟨M',hM',hM2'⟩:=h.cr;obtain⟨o,hrun,him⟩:=hM'.store h64 underlying84 v;have ho:=Ob.setBlock w p.bc o;have hcb:∀ g,g ∈ v.ownBlock.toList ++ p.cb→(v.ownBlock=some g)∨g ∈ p.cb:=fun g hg1=>by
  rcases List.mem_append.1 hg1 with h1 | h1
  ·exact .inl (by simpa using h1)
  ·exact .inr h1
 have hc:∀ g,g ∈ p.cb→g≠p.bc:=fun g hg e=>(h.ok.c g hg).1 (e ▸ eZ p);refine⟨o,hrun,⟨h.ok.d,h.ok.o,fun g hg1=>?_,fun b hb=>?_⟩,by rw[ho.readAt n4];exact h.r,by rw[ho.canAt n4];exact h.k,by rw[ho.readAt n7];exact h.sr,by rw[ho.canAt n7];exact h.sk,h.sc,ho.own h.op (h.ok.o' (eZ p)),ho.im n9 h.la,⟨M,ho.im n10 hM,fun j hj=>?_,hM3⟩,⟨_,him,fun j hj=>?_⟩,fun b hb=>?_⟩
 ·rcases hcb g hg1 with h1 | h1
  ·have:=(hg g h1).2.2;exact⟨fun h5=>this (.inl h5),fun e=>this (.inr (.inl e))⟩
  ·exact h.ok.c g h1
 ·rcases hb with h1 | h1 | h1
  ·exact h.ok.lo b (.inl h1)
  ·exact h.ok.lo b (.inr (.inl h1))
  ·rcases hcb b h1 with h2 | h2
   ·exact (hg b h2).1
   ·exact h.ok.lo b (.inr (.inr h2))
 ·simp only[xm];rw[hM2 j hj];simp
 ·have hvn:∀ g,v.ownBlock=some g→g≠p.bc:=fun g h1 e=>(hg g h1).2.2 (.inl (e ▸ eZ p))
  by_cases e:j=D.steps+a
  ·refine .inr ⟨cuts,v,?_,?_,hv.same (fun g h1 _=>ho.block g (hvn g h1)),fun g h1=>List.mem_append.2 (.inl (by simpa using h1))⟩
   ·simp only[qn];rw[if_pos ⟨e.symm,trivial⟩]
   ·unfold Tm;rw[if_pos e]
  ·have h4:=(hM2' j hj).same (w':=setBlock w p.bc o) (fun b hb _=>ho.block b (hc b hb));have e1:SJ (D.plan ++ [⟨D.steps+a,true,cuts⟩]) j=SJ D.plan j:=by rw[qn,if_neg (fun h1=>e h1.1.symm)]
   have e2:Tm M' (D.steps+a) (some v) j=M' j:=by unfold Tm;rw[if_neg e]
   unfold um at h4 ⊢;simp only;rw[e1,e2]
   rcases h4 with h4 | ⟨cs,v',h4,h5,h6,h7⟩
   ·exact .inl h4
   ·exact .inr ⟨cs,v',h4,h5,h6,fun g h1=>List.mem_append.2 (.inr (h7 g h1))⟩
 ·rw[ho.size]
  rcases hcb b hb with h1 | h1
  ·exact (hg b h1).2.1
  ·exact h.lt b h1
set_option maxRecDepth 100000 in
theorem mC(w:World)(a:Int)(m:Nat)(cuts:List Int)(h:RM w base p n D)(hD:R0 D n m)(hm:m≤100000)(ha:a≤1048576):
  Calls prog 28 #[.pointer (some ⟨p.B,0,none⟩),.int .i64 a] w fun e w'=>e = .returned (.tuple #[])∧bm w base p n (bP D a false cuts) w':=by
 by_cases h1:1≤a
 ·have h64:RV (D.steps+a):=by have:=hD.s0;have:=hD.s1;unfold RV;omega
  obtain⟨o,hst,hA⟩:=h.drew.storeF a h1 h64 cuts;have s0:=hD.s0;have s1:=hD.s1;have HA:=SM hA;have Hst:=SM hst;have Hr:=SM h.drew.r;have HM:Hd (bP D a false cuts={ D with plan:=D.plan ++ [⟨D.steps+a,false,cuts⟩] }):=by unfold Hd bP;rw[if_neg om]
  have HK:Hd (Kb p.has w (setBlock w.drew p.bf o)):=(Kb.refl p.has w).drew.ob (Ob.setBlock _ _ _) (.inl (fF p));clear hst hA h hD h64;have hwr:IntKind.i64.wrap (D.steps+a)=D.steps+a:=wi
  go_in
  go_wp2
  refine yW (tk 0 10 (.run 10 .done)) (fun u=>readAt u p.B 0 7=some (d7 p n D.down D.steps)) Hr.o ?_
  repeat((first|refine yO ?_|refine yM ?_|refine yF rfl rfl (fun w' hC'=>by obtain⟨-,-,-,-,c4,c5,-⟩:=eH hC';go_simp;first|done|exact rfl) ?_);walk_nrm)
  have hst:=Hst.o;refine dd rfl rfl (fun K hK=>?_);go_simp;refine hK _ _ (fun u=>readAt u p.B 0 7=some (d7 p n D.down D.steps)) (fun _ h=>h) HA.o.r ?_;clear hK K hst
  try walk_nrm
  refine al ?_
  go_wp2
  go_end0
  rw[HM.o];exact⟨rfl,p,rfl,HA.o,HK.o,fun b hb=>.inl hb⟩
 ·have HM:Hd (bP D a false cuts=D):=by unfold Hd bP;rw[if_pos om]
  have h2:decide (1≤a)=false:=by simpa using h1
  have H:=SM h;clear h hD h1
  go_in
  go_wp2
  go_end0
  rw[HM.o];exact⟨rfl,p,rfl,H.o,Kb.refl _ _,fun b hb=>.inl hb⟩
set_option maxRecDepth 100000 in
theorem dY(w:World)(a:Int)(vc:Value)(cs:List Int)(m:Nat)(h:RM w base p n D)(hD:R0 D n m)(hm:m≤100000)(ha:a≤1048576)(hbase:base≤w.heap.size)(hcl:cs.length≤100000)(hc:Se w vc cs.length 1 (cs.map (Value.int .i64))):
  Calls prog 13 #[.pointer (some ⟨p.B,0,none⟩),.int .i64 a,vc] w fun e w'=>e = .returned (.tuple #[])∧bm w base p n (bP D a true cs) w':=by
 by_cases h1:1≤a
 ·have h64:RV (D.steps+a):=by have:=hD.s0;have:=hD.s1;unfold RV;omega
  have s0:=hD.s0;have s1:=hD.s1;have H:=SM h;have Hc:=SM hc;have H64:=SM h64;have Hbase:=SM hbase;have Hr:=SM h.drew.r;have HM:Hd (bP D a true cs={ D with plan:=D.plan ++ [⟨D.steps+a,true,cs⟩] }):=by unfold Hd bP;rw[if_neg om]
  clear h hD h64 hc hbase;have hwr:IntKind.i64.wrap (D.steps+a)=D.steps+a:=wi
  go_in
  go_wp2
  refine yW (tk 0 11 (.run 11 (.run 12 .done))) (fun u=>readAt u p.B 0 7=some (d7 p n D.down D.steps)) Hr.o ?_
  repeat((first|refine yO ?_|refine yM ?_|refine yF rfl rfl (fun w' hC'=>by obtain⟨-,-,-,-,c4,-,c6⟩:=eH hC';go_simp;first|done|exact rfl) ?_);walk_nrm)
  refine yR ?_;refine (yK vc cs _ hcl (Hc.o.below (Below.refl _ _).drew)).mono ?_;rintro _ w2 ⟨⟨v,rfl,hv,hg⟩,hb2⟩;have hb3:Below w.heap.size w w2:=bt (Below.refl _ _).drew hb2;have hg2:∀ g,v.ownBlock=some g→base≤g∧g < w2.heap.size∧¬ p.has g:=fun g h1=>⟨Nat.le_trans Hbase.o (hg g h1).1,(hg g h1).2,fun hp=>by have h2:=H.o.has_lt g hp;have h3:=(hg g h1).1;simp at h3;omega⟩
  have hr2:=(ak hb3 (ac H.o.r) 0 7).trans H.o.r;have Hr2:=SM hr2;obtain⟨o,hst,hA⟩:=(H.o.below hb3).storeC a h1 H64.o cs v hv hg2;have HA:=SM hA;have Hst:=SM hst;have HK:Hd (Kb p.has w (setBlock w2 p.bc o)):=(Kb.of_below (X:=p.has) hb3).ob (Ob.setBlock _ _ _) (.inl (eZ p));have HG:Hd (∀ b,DP.has { p with cb:=v.ownBlock.toList ++ p.cb } b→p.has b∨w.heap.size≤b):=fun b hb=>by
   rcases hb with h1 | h1 | h1
   ·exact .inl (.inl h1)
   ·exact .inl (.inr (.inl h1))
   ·rcases List.mem_append.1 h1 with h2 | h2
    ·exact .inr (hg b (by simpa using h2)).1
    ·exact .inl (.inr (.inr h2))
  clear hv hg hb2 hb3 hg2 hr2 hst hA;refine kS Hr2.o ?_;walk_nrm;have hst:=Hst.o;refine dd rfl rfl (fun K hK=>?_);go_simp;refine hK _ _ (fun u=>readAt u p.B 0 7=some (d7 p n D.down D.steps)) (fun _ h=>h) HA.o.r ?_;clear hK K hst
  try walk_nrm
  refine al ?_
  go_wp2
  go_end0
  rw[HM.o];exact⟨rfl,{ p with cb:=v.ownBlock.toList ++ p.cb },rfl,HA.o,HK.o,HG.o⟩
 ·have HM:Hd (bP D a true cs=D):=by unfold Hd bP;rw[if_pos om]
  have h2:decide (1≤a)=false:=by simpa using h1
  have H:=SM h;clear h hD h1 hc
  go_in
  go_wp2
  go_end0
  rw[HM.o];exact⟨rfl,p,rfl,H.o,Kb.refl _ _,fun b hb=>.inl hb⟩
end
end
end Go.Proofs.YtlcfaaodmickbaaGreatDoor
