/- Part 2 of the proof: texts merged and shortened by a program. No conditions. -/
import Derived.OrdersHeld
import Derived.RegionTactic
import Derived.Deep.Cut
import Derived.Test.YtlcfaaodmickbaaGreatDoorPc01
set_option linter.unusedSimpArgs false
set_option linter.unusedVariables false
set_option maxRecDepth 100000
set_option maxHeartbeats 8000000
namespace Go.Proofs.YtlcfaaodmickbaaGreatDoor
open Go.RowKit Go.Proofs.Tryz
section
inductive Tr where
 | done
 | take (i:Nat) (t:Tr)
 | call (i:Nat) (t:Tr)
 | pure (i:Nat) (t:Tr)
 | run (i:Nat) (t:Tr)
 | two (i:Nat) (t:Tr) (j:Nat) (u:Tr)
 | brk (i:Nat) (t:Tr)
def Tr.len:Tr→Nat
 | .done=>0
 | .take _ t=>t.len+1
 | .call _ t=>t.len+1
 | .pure _ t=>t.len+1
 | .run _ t=>t.len+1
 | .two _ t _ _=>t.len+1
 | .brk _ t=>t.len+1
def Tr.next:Tr→Option Nat
 | .done=>none
 | .take _ t=>t.next
 | .call _ t=>t.next
 | .pure _ t=>t.next
 | .run _ t=>t.next
 | .two _ t _ _=>t.next
 | .brk i _=>some i
def er(P:Program)(ops:Array Oper)(S:World→Prop)(o:Oper)(v:Value)(a:Act):Prop :=
 Region.wanted o (yielded ops a.tmps)=true∧∃ f args,(∀ w,S w→(execOp a.eval o).run P w = .ok (.enter f args) w)∧∀ w,S w→Calls P f args w fun e w'=>e = .returned v∧w'=w
def Tp(P:Program)(ops:Array Oper)(Q:Exit→Act→World→Prop):Tr→(World→Prop)→Act→World→Prop
 | .done,_,a,w=>Q .normal a w
 | .take i t,S,a,w=>∃ o v,ops[i]? = some o∧YieldsIf P ops S o v a∧Tp P ops Q t S (a.put o.dst v) w
 | .call i t,S,a,w=>∃ o v,ops[i]? = some o∧er P ops S o v a∧Tp P ops Q t S (a.put o.dst v) w
 | .pure i t,S,a,w=>∃ o v,ops[i]? = some o∧Yields P ops o v a∧Tp P ops Q t S (a.put o.dst v) w
 | .run i t,S,a,w=>wpOp P ops Q i (fun a' w'=>∃ S':World→Prop,(∀ u,S' u→S u)∧S' w'∧Tp P ops Q t S' a' w') a w
 | .two i t j u,S,a,w=>wpOp P ops Q i (fun a' w'=>∃ S':World→Prop,(∀ u,S' u→S u)∧S' w'∧Tp P ops Q t S' a' w') a w∧wpOp P ops Q j (fun a' w'=>∃ S':World→Prop,(∀ u,S' u→S u)∧S' w'∧Tp P ops Q u S' a' w') a w
 | .brk i t,S,a,w=>wpOp P ops Q i (fun a' w'=>∃ S':World→Prop,S' w'∧Tp P ops Q t S' a' w') a w
def uQ(md:Region.Mode)(ops:Array Oper)(j i:Nat):Bool :=
 match ops[j]? with
 | some o=>o.after.any fun e=>Region.binds md e && e.on == i
 | none=>true
def pf(md:Region.Mode)(ops:Array Oper):Nat→Nat→Nat→Bool
 | 0,f,i=>uQ md ops f i
 | k+1,f,i=>uQ md ops f i || (List.range ops.size).any fun m=>uQ md ops f m && pf md ops k m i
def lr(md:Region.Mode)(ops:Array Oper)(f:Option Nat)(i:Nat):Bool :=
 match f with
 | none=>true
 | some f=>f != i && pf md ops 5 f i
def nY(md:Region.Mode)(ops:Array Oper)(l:Array Bool):Prop :=
 ∀ m o,ops[m]? = some o→l.getD m false=true→∀ e ∈ o.after,Region.binds md e=true→l.getD e.on false=true
def Tl(md:Region.Mode)(ops:Array Oper):Tr→Array Bool→Bool
 | .done,l=>(Region.ready md ops l).isEmpty
 | .take i t,l=>lr md ops t.next i && Region.free md ops l i && (Region.ready md ops l).contains i && Tl md ops t (l.setIfInBounds i true)
 | .call i t,l=>lr md ops t.next i && Region.free md ops l i && (Region.ready md ops l).contains i && Tl md ops t (l.setIfInBounds i true)
 | .pure i t,l=>t.next != some i && Region.free md ops l i && (Region.ready md ops l).contains i && Tl md ops t (l.setIfInBounds i true)
 | .run i t,l=>t.next != some i && Region.ready md ops l == [i] && Tl md ops t (l.setIfInBounds i true)
 | .two i t j u,l=>t.next != some i && t.next != some j && u.next == t.next && Region.ready md ops l == [i,j] && t.len == u.len && Tl md ops t (l.setIfInBounds i true) && Tl md ops u (l.setIfInBounds j true)
 | .brk i t,l=>Region.ready md ops l == [i] && Tl md ops t (l.setIfInBounds i true)
section
variable {P:Program} {ops:Array Oper} {Q:Exit→Act→World→Prop} {md:Region.Mode} {S:World→Prop}
def ip(P:Program)(md:Region.Mode)(ops:Array Oper)(Q:Exit→Act→World→Prop)(f:Option Nat)(S:World→Prop):Nat→Array Bool→Act→World→Prop
 | 0,listed,a,w=>Region.ready md ops listed=[]∧Q .normal a w
 | fuel+1,listed,a,w =>
  (Region.ready md ops listed=[]→Q .normal a w) ∧
  ∀ i ∈ Region.ready md ops listed,wpOp P ops Q i (fun a' w'=>(f=some i∧wpAny P md ops Q fuel (listed.setIfInBounds i true) a' w')∨(f≠some i∧S w'∧ip P md ops Q f S fuel (listed.setIfInBounds i true) a' w')) a w
theorem gQ{f:Option Nat}: ∀ (fuel:Nat) (listed:Array Bool) (a:Act) (w:World),ip P md ops Q f S fuel listed a w→wpAny P md ops Q fuel listed a w
 | 0,_,_,_,h=>h
 | fuel+1,_,_,_,h=>⟨h.1,fun i hi=>wpOp_mono (fun a' w' h'=>by
   rcases h' with h' | h'
   ·exact h'.2
   ·exact gQ fuel _ a' w' h'.2.2) (h.2 i hi)⟩
theorem dj{f:Option Nat}{S':World→Prop}(hs:∀ u,S' u→S u):∀ (fuel:Nat) (listed:Array Bool) (a:Act) (w:World),ip P md ops Q f S' fuel listed a w→ip P md ops Q f S fuel listed a w
 | 0,_,_,_,h=>h
 | fuel+1,_,_,_,h=>⟨h.1,fun i hi=>wpOp_mono (fun a' w' h'=>by
   rcases h' with h' | h'
   ·exact .inl h'
   ·exact .inr ⟨h'.1,hs _ h'.2.1,dj hs fuel _ a' w' h'.2.2⟩) (h.2 i hi)⟩
theorem jI{l:Array Bool}{j m:Nat}(h:l.getD m false=true):(l.setIfInBounds j true).getD m false=true:=by
 by_cases e:j=m
 ·subst e;have hs:j < l.size:=by
   rcases Nat.lt_or_ge j l.size with h1 | h1
   ·exact h1
   ·simp[Array.getD,Nat.not_lt.2 h1] at h
  simp[Array.getD,hs]
 ·rwa [getD_set_ne false e]
theorem nY.set{l:Array Bool}(h:nY md ops l){j:Nat}(hj:j ∈ Region.ready md ops l):nY md ops (l.setIfInBounds j true):=by
 intro m o ho hm e he hb;obtain⟨_,oj,hoj,hall⟩:=mem_ready.1 hj
 by_cases e1:j=m
 ·subst e1;rw[hoj] at ho;cases ho;exact jI (hall e he hb)
 ·rw[getD_set_ne false e1] at hm;exact jI (h m o ho hm e he hb)
theorem jn{l:Array Bool}(h:nY md ops l){j i:Nat}(hj:j < ops.size)(hl:l.getD j false=true)(he:uQ md ops j i=true):l.getD i false=true:=by
 have ho:ops[j]? = some ops[j]:=Array.getElem?_eq_getElem hj;simp only[uQ,ho] at he;obtain⟨ed,hed,h2⟩:=Array.any_eq_true'.1 he;simp only[Bool.and_eq_true,beq_iff_eq] at h2;rw[← h2.2];exact h j _ ho hl ed hed h2.1
theorem kB{l:Array Bool}{j i:Nat}(hj:j ∈ Region.ready md ops l)(he:uQ md ops j i=true):l.getD i false=true:=by
 obtain⟨_,oj,hoj,hall⟩:=mem_ready.1 hj;simp only[uQ,hoj] at he;obtain⟨ed,hed,h2⟩:=Array.any_eq_true'.1 he;simp only[Bool.and_eq_true,beq_iff_eq] at h2;rw[← h2.2];exact hall ed hed h2.1
theorem lj{l:Array Bool}(h:nY md ops l):∀ (k:Nat) {j i:Nat},j < ops.size→l.getD j false=true→pf md ops k j i=true→l.getD i false=true
 | 0,j,i,hj,hl,he=>jn h hj hl he
 | k+1,j,i,hj,hl,he=>by
  simp only[pf,Bool.or_eq_true,List.any_eq_true,List.mem_range,Bool.and_eq_true] at he
  rcases he with he | ⟨m,hm,h1,h2⟩
  ·exact jn h hj hl he
  ·exact lj h k hm (jn h hj hl h1) h2
theorem ng{l:Array Bool}(h:nY md ops l)(k:Nat){j i:Nat}(hj:j ∈ Region.ready md ops l)(he:pf md ops k j i=true):l.getD i false=true:=by
 cases k with
 | zero=>exact kB hj he
 | succ k =>
  simp only[pf,Bool.or_eq_true,List.any_eq_true,List.mem_range,Bool.and_eq_true] at he
  rcases he with he | ⟨m,hm,h1,h2⟩
  ·exact kB hj he
  ·exact lj h k hm (kB hj h1) h2
theorem nO{f:Option Nat}{i:Nat}{oi:Oper}{v:Value}(hi:ops[i]? = some oi)(hs:Region.noSelect ops=true)(hw:lr md ops f i=true)
  (hQ:∀ c a w,Q (.panic c) (a.put oi.dst v) w→Q (.panic c) a w) :
  ∀ (fuel:Nat) (listed:Array Bool) (a:Act) (w:World),nY md ops listed →
   (∀ j oj,ops[j]? = some oj→j≠i→listed.getD j true=false→(∀ e ∈ oj.after,Region.binds md e=true→e.on≠i)→oi.apart ops oj=true) →
   i ∈ Region.ready md ops listed→YieldsIf P ops S oi v a→S w →
   ip P md ops Q f S fuel (listed.setIfInBounds i true) (a.put oi.dst v) w→ip P md ops Q f S (fuel+1) listed a w:=by
 have hne:f≠some i:=by
  rintro rfl;simp[lr] at hw
 intro fuel
 induction fuel with
 | zero =>
  intro listed a w _ _ hr hy hS H;refine⟨fun h=>absurd hr (by rw[h];exact List.not_mem_nil),fun j hj=>?_⟩
  by_cases e:j=i
  ·subst e;exact hy.wpOp hi hS (.inr ⟨hne,hS,H⟩)
  ·have h0:=ready_mono hj e;rw[H.1] at h0;cases h0
 | succ fuel ih =>
  intro listed a w hsh hap hr hy hS H;refine⟨fun h=>absurd hr (by rw[h];exact List.not_mem_nil),fun j hj=>?_⟩
  by_cases e:j=i
  ·subst e;exact hy.wpOp hi hS (.inr ⟨hne,hS,H⟩)
  obtain⟨hlj,oj,hoj,hall⟩:=mem_ready.1 hj;have hli:=(mem_ready.1 hr).1;have hno1:listed.getD i false≠true:=by
   intro h1
   by_cases hb2:i < listed.size
   ·rw[iC hb2 false true,hli] at h1;cases h1
   ·simp[Array.getD,hb2] at h1
  have hno:∀ ed ∈ oj.after,Region.binds md ed=true→ed.on≠i:=by
   intro ed hed hb hon;have h1:=hall ed hed hb;rw[hon] at h1;exact hno1 h1
  have hjf:f≠some j:=by
   rintro rfl;simp only[lr,Bool.and_eq_true] at hw;exact hno1 (ng hsh 5 hj hw.2)
  have h1:=H.2 j (ready_mono hj e);have h2:=wpOp_putIf hoj (hap j oj hoj e hlj hno) (fun cs b=>Region.noSelect_spec hs i oi cs b hi) (fun cs b=>Region.noSelect_spec hs j oj cs b hoj) hQ hy h1;refine wpOp_mono (fun a' w' h3=>?_) h2;obtain⟨hy',h4⟩:=h3
  rcases h4 with h4 | ⟨_,hS',h4⟩
  ·exact absurd h4.1 hjf
  refine .inr ⟨hjf,hS',ih (listed.setIfInBounds j true) a' w' (hsh.set hj) ?_ (ready_mono hr (Ne.symm e)) hy' hS' ?_⟩
  ·intro k ok hok hki hlk;refine hap k ok hok hki ?_
   by_cases hkj:j=k
   ·subst hkj;exact hlj
   ·rwa [getD_set_ne true hkj] at hlk
  ·rw[Array.setIfInBounds_comm _ _ e];exact h4
theorem er.same{o:Oper}{v:Value}{a a':Act}(h:er P ops S o v a)(he:execOp a'.eval o=execOp a.eval o)
  (hw:Region.wanted o (yielded ops a'.tmps)=Region.wanted o (yielded ops a.tmps)):er P ops S o v a':=by
 unfold er at *;rw[he,hw];exact h
theorem er.wpOp{i:Nat}{o:Oper}{v:Value}{a:Act}(hi:ops[i]? = some o)(h:er P ops S o v a){K:Act→World→Prop}{w:World}(hS:S w)(hk:K (a.put o.dst v) w):wpOp P ops Q i K a w:=by
 obtain⟨hw,f,args,h1,h2⟩:=h
 show (match ops[i]? with | none=>_ | some o=>_)
 rw[hi];simp only[hw,if_true];refine .inl ?_;unfold Oper.wp;rw[h1 w hS];simp only[Oper.upon];refine (h2 w hS).mono ?_;rintro _ _ ⟨rfl,rfl⟩;exact hk
theorem EN{j:Nat}{oi oj:Oper}{v:Value}(hj:ops[j]? = some oj)(hap:oi.apart ops oj=true)
  (hsi:∀ cs b,oi.op≠.select cs b) (hsj:∀ cs b,oj.op≠.select cs b)
  (hQ:∀ c a w,Q (.panic c) (a.put oi.dst v) w→Q (.panic c) a w) {K:Act→World→Prop} {a:Act} {w:World}
  (hy:er P ops S oi v a) (h:wpOp P ops Q j K (a.put oi.dst v) w) :
  wpOp P ops Q j (fun a' w'=>er P ops S oi v a'∧K (a'.put oi.dst v) w') a w:=by
 obtain⟨p1,p2,p3⟩:=Oper.apart_spec hap;have kp:∀ (b:Act),er P ops S oi v b→∀ u,er P ops S oi v (b.put oj.dst u):=fun b hb u=>hb.same (execOp_put oi hsi b oj.dst u p3) (wanted_put oi b oj.dst u p3);have kd:∀ d,er P ops S oi v { a with defers:=d :: a.defers }:=fun d=>hy.same rfl rfl
 simp only[wpOp,hj] at h ⊢;rw[wanted_put oj a oi.dst v p1] at h
 by_cases hw:Region.wanted oj (yielded ops a.tmps)=true
 ·rw[if_pos hw] at h ⊢
  rcases h with h | ⟨ha,hl⟩
  ·left
   unfold Oper.wp at h ⊢;rw[execOp_put oj hsj a oi.dst v p1] at h;cases hr:(execOp a.eval oj).run P w with
   | ok n w' =>
    rw[hr] at h;cases n with
    | value u=>simp only[Oper.upon] at h ⊢;exact⟨kp a hy u,by rw[← Act.put_comm a v u p2];exact h⟩
    | skip=>simp only[Oper.upon] at h ⊢;exact⟨kp a hy _,by rw[← Act.put_comm a v undef p2];exact h⟩
    | defer d =>
     simp only[Oper.upon] at h ⊢;refine⟨kp _ (kd d) _,?_⟩;rw[← Act.put_comm _ v undef p2,← Act.put_defers];exact h
    | enter f args =>
     simp only[Oper.upon] at h ⊢;refine Calls.mono h fun e w'' he=>?_;cases e with
     | returned u=>exact⟨kp a hy u,by rw[← Act.put_comm a v u p2];exact he⟩
     | panicked c=>exact hQ _ _ _ he
     | outgrown=>exact he
    | row row args=>simp only[Oper.upon] at h ⊢;exact Rows.mono h fun u w'' he=>⟨kp a hy u,by rw[← Act.put_comm a v u p2];exact he⟩
    | _=>first | exact h | (simp only[Oper.upon] at h ⊢;exact h)
   | halt x w' =>
    rw[hr] at h;cases x <;> simp only[Oper.upon] at h ⊢
    case panic u=>exact hQ _ _ _ h
  ·right
   exact⟨by unfold Oper.asks at *;rw[execOp_put oj hsj a oi.dst v p1] at ha;exact ha,hl⟩
 ·rw[if_neg hw] at h ⊢;exact⟨kp a hy _,by rw[← Act.put_comm a v undef p2];exact h⟩
theorem wB{f:Option Nat}{i:Nat}{oi:Oper}{v:Value}(hi:ops[i]? = some oi)(hs:Region.noSelect ops=true)(hw:lr md ops f i=true)
  (hQ:∀ c a w,Q (.panic c) (a.put oi.dst v) w→Q (.panic c) a w) :
  ∀ (fuel:Nat) (listed:Array Bool) (a:Act) (w:World),nY md ops listed →
   (∀ j oj,ops[j]? = some oj→j≠i→listed.getD j true=false→(∀ e ∈ oj.after,Region.binds md e=true→e.on≠i)→oi.apart ops oj=true) →
   i ∈ Region.ready md ops listed→er P ops S oi v a→S w →
   ip P md ops Q f S fuel (listed.setIfInBounds i true) (a.put oi.dst v) w→ip P md ops Q f S (fuel+1) listed a w:=by
 have hne:f≠some i:=by
  rintro rfl;simp[lr] at hw
 intro fuel
 induction fuel with
 | zero =>
  intro listed a w _ _ hr hy hS H;refine⟨fun h=>absurd hr (by rw[h];exact List.not_mem_nil),fun j hj=>?_⟩
  by_cases e:j=i
  ·subst e;exact hy.wpOp hi hS (.inr ⟨hne,hS,H⟩)
  ·have h0:=ready_mono hj e;rw[H.1] at h0;cases h0
 | succ fuel ih =>
  intro listed a w hsh hap hr hy hS H;refine⟨fun h=>absurd hr (by rw[h];exact List.not_mem_nil),fun j hj=>?_⟩
  by_cases e:j=i
  ·subst e;exact hy.wpOp hi hS (.inr ⟨hne,hS,H⟩)
  obtain⟨hlj,oj,hoj,hall⟩:=mem_ready.1 hj;have hli:=(mem_ready.1 hr).1;have hno1:listed.getD i false≠true:=by
   intro h1
   by_cases hb2:i < listed.size
   ·rw[iC hb2 false true,hli] at h1;cases h1
   ·simp[Array.getD,hb2] at h1
  have hno:∀ ed ∈ oj.after,Region.binds md ed=true→ed.on≠i:=by
   intro ed hed hb hon;have h1:=hall ed hed hb;rw[hon] at h1;exact hno1 h1
  have hjf:f≠some j:=by
   rintro rfl;simp only[lr,Bool.and_eq_true] at hw;exact hno1 (ng hsh 5 hj hw.2)
  have h1:=H.2 j (ready_mono hj e);have h2:=EN hoj (hap j oj hoj e hlj hno) (fun cs b=>Region.noSelect_spec hs i oi cs b hi) (fun cs b=>Region.noSelect_spec hs j oj cs b hoj) hQ hy h1;refine wpOp_mono (fun a' w' h3=>?_) h2;obtain⟨hy',h4⟩:=h3
  rcases h4 with h4 | ⟨_,hS',h4⟩
  ·exact absurd h4.1 hjf
  refine .inr ⟨hjf,hS',ih (listed.setIfInBounds j true) a' w' (hsh.set hj) ?_ (ready_mono hr (Ne.symm e)) hy' hS' ?_⟩
  ·intro k ok hok hki hlk;refine hap k ok hok hki ?_
   by_cases hkj:j=k
   ·subst hkj;exact hlj
   ·rwa [getD_set_ne true hkj] at hlk
  ·rw[Array.setIfInBounds_comm _ _ e];exact h4
theorem ox{o:Oper}{v:Value}{a:Act}(h:YieldsIf P ops (fun _=>True) o v a):Yields P ops o v a :=
 h.imp (fun ⟨hw,hv⟩=>⟨hw,fun w=>hv w trivial⟩) id
theorem wC{f:Option Nat}{i:Nat}{oi:Oper}{v:Value}(hi:ops[i]? = some oi)(hs:Region.noSelect ops=true)(hne:f≠some i)
  (hQ:∀ c a w,Q (.panic c) (a.put oi.dst v) w→Q (.panic c) a w) :
  ∀ (fuel:Nat) (listed:Array Bool) (a:Act) (w:World),
   (∀ j oj,ops[j]? = some oj→j≠i→listed.getD j true=false→(∀ e ∈ oj.after,Region.binds md e=true→e.on≠i)→oi.apart ops oj=true) →
   i ∈ Region.ready md ops listed→YieldsIf P ops (fun _=>True) oi v a→S w →
   ip P md ops Q f S fuel (listed.setIfInBounds i true) (a.put oi.dst v) w→ip P md ops Q f S (fuel+1) listed a w:=by
 intro fuel
 induction fuel with
 | zero =>
  intro listed a w _ hr hy hS H;refine⟨fun h=>absurd hr (by rw[h];exact List.not_mem_nil),fun j hj=>?_⟩
  by_cases e:j=i
  ·subst e;exact hy.wpOp hi trivial (.inr ⟨hne,hS,H⟩)
  ·have h0:=ready_mono hj e;rw[H.1] at h0;cases h0
 | succ fuel ih =>
  intro listed a w hap hr hy hS H;refine⟨fun h=>absurd hr (by rw[h];exact List.not_mem_nil),fun j hj=>?_⟩
  by_cases e:j=i
  ·subst e;exact hy.wpOp hi trivial (.inr ⟨hne,hS,H⟩)
  obtain⟨hlj,oj,hoj,hall⟩:=mem_ready.1 hj;have hli:=(mem_ready.1 hr).1;have hno:∀ ed ∈ oj.after,Region.binds md ed=true→ed.on≠i:=by
   intro ed hed hb hon;have h1:=hall ed hed hb;rw[hon] at h1
   by_cases hb2:i < listed.size
   ·rw[iC hb2 false true,hli] at h1;cases h1
   ·simp[Array.getD,hb2] at h1
  have h1:=H.2 j (ready_mono hj e);have h2:=wpOp_putIf hoj (hap j oj hoj e hlj hno) (fun cs b=>Region.noSelect_spec hs i oi cs b hi) (fun cs b=>Region.noSelect_spec hs j oj cs b hoj) hQ hy h1;have hap':∀ k ok,ops[k]? = some ok→k≠i→(listed.setIfInBounds j true).getD k true=false→(∀ e ∈ ok.after,Region.binds md e=true→e.on≠i)→oi.apart ops ok=true:=by
   intro k ok hok hki hlk;refine hap k ok hok hki ?_
   by_cases hkj:j=k
   ·subst hkj;exact hlj
   ·rwa [getD_set_ne true hkj] at hlk
  refine wpOp_mono (fun a' w' h3=>?_) h2;obtain⟨hy',h4⟩:=h3
  rcases h4 with ⟨hf,h4⟩ | ⟨hf,hS',h4⟩
  ·refine .inl ⟨hf,wpAny_first hi (Region.noSelect_spec hs) hQ fuel _ a' w' hap' (ready_mono hr (Ne.symm e)) (ox hy') ?_⟩;rw[Array.setIfInBounds_comm _ _ e];exact h4
  ·refine .inr ⟨hf,hS',ih (listed.setIfInBounds j true) a' w' hap' (ready_mono hr (Ne.symm e)) hy' hS' ?_⟩;rw[Array.setIfInBounds_comm _ _ e];exact h4
theorem bD(hs:Region.noSelect ops=true)(hQ:∀ c a d v w,Q (.panic c) (Act.put a d v) w→Q (.panic c) a w):
  ∀ (t:Tr) (S:World→Prop) (listed:Array Bool) (a:Act) (w:World),Tl md ops t listed=true→nY md ops listed→S w→Tp P ops Q t S a w→ip P md ops Q t.next S t.len listed a w
 | .done,S,l,a,w,hb,hsh,hS,h=>by
  simp only[Tl,List.isEmpty_iff] at hb;exact⟨hb,h⟩
 | .take i t,S,l,a,w,hb,hsh,hS,h=>by
  simp only[Tl,Bool.and_eq_true] at hb;obtain⟨o,v,ho,hy,hn⟩:=h;exact nO ho hs hb.1.1.1 (fun c a w h=>hQ c a _ _ w h) _ _ _ _ hsh (Region.free_spec ho hb.1.1.2) (by simpa using hb.1.2) hy hS (bD hs hQ t S _ _ w hb.2 (hsh.set (by simpa using hb.1.2)) hS hn)
 | .call i t,S,l,a,w,hb,hsh,hS,h=>by
  simp only[Tl,Bool.and_eq_true] at hb;obtain⟨o,v,ho,hy,hn⟩:=h;exact wB ho hs hb.1.1.1 (fun c a w h=>hQ c a _ _ w h) _ _ _ _ hsh (Region.free_spec ho hb.1.1.2) (by simpa using hb.1.2) hy hS (bD hs hQ t S _ _ w hb.2 (hsh.set (by simpa using hb.1.2)) hS hn)
 | .pure i t,S,l,a,w,hb,hsh,hS,h=>by
  simp only[Tl,Bool.and_eq_true,bne_iff_ne] at hb;obtain⟨o,v,ho,hy,hn⟩:=h;exact wC ho hs hb.1.1.1 (fun c a w h=>hQ c a _ _ w h) _ _ _ _ (Region.free_spec ho hb.1.1.2) (by simpa using hb.1.2) hy.yieldsIf hS (bD hs hQ t S _ _ w hb.2 (hsh.set (by simpa using hb.1.2)) hS hn)
 | .run i t,S,l,a,w,hb,hsh,hS,h=>by
  simp only[Tl,Bool.and_eq_true,beq_iff_eq,bne_iff_ne] at hb;refine⟨fun h0=>absurd (hb.1.2.symm.trans h0) sm,fun j hj=>?_⟩;have hj0:=hj;rw[hb.1.2] at hj;obtain rfl:j=i:=by simpa using hj
  exact wpOp_mono (fun a' w' ⟨S',h1,h2,h3⟩=>.inr ⟨hb.1.1,h1 _ h2,dj h1 _ _ _ _ (bD hs hQ t S' _ _ _ hb.2 (hsh.set hj0) h2 h3)⟩) h
 | .two i t j u,S,l,a,w,hb,hsh,hS,h=>by
  simp only[Tl,Bool.and_eq_true,beq_iff_eq,bne_iff_ne] at hb;obtain⟨⟨⟨⟨⟨⟨hi,hj⟩,hu⟩,hb1⟩,hl⟩,hb2⟩,hb3⟩:=hb;refine⟨fun h0=>absurd (hb1.symm.trans h0) sm,fun k hk=>?_⟩;have hk0:=hk;rw[hb1] at hk;have hk:k=i∨k=j:=by simpa using hk
  rcases hk with rfl | rfl
  ·exact wpOp_mono (fun a' w' ⟨S',h1,h2,h3⟩=>.inr ⟨hi,h1 _ h2,dj h1 _ _ _ _ (bD hs hQ t S' _ _ _ hb2 (hsh.set hk0) h2 h3)⟩) h.1
  ·refine wpOp_mono (fun a' w' ⟨S',h1,h2,h3⟩=>.inr ⟨hj,h1 _ h2,dj h1 _ _ _ _ ?_⟩) h.2;have h4:=bD hs hQ u S' _ _ _ hb3 (hsh.set hk0) h2 h3;rw[hu,← hl] at h4;exact h4
 | .brk i t,S,l,a,w,hb,hsh,hS,h=>by
  simp only[Tl,Bool.and_eq_true,beq_iff_eq] at hb;refine⟨fun h0=>absurd (hb.1.symm.trans h0) sm,fun j hj=>?_⟩;have hj0:=hj;rw[hb.1] at hj;obtain rfl:j=i:=by simpa using hj
  exact wpOp_mono (fun a' w' ⟨S',h2,h3⟩=>.inl ⟨rfl,gQ _ _ _ _ (bD hs hQ t S' _ _ _ hb.2 (hsh.set hj0) h2 h3)⟩) h
def NP(Q:Exit→Act→World→Prop):Exit→Act→World→Prop
 | .panic _,_,_=>False
 | e,a,w=>Q e a w
theorem NP.imp:∀ (e:Exit) (a:Act) (w:World),NP Q e a w→Q e a w:=fun e a w h=>by
 cases e <;> first | exact h | exact (h:False).elim
theorem gm{id:Nat}{a:Act}{w:World}(t:Tr)(S:World→Prop)(hm:P.follows .mixedOrders=true)(hs:Region.noSelect ops=true)
  (hl:ops.size=t.len) (hb:Tl .any ops t (Array.replicate ops.size false)=true) (hS:S w.drew) (h:Tp P ops (NP Q) t S a w.drew):(Code.region id ops true).wp P Q a w:=by
 refine Code.wp_mono NP.imp ?_;refine wp_region_any hm ?_;have h1:=gQ _ _ _ _ (bD (md:=.any) hs (fun c a d v w h=>h) t S _ _ _ hb (fun m o _ hm=>(by simp[Array.getD] at hm)) hS h)
 rw[← hl] at h1;exact h1
theorem al{S:World→Prop}{a:Act}{w:World}(h:Q .normal a w):Tp P ops (NP Q) .done S a w:=h
section
variable {i:Nat} {o:Oper} {t:Tr} {a:Act} {w:World}
theorem ju(ho:ops[i]? = some o)(hw:Region.wanted o (yielded ops a.tmps)=true)(h:∃ v,(∀ w,S w→(execOp a.eval o).run P w = .ok (.value v) w)∧Tp P ops Q t S (a.put o.dst v) w):Tp P ops Q (.take i t) S a w :=
 let ⟨v,h1,h2⟩:=h
 ⟨o,v,ho,.inl ⟨hw,h1⟩,h2⟩
theorem nK(ho:ops[i]? = some o)(hw:Region.wanted o (yielded ops a.tmps)=true)(h:∃ f args v,(∀ w,S w→(execOp a.eval o).run P w = .ok (.enter f args) w)∧(∀ w,S w→Calls P f args w fun e w'=>e = .returned v∧w'=w)∧Tp P ops Q t S (a.put o.dst v) w):Tp P ops Q (.call i t) S a w :=
 let ⟨f,args,v,h1,h2,h3⟩:=h
 ⟨o,v,ho,⟨hw,f,args,h1,h2⟩,h3⟩
theorem rg(ho:ops[i]? = some o)(hw:Region.wanted o (yielded ops a.tmps)=false)(h:Tp P ops Q t S (a.put o.dst undef) w):Tp P ops Q (.take i t) S a w :=
 ⟨o,undef,ho,.inr ⟨hw,rfl⟩,h⟩
theorem kj(ho:ops[i]? = some o)(x:Operand)(hx:o.op = .move x)(hw:Region.wanted o (yielded ops a.tmps)=true)(h:Tp P ops Q t S (a.put o.dst (a.eval x)) w):Tp P ops Q (.take i t) S a w :=
 ⟨o,_,ho,.inl ⟨hw,fun w _=>by rw[execOp,hx];rfl⟩,h⟩
theorem ft(ho:ops[i]? = some o)(x:Operand)(hx:o.op = .assign x)(hw:Region.wanted o (yielded ops a.tmps)=true)(h:Tp P ops Q t S (a.put o.dst (a.eval x)) w):Tp P ops Q (.take i t) S a w :=
 ⟨o,_,ho,.inl ⟨hw,fun w _=>by rw[execOp,hx];rfl⟩,h⟩
theorem Lw(ho:ops[i]? = some o)(hw:Region.wanted o (yielded ops a.tmps)=false)(hS:S w)(h:Tp P ops Q t S (a.put o.dst undef) w):Tp P ops Q (.run i t) S a w:=by
 show wpOp P ops Q i _ a w
 unfold wpOp;rw[ho];simp only[hw,Bool.false_eq_true,if_false];exact⟨S,fun _ h=>h,hS,h⟩
theorem DF(ho:ops[i]? = some o)(hw:Region.wanted o (yielded ops a.tmps)=true)
  (h:∃ f args,(execOp a.eval o).run P w = .ok (.enter f args) w∧Calls P f args w fun e w'=>∃ v,e = .returned v∧∃ S':World→Prop,(∀ u,S' u→S u)∧S' w'∧Tp P ops Q t S' (a.put o.dst v) w'):Tp P ops Q (.run i t) S a w:=by
 obtain⟨f,args,h1,h2⟩:=h
 show wpOp P ops Q i _ a w
 unfold wpOp;rw[ho];simp only[hw,if_true];refine .inl ?_;unfold Oper.wp;rw[h1];simp only[Oper.upon];refine h2.mono ?_;rintro _ w' ⟨v,rfl,hv⟩;exact hv
theorem fJ(ho:ops[i]? = some o)(hw:Region.wanted o (yielded ops a.tmps)=true)
  (h:∃ v w',(execOp a.eval o).run P w = .ok (.value v) w'∧∃ S':World→Prop,(∀ u,S' u→S u)∧S' w'∧Tp P ops Q t S' (a.put o.dst v) w'):Tp P ops Q (.run i t) S a w:=by
 obtain⟨v,w',h1,h2⟩:=h
 show wpOp P ops Q i _ a w
 unfold wpOp;rw[ho];simp only[hw,if_true];refine .inl ?_;unfold Oper.wp;rw[h1];exact h2
theorem tb(ho:ops[i]? = some o)(hw:Region.wanted o (yielded ops a.tmps)=true)
  (h:∃ w',(execOp a.eval o).run P w = .ok .skip w'∧∃ S':World→Prop,(∀ u,S' u→S u)∧S' w'∧Tp P ops Q t S' (a.put o.dst undef) w'):Tp P ops Q (.run i t) S a w:=by
 obtain⟨w',h1,h2⟩:=h
 show wpOp P ops Q i _ a w
 unfold wpOp;rw[ho];simp only[hw,if_true];refine .inl ?_;unfold Oper.wp;rw[h1];exact h2
theorem dd(ho:ops[i]? = some o)(hw:Region.wanted o (yielded ops a.tmps)=true)
  (h:∀ K:Act→World→Prop,(∀ (a':Act) (w':World) (S':World→Prop),(∀ u,S' u→S u)→S' w'→Tp P ops Q t S' a' w'→K a' w')→Oper.wp P o a w K Q):Tp P ops Q (.run i t) S a w:=by
 show wpOp P ops Q i _ a w
 unfold wpOp;rw[ho];simp only[hw,if_true];exact .inl (h _ fun a' w' S' h1 h2 h3=>⟨S',h1,h2,h3⟩)
theorem xa(ho:ops[i]? = some o)(hw:Region.wanted o (yielded ops a.tmps)=true)
  (h:∃ f args,(execOp a.eval o).run P w = .ok (.enter f args) w∧Calls P f args w fun e w'=>∃ v,e = .returned v∧∃ S':World→Prop,S' w'∧Tp P ops Q t S' (a.put o.dst v) w'):Tp P ops Q (.brk i t) S a w:=by
 obtain⟨f,args,h1,h2⟩:=h
 show wpOp P ops Q i _ a w
 unfold wpOp;rw[ho];simp only[hw,if_true];refine .inl ?_;unfold Oper.wp;rw[h1];simp only[Oper.upon];refine h2.mono ?_;rintro _ w' ⟨v,rfl,hv⟩;exact hv
theorem et(ho:ops[i]? = some o)(hw:Region.wanted o (yielded ops a.tmps)=true)
  (h:∀ K:Act→World→Prop,(∀ (a':Act) (w':World) (S':World→Prop),S' w'→Tp P ops Q t S' a' w'→K a' w')→Oper.wp P o a w K Q):Tp P ops Q (.brk i t) S a w:=by
 show wpOp P ops Q i _ a w
 unfold wpOp;rw[ho];simp only[hw,if_true];exact .inl (h _ fun a' w' S' h2 h3=>⟨S',h2,h3⟩)
end
end
end
section
def tk(i : Nat): Nat → Tr → Tr
  | 0, t => t
  | n + 1, t => .take i (tk (i + 1) n t)
section
variable {P : Program} {ops : Array Oper} {Q : Exit → Act → World → Prop} {S : World → Prop} {i : Nat} {o : Oper} {t : Tr} {a : Act} {w : World}
theorem yO(h : Tp P ops Q t S (a.put o.dst undef) w)(ho : ops[i]? = some o := by exact rfl)(hw : Region.wanted o (yielded ops a.tmps) = false := by exact rfl): Tp P ops Q (.take i t) S a w := rg ho hw h
def P8 : Op → Option Operand
  | .move x => some x
  | .assign x => some x
  | _ => none
theorem yM{x : Operand}(h : Tp P ops Q t S (a.put o.dst (a.eval x)) w)(ho : ops[i]? = some o := by exact rfl)(hx : P8 o.op = some x := by exact rfl)(hw : Region.wanted o (yielded ops a.tmps) = true := by exact rfl): Tp P ops Q (.take i t) S a w := by
  unfold P8 at hx
  split at hx <;> cases hx
  · exact kj ho _ ‹_› hw h
  · exact ft ho _ ‹_› hw h
theorem S6{x : Operand}(hx : P8 o.op = some x)(hw : Region.wanted o (yielded ops a.tmps) = true): YieldsIf P ops S o (a.eval x) a := by
  unfold P8 at hx
  split at hx <;> cases hx
  · exact .inl ⟨hw, fun w _ => by rw[execOp, ‹o.op = _›]; rfl⟩
  · exact .inl ⟨hw, fun w _ => by rw[execOp, ‹o.op = _›]; rfl⟩
theorem yV{v : Value}(h : Tp P ops Q t S (a.put o.dst v) w)(ho : ops[i]? = some o := by exact rfl)(hw : Region.wanted o (yielded ops a.tmps) = true := by exact rfl)(hv : ∀ w', S w' → (execOp a.eval o).run P w' = .ok (.value v) w' := by intro w' hC'; go_simp; (first | done | exact rfl)): Tp P ops Q (.take i t) S a w := ju ho hw ⟨v, hv, h⟩
theorem yC{v : Value}(h : Tp P ops Q t S (a.put o.dst v) w)(ho : ops[i]? = some o := by exact rfl)(hw : Region.wanted o (yielded ops a.tmps) = true := by exact rfl)(hv : ∀ w', S w' → (execOp a.eval o).run P w' = .ok (.value v) w' := by intro w' hC'; cases hC'; go_simp; (first | done | exact rfl)): Tp P ops Q (.take i t) S a w := ju ho hw ⟨v, hv, h⟩
theorem yF{v : Value}(ho : ops[i]? = some o)(hw : Region.wanted o (yielded ops a.tmps) = true)(hv : ∀ w', S w' → (execOp a.eval o).run P w' = .ok (.value v) w')(h : Tp P ops Q t S (a.put o.dst v) w): Tp P ops Q (.take i t) S a w := ju ho hw ⟨v, hv, h⟩
theorem yA{v : Value}(h : Tp P ops Q t S (a.put o.dst v) w)(ho : ops[i]? = some o := by exact rfl)(hy : YieldsIf P ops S o v a := by first | exact .inr ⟨rfl, rfl⟩ | exact (S6 rfl rfl) | exact .inl ⟨rfl, by intro w' hC'; go_simp; (first | done | exact rfl)⟩): Tp P ops Q (.take i t) S a w := ⟨o, v, ho, hy, h⟩
theorem yB{v : Value}(h : Tp P ops Q t S (a.put o.dst v) w)(ho : ops[i]? = some o := by exact rfl)(hy : YieldsIf P ops S o v a := by first | exact .inr ⟨rfl, rfl⟩ | exact (S6 rfl rfl) | exact .inl ⟨rfl, by intro w' hC'; cases hC'; go_simp; (first | done | exact rfl)⟩): Tp P ops Q (.take i t) S a w := ⟨o, v, ho, hy, h⟩
theorem kS{d : Option Nat}{v : Value}(hS : S w)(h : Tp P ops Q t S (a.put d v) w): ∃ v', Ending.returned v = .returned v' ∧ ∃ S' : World → Prop, (∀ u, S' u → S u) ∧ S' w ∧ Tp P ops Q t S' (a.put d v') w := ⟨v, rfl, S, fun _ h => h, hS, h⟩
theorem kC{d : Option Nat}{v : Value}(hS : S w)(h : Tp P ops Q t S (a.put d v) w): ∃ S' : World → Prop, (∀ u, S' u → S u) ∧ S' w ∧ Tp P ops Q t S' (a.put d v) w := ⟨S, fun _ h => h, hS, h⟩
theorem yR{f : FuncId}{args : Array Value}(h : Calls P f args w fun e w' => ∃ v, e = .returned v ∧ ∃ S' : World → Prop, (∀ u, S' u → S u) ∧ S' w' ∧ Tp P ops Q t S' (a.put o.dst v) w')(ho : ops[i]? = some o := by exact rfl)(hw : Region.wanted o (yielded ops a.tmps) = true := by exact rfl)(hr : (execOp a.eval o).run P w = .ok (.enter f args) w := by go_simp; exact ⟨rfl, rfl⟩): Tp P ops Q (.run i t) S a w := DF ho hw ⟨f, args, hr, h⟩
theorem yW{id : Nat}(t : Tr)(S : World → Prop)(hS : S w.drew)(h : Tp P ops (NP Q) t S a w.drew)(hm : P.follows .mixedOrders = true := by kernel_rfl)(hs : Region.noSelect ops = true := by kernel_rfl)(hl : ops.size = t.len := by exact rfl)(hb : Tl .any ops t (Array.replicate ops.size false) = true := by kernel_rfl): (Code.region id ops true).wp P Q a w := gm t S hm hs hl hb hS h
end
end
section
def fw{α:Type}(f:α→Value){n:Nat}(x:Vector α n):Array Value:=x.toArray.map f
def W4(x:UInt32):Value:=.int .u32 (wI x)
@[go_sem] theorem Rm(x:UInt32):W4 x = .int .u32 (wI x):=rfl
theorem I7(x:UInt32):(W4 x).oneCell'=true:=rfl
theorem ff(x:UInt8):(B8 x).oneCell'=true:=rfl
section
variable {α:Type} (f:α→Value) {n:Nat} (x:Vector α n)
@[simp] theorem fd:(fw f x).size=n:=by simp[fw]
theorem gD(i:Nat)(h:i < n):(fw f x)[i]? = some (f x[i]):=by simp[fw,h]
theorem ep(h:∀ a,(f a).oneCell'=true):∀ v ∈ fw f x,v.oneCell'=true:=by
 intro v hv;simp only[fw,Array.mem_map] at hv;obtain⟨a,_,rfl⟩:=hv;exact h a
theorem OH(i:Nat)(h:i < n)(a:α):bK (fw f x) i #[f a]=fw f (x.set i a):=by
 apply Array.ext_getElem?
 intro j;rw[bU _ _ _ sO];simp only[List.size_toArray,List.length_cons,List.length_nil,fd]
 by_cases hj:j < n
 ·rw[gD f _ j hj]
  by_cases e:i=j
  ·subst e;rw[if_pos om,gD f _ i hj];simp
  ·rw[if_neg om,gD f _ j hj,Vector.getElem_set_ne _ _ e]
 ·rw[if_neg om];simp[fw,hj]
end
theorem nZ{n:Nat}(x:Vector UInt8 n):av x=fw B8 x:=rfl
structure Row {α:Type} (f:α→Value) (w:World) (b:Nat) {n:Nat} (x:Vector α n):Prop where
 r:readAt w b 0 n=some (fw f x)
 k:canAt w b 0 n=true
section
variable {α:Type} {f:α→Value} {w w':World} {b n:Nat} {x:Vector α n}
theorem Row.lt(h:Row f w b x):b < w.heap.size:=ac h.r
theorem Row.cell(h:Row f w b x)(i:Nat)(hi:i < n):w.cell? ⟨b,i,none⟩=some (f x[i]):=by
 have:=ab h.r i _ (gD f x i hi);rwa [Nat.zero_add] at this
theorem Row.free(h:Row f w b x)(i:Nat):w.frozen? ⟨b,i,none⟩=false:=by
 have:=bq h.k i;rwa [Nat.zero_add] at this
theorem Row.same(h:Row f w b x)(hb:w'.heap[b]? = w.heap[b]?):Row f w' b x:=⟨by rw[← h.r];simp[readAt,hb],by rw[← h.k];simp[canAt,hb]⟩
theorem Row.below(h:Row f w b x)(hb:Below w.heap.size w w'):Row f w' b x:=h.same (hb.block b h.lt)
theorem Row.set(h:Row f w b x)(i:Nat)(hi:i < n)(a:α):Row f (w.setCell ⟨b,i,none⟩ (f a)) b (x.set i a):=by
 have hk:=aC h.k i 1 om;rw[aK hk];exact⟨by rw[ae w b 0 n _ h.r h.k i _ om sO,Nat.sub_zero,OH f x i hi a],by rw[ap _ _ _ _ _ _ _ hk];exact h.k⟩
theorem Row.other(h:Row f w b x)(p:Addr)(v:Value)(hp:p.block≠b):Row f (w.setCell p v) b x:=h.same (Below.heap_setCell _ _ _ _ (fun e=>hp e.symm))
theorem Row.made(w:World)(t:TypeId)(x:Vector α n):Row f (w.alloc (.cells (fw f x) t)) w.heap.size x :=
 ⟨by rw[aj _ _ _ _ _ _ _ rfl sm];simp,by rw[aq _ _ _ _ _ _ rfl sm]⟩
theorem Row.all(h:Row f w b x)(y:Vector α n):Row f (setAt w b 0 (fw f y)) b y :=
 ⟨by rw[am _ _ _ _ _ sm (by simpa using h.k)],by rw[ap _ _ _ _ _ _ _ (by simpa using h.k)];exact h.k⟩
theorem Row.apart(h:Row f w b x)(b' o:Nat)(cs:Array Value)(hb:b'≠b):Row f (setAt w b' o cs) b x:=h.same (aw w b' o cs b (Ne.symm hb))
end
theorem iQ{P:Program}{α:Type}(f:α→Value){n:Nat}(x:Vector α n)(t e:TypeId)(k:IntKind)(j:Nat)(hu:P.underlying t=some (.array n e))(hi:(P.info? e).map (·.size)=some 1)(hp:P.plainKey e=true)(hj:j < n)(w:World):
  (Instr.index t (.agg (fw f x)) (.int k (j:Int))).run P w = .ok (f x[j]) w:=by
 cases hq:P.info? e with
 | none=>simp[hq] at hi
 | some i =>
  have hs:i.size=1:=by simpa [hq] using hi
  have h1:=run_part_plain w hp (gD f x j hj);have h2:(j:Int) < (n:Int):=om;have h3 : ¬ n≤j:=om;simp[Instr.index,run_underlying hu,asIntOf,h2,sizeOf,typeInfo,hq,hs,h1,h3,hj]
abbrev Sq:=Vector UInt32 64
def oy:Sq:=Vector.replicate 64 0
theorem qB:(prog.info? 296).map (·.size)=some 64:=kr
theorem IZ:(prog.info? 296).bind (·.zero)=some (.agg (fw W4 oy)):=kr
def uv(v:Value):Sem Value:=Instr.loadAt 296 v
def wV(v x:Value):Sem Unit:=Instr.storeAt 296 v x
def pJ:Sem Value:=Instr.alloc 296 true (.tuple #[])
@[go_sem ↓] theorem Nj(v:Value):Instr.loadAt 296 v=uv v:=rfl
@[go_sem ↓] theorem Mq(v x:Value):Instr.storeAt 296 v x=wV v x:=rfl
@[go_sem ↓] theorem N9:Instr.alloc 296 true (.tuple #[])=pJ:=rfl
@[go_sem ↓] theorem LV(w:World)(b o:Nat)(h:(readAt w b o 64).isSome=true):
  (uv (.pointer (some ⟨b,o,none⟩))).run prog w = .ok (.agg ((readAt w b o 64).getD #[])) w:=by
 obtain⟨cs,hc⟩:=Option.isSome_iff_exists.1 h;unfold uv;rw[aJ w b o 64 296 _ cs hc underlying296 rfl qB,hc];rfl
@[go_sem ↓] theorem tr(w:World)(b o:Nat)(x:Sq)(h:canAt w b o 64=true):
  (wV (.pointer (some ⟨b,o,none⟩)) (.agg (fw W4 x))).run prog w = .ok () (setAt w b o (fw W4 x)) :=
 aH w b o 64 296 (fw W4 x) h (fd W4 x) qB (ep W4 x I7)
@[go_sem] theorem Jz(w:World):pJ.run prog w = .ok (.pointer (some ⟨w.heap.size,0,none⟩)) (w.alloc (.cells (fw W4 oy) 296)):=by
 obtain⟨i,hi,hz⟩:=Option.bind_eq_some_iff.1 IZ;unfold pJ;simp[Instr.alloc,zeroValue,typeInfo,hi,hz,newVar,newRow,Value.cells]
theorem nm{fn:Func}{p:Tmp}(h:fn.results=#[.cell p 296])(tmps:Array Value)(w:World)(b o:Nat)(cs:Array Value)
  (hp:tmps.getD p undef = .pointer (some ⟨b,o,none⟩)) (hg:readAt w b o 64=some cs):(results fn tmps).run prog w = .ok (.agg cs) w:=by
 have hp':tmps[p]?.getD undef = .pointer (some ⟨b,o,none⟩):=by simpa using hp
 simp[results,h,hp',asAddr,az w b o 64 296 _ cs hg underlying296 rfl qB]
abbrev W8:=Vector UInt32 8
def Tt:W8:=Vector.replicate 8 0
theorem uY:(prog.info? 248).map (·.size)=some 8:=kr
theorem MZ:(prog.info? 248).bind (·.zero)=some (.agg (fw W4 Tt)):=kr
def A0(v:Value):Sem Value:=Instr.loadAt 248 v
def uz(v x:Value):Sem Unit:=Instr.storeAt 248 v x
def ui:Sem Value:=Instr.alloc 248 true (.tuple #[])
@[go_sem ↓] theorem OV(v:Value):Instr.loadAt 248 v=A0 v:=rfl
@[go_sem ↓] theorem NQ(v x:Value):Instr.storeAt 248 v x=uz v x:=rfl
@[go_sem ↓] theorem PO:Instr.alloc 248 true (.tuple #[])=ui:=rfl
@[go_sem ↓] theorem Nu(w:World)(b o:Nat)(h:(readAt w b o 8).isSome=true):
  (A0 (.pointer (some ⟨b,o,none⟩))).run prog w = .ok (.agg ((readAt w b o 8).getD #[])) w:=by
 obtain⟨cs,hc⟩:=Option.isSome_iff_exists.1 h;unfold A0;rw[aJ w b o 8 248 _ cs hc underlying248 rfl uY,hc];rfl
@[go_sem ↓] theorem vL(w:World)(b o:Nat)(x:W8)(h:canAt w b o 8=true):
  (uz (.pointer (some ⟨b,o,none⟩)) (.agg (fw W4 x))).run prog w = .ok () (setAt w b o (fw W4 x)) :=
 aH w b o 8 248 (fw W4 x) h (fd W4 x) uY (ep W4 x I7)
@[go_sem] theorem LJ(w:World):ui.run prog w = .ok (.pointer (some ⟨w.heap.size,0,none⟩)) (w.alloc (.cells (fw W4 Tt) 248)):=by
 obtain⟨i,hi,hz⟩:=Option.bind_eq_some_iff.1 MZ;unfold ui;simp[Instr.alloc,zeroValue,typeInfo,hi,hz,newVar,newRow,Value.cells]
theorem i8{fn:Func}{p:Tmp}(h:fn.results=#[.cell p 248])(tmps:Array Value)(w:World)(b o:Nat)(cs:Array Value)
  (hp:tmps.getD p undef = .pointer (some ⟨b,o,none⟩)) (hg:readAt w b o 8=some cs):(results fn tmps).run prog w = .ok (.agg cs) w:=by
 have hp':tmps[p]?.getD undef = .pointer (some ⟨b,o,none⟩):=by simpa using hp
 simp[results,h,hp',asAddr,az w b o 8 248 _ cs hg underlying248 rfl uY]
abbrev RU:=Vector UInt8 32
def bO:RU:=Vector.replicate 32 0
theorem lI:(prog.info? 35).map (·.size)=some 32:=kr
theorem IV:(prog.info? 35).bind (·.zero)=some (.agg (fw B8 bO)):=kr
def uq(v:Value):Sem Value:=Instr.loadAt 35 v
def wR(v x:Value):Sem Unit:=Instr.storeAt 35 v x
def pF:Sem Value:=Instr.alloc 35 true (.tuple #[])
@[go_sem ↓] theorem Ng(v:Value):Instr.loadAt 35 v=uq v:=rfl
@[go_sem ↓] theorem Mo(v x:Value):Instr.storeAt 35 v x=wR v x:=rfl
@[go_sem ↓] theorem N6:Instr.alloc 35 true (.tuple #[])=pF:=rfl
@[go_sem ↓] theorem LP(w:World)(b o:Nat)(h:(readAt w b o 32).isSome=true):
  (uq (.pointer (some ⟨b,o,none⟩))).run prog w = .ok (.agg ((readAt w b o 32).getD #[])) w:=by
 obtain⟨cs,hc⟩:=Option.isSome_iff_exists.1 h;unfold uq;rw[aJ w b o 32 35 _ cs hc underlying35 rfl lI,hc];rfl
@[go_sem ↓] theorem JN(w:World)(b o:Nat)(x:RU)(h:canAt w b o 32=true):
  (wR (.pointer (some ⟨b,o,none⟩)) (.agg (fw B8 x))).run prog w = .ok () (setAt w b o (fw B8 x)) :=
 aH w b o 32 35 (fw B8 x) h (fd B8 x) lI (ep B8 x ff)
@[go_sem] theorem Ju(w:World):pF.run prog w = .ok (.pointer (some ⟨w.heap.size,0,none⟩)) (w.alloc (.cells (fw B8 bO) 35)):=by
 obtain⟨i,hi,hz⟩:=Option.bind_eq_some_iff.1 IV;unfold pF;simp[Instr.alloc,zeroValue,typeInfo,hi,hz,newVar,newRow,Value.cells]
theorem fK{fn:Func}{p:Tmp}(h:fn.results=#[.cell p 35])(tmps:Array Value)(w:World)(b o:Nat)(cs:Array Value)
  (hp:tmps.getD p undef = .pointer (some ⟨b,o,none⟩)) (hg:readAt w b o 32=some cs):(results fn tmps).run prog w = .ok (.agg cs) w:=by
 have hp':tmps[p]?.getD undef = .pointer (some ⟨b,o,none⟩):=by simpa using hp
 simp[results,h,hp',asAddr,az w b o 32 35 _ cs hg underlying35 rfl lI]
abbrev RW:=Vector UInt8 16
def dq:RW:=Vector.replicate 16 0
theorem lJ:(prog.info? 22).map (·.size)=some 16:=kr
theorem IW:(prog.info? 22).bind (·.zero)=some (.agg (fw B8 dq)):=kr
def ur(v:Value):Sem Value:=Instr.loadAt 22 v
def wS(v x:Value):Sem Unit:=Instr.storeAt 22 v x
def pG:Sem Value:=Instr.alloc 22 true (.tuple #[])
@[go_sem ↓] theorem Nh(v:Value):Instr.loadAt 22 v=ur v:=rfl
@[go_sem ↓] theorem Mp(v x:Value):Instr.storeAt 22 v x=wS v x:=rfl
@[go_sem ↓] theorem N7:Instr.alloc 22 true (.tuple #[])=pG:=rfl
@[go_sem ↓] theorem LQ(w:World)(b o:Nat)(h:(readAt w b o 16).isSome=true):
  (ur (.pointer (some ⟨b,o,none⟩))).run prog w = .ok (.agg ((readAt w b o 16).getD #[])) w:=by
 obtain⟨cs,hc⟩:=Option.isSome_iff_exists.1 h;unfold ur;rw[aJ w b o 16 22 _ cs hc underlying22 rfl lJ,hc];rfl
@[go_sem ↓] theorem JO(w:World)(b o:Nat)(x:RW)(h:canAt w b o 16=true):
  (wS (.pointer (some ⟨b,o,none⟩)) (.agg (fw B8 x))).run prog w = .ok () (setAt w b o (fw B8 x)) :=
 aH w b o 16 22 (fw B8 x) h (fd B8 x) lJ (ep B8 x ff)
@[go_sem] theorem Jv(w:World):pG.run prog w = .ok (.pointer (some ⟨w.heap.size,0,none⟩)) (w.alloc (.cells (fw B8 dq) 22)):=by
 obtain⟨i,hi,hz⟩:=Option.bind_eq_some_iff.1 IW;unfold pG;simp[Instr.alloc,zeroValue,typeInfo,hi,hz,newVar,newRow,Value.cells]
theorem cq{fn:Func}{p:Tmp}(h:fn.results=#[.cell p 22])(tmps:Array Value)(w:World)(b o:Nat)(cs:Array Value)
  (hp:tmps.getD p undef = .pointer (some ⟨b,o,none⟩)) (hg:readAt w b o 16=some cs):(results fn tmps).run prog w = .ok (.agg cs) w:=by
 have hp':tmps[p]?.getD undef = .pointer (some ⟨b,o,none⟩):=by simpa using hp
 simp[results,h,hp',asAddr,az w b o 16 22 _ cs hg underlying22 rfl lJ]
abbrev N8:=Vector UInt8 8
def Tq:N8:=Vector.replicate 8 0
theorem uV:(prog.info? 107).map (·.size)=some 8:=kr
theorem MV:(prog.info? 107).bind (·.zero)=some (.agg (fw B8 Tq)):=kr
def AV(v:Value):Sem Value:=Instr.loadAt 107 v
def A6(v x:Value):Sem Unit:=Instr.storeAt 107 v x
def ud:Sem Value:=Instr.alloc 107 true (.tuple #[])
@[go_sem ↓] theorem OP(v:Value):Instr.loadAt 107 v=AV v:=rfl
@[go_sem ↓] theorem NK(v x:Value):Instr.storeAt 107 v x=A6 v x:=rfl
@[go_sem ↓] theorem PK:Instr.alloc 107 true (.tuple #[])=ud:=rfl
@[go_sem ↓] theorem Nq(w:World)(b o:Nat)(h:(readAt w b o 8).isSome=true):
  (AV (.pointer (some ⟨b,o,none⟩))).run prog w = .ok (.agg ((readAt w b o 8).getD #[])) w:=by
 obtain⟨cs,hc⟩:=Option.isSome_iff_exists.1 h;unfold AV;rw[aJ w b o 8 107 _ cs hc underlying107 rfl uV,hc];rfl
@[go_sem ↓] theorem L7(w:World)(b o:Nat)(x:N8)(h:canAt w b o 8=true):
  (A6 (.pointer (some ⟨b,o,none⟩)) (.agg (fw B8 x))).run prog w = .ok () (setAt w b o (fw B8 x)) :=
 aH w b o 8 107 (fw B8 x) h (fd B8 x) uV (ep B8 x ff)
@[go_sem] theorem LF(w:World):ud.run prog w = .ok (.pointer (some ⟨w.heap.size,0,none⟩)) (w.alloc (.cells (fw B8 Tq) 107)):=by
 obtain⟨i,hi,hz⟩:=Option.bind_eq_some_iff.1 MV;unfold ud;simp[Instr.alloc,zeroValue,typeInfo,hi,hz,newVar,newRow,Value.cells]
abbrev M0:=Vector UInt8 256
def jg:M0:=Vector.replicate 256 0
theorem mL:(prog.info? 299).map (·.size)=some 256:=kr
theorem ET:(prog.info? 299).bind (·.zero)=some (.agg (fw B8 jg)):=kr
def pR(v:Value):Sem Value:=Instr.loadAt 299 v
def rF(v x:Value):Sem Unit:=Instr.storeAt 299 v x
def me:Sem Value:=Instr.alloc 299 true (.tuple #[])
@[go_sem ↓] theorem K9(v:Value):Instr.loadAt 299 v=pR v:=rfl
@[go_sem ↓] theorem JV(v x:Value):Instr.storeAt 299 v x=rF v x:=rfl
@[go_sem ↓] theorem M9:Instr.alloc 299 true (.tuple #[])=me:=rfl
@[go_sem ↓] theorem JJ(w:World)(b o:Nat)(h:(readAt w b o 256).isSome=true):
  (pR (.pointer (some ⟨b,o,none⟩))).run prog w = .ok (.agg ((readAt w b o 256).getD #[])) w:=by
 obtain⟨cs,hc⟩:=Option.isSome_iff_exists.1 h;unfold pR;rw[aJ w b o 256 299 _ cs hc underlying299 rfl mL,hc];rfl
@[go_sem ↓] theorem Ic(w:World)(b o:Nat)(x:M0)(h:canAt w b o 256=true):
  (rF (.pointer (some ⟨b,o,none⟩)) (.agg (fw B8 x))).run prog w = .ok () (setAt w b o (fw B8 x)) :=
 aH w b o 256 299 (fw B8 x) h (fd B8 x) mL (ep B8 x ff)
@[go_sem] theorem G9(w:World):me.run prog w = .ok (.pointer (some ⟨w.heap.size,0,none⟩)) (w.alloc (.cells (fw B8 jg) 299)):=by
 obtain⟨i,hi,hz⟩:=Option.bind_eq_some_iff.1 ET;unfold me;simp[Instr.alloc,zeroValue,typeInfo,hi,hz,newVar,newRow,Value.cells]
theorem lp{fn:Func}{p:Tmp}(h:fn.results=#[.cell p 299])(tmps:Array Value)(w:World)(b o:Nat)(cs:Array Value)
  (hp:tmps.getD p undef = .pointer (some ⟨b,o,none⟩)) (hg:readAt w b o 256=some cs):(results fn tmps).run prog w = .ok (.agg cs) w:=by
 have hp':tmps[p]?.getD undef = .pointer (some ⟨b,o,none⟩):=by simpa using hp
 simp[results,h,hp',asAddr,az w b o 256 299 _ cs hg underlying299 rfl mL]
abbrev EX:=Vector UInt8 176
def iW:EX:=Vector.replicate 176 0
theorem mK:(prog.info? 333).map (·.size)=some 176:=kr
theorem ES:(prog.info? 333).bind (·.zero)=some (.agg (fw B8 iW)):=kr
def pQ(v:Value):Sem Value:=Instr.loadAt 333 v
def rE(v x:Value):Sem Unit:=Instr.storeAt 333 v x
def lZ:Sem Value:=Instr.alloc 333 true (.tuple #[])
@[go_sem ↓] theorem K8(v:Value):Instr.loadAt 333 v=pQ v:=rfl
@[go_sem ↓] theorem JU(v x:Value):Instr.storeAt 333 v x=rE v x:=rfl
@[go_sem ↓] theorem M8:Instr.alloc 333 true (.tuple #[])=lZ:=rfl
@[go_sem ↓] theorem JI(w:World)(b o:Nat)(h:(readAt w b o 176).isSome=true):
  (pQ (.pointer (some ⟨b,o,none⟩))).run prog w = .ok (.agg ((readAt w b o 176).getD #[])) w:=by
 obtain⟨cs,hc⟩:=Option.isSome_iff_exists.1 h;unfold pQ;rw[aJ w b o 176 333 _ cs hc underlying333 rfl mK,hc];rfl
@[go_sem ↓] theorem Ib(w:World)(b o:Nat)(x:EX)(h:canAt w b o 176=true):
  (rE (.pointer (some ⟨b,o,none⟩)) (.agg (fw B8 x))).run prog w = .ok () (setAt w b o (fw B8 x)) :=
 aH w b o 176 333 (fw B8 x) h (fd B8 x) mK (ep B8 x ff)
@[go_sem] theorem G8(w:World):lZ.run prog w = .ok (.pointer (some ⟨w.heap.size,0,none⟩)) (w.alloc (.cells (fw B8 iW) 333)):=by
 obtain⟨i,hi,hz⟩:=Option.bind_eq_some_iff.1 ES;unfold lZ;simp[Instr.alloc,zeroValue,typeInfo,hi,hz,newVar,newRow,Value.cells]
theorem ln{fn:Func}{p:Tmp}(h:fn.results=#[.cell p 333])(tmps:Array Value)(w:World)(b o:Nat)(cs:Array Value)
  (hp:tmps.getD p undef = .pointer (some ⟨b,o,none⟩)) (hg:readAt w b o 176=some cs):(results fn tmps).run prog w = .ok (.agg cs) w:=by
 have hp':tmps[p]?.getD undef = .pointer (some ⟨b,o,none⟩):=by simpa using hp
 simp[results,h,hp',asAddr,az w b o 176 333 _ cs hg underlying333 rfl mK]
abbrev V4:=Vector UInt8 4
def Ts:V4:=Vector.replicate 4 0
theorem CC:(prog.info? 343).map (·.size)=some 4:=kr
theorem MY:(prog.info? 343).bind (·.zero)=some (.agg (fw B8 Ts)):=kr
def AZ(v:Value):Sem Value:=Instr.loadAt 343 v
def Bb(v x:Value):Sem Unit:=Instr.storeAt 343 v x
def uh:Sem Value:=Instr.alloc 343 true (.tuple #[])
@[go_sem ↓] theorem OU(v:Value):Instr.loadAt 343 v=AZ v:=rfl
@[go_sem ↓] theorem NN(v x:Value):Instr.storeAt 343 v x=Bb v x:=rfl
@[go_sem ↓] theorem PN:Instr.alloc 343 true (.tuple #[])=uh:=rfl
@[go_sem ↓] theorem Nt(w:World)(b o:Nat)(h:(readAt w b o 4).isSome=true):
  (AZ (.pointer (some ⟨b,o,none⟩))).run prog w = .ok (.agg ((readAt w b o 4).getD #[])) w:=by
 obtain⟨cs,hc⟩:=Option.isSome_iff_exists.1 h;unfold AZ;rw[aJ w b o 4 343 _ cs hc underlying343 rfl CC,hc];rfl
@[go_sem ↓] theorem Ma(w:World)(b o:Nat)(x:V4)(h:canAt w b o 4=true):
  (Bb (.pointer (some ⟨b,o,none⟩)) (.agg (fw B8 x))).run prog w = .ok () (setAt w b o (fw B8 x)) :=
 aH w b o 4 343 (fw B8 x) h (fd B8 x) CC (ep B8 x ff)
@[go_sem] theorem LI(w:World):uh.run prog w = .ok (.pointer (some ⟨w.heap.size,0,none⟩)) (w.alloc (.cells (fw B8 Ts) 343)):=by
 obtain⟨i,hi,hz⟩:=Option.bind_eq_some_iff.1 MY;unfold uh;simp[Instr.alloc,zeroValue,typeInfo,hi,hz,newVar,newRow,Value.cells]
abbrev QT:=Vector UInt8 176
def wG:QT:=Vector.replicate 176 0
theorem ER:(prog.info? 344).bind (·.zero)=some (.agg (fw B8 wG)):=kr
def lY:Sem Value:=Instr.alloc 344 true (.tuple #[])
@[go_sem ↓] theorem M7:Instr.alloc 344 true (.tuple #[])=lY:=rfl
@[go_sem] theorem G7(w:World):lY.run prog w = .ok (.pointer (some ⟨w.heap.size,0,none⟩)) (w.alloc (.cells (fw B8 wG) 344)):=by
 obtain⟨i,hi,hz⟩:=Option.bind_eq_some_iff.1 ER;unfold lY;simp[Instr.alloc,zeroValue,typeInfo,hi,hz,newVar,newRow,Value.cells]
end
section
def kU(x:Sj):Nat→Sq
 | 0=>oy
 | k+1=>if h:k < 64 then (kU x k).set (k / 4) ((kU x k)[k / 4] <<< 8 ||| x[k].toUInt32) else kU x k
def It(x:UInt32):UInt32:=oq x 7 ^^^ oq x 18 ^^^ x >>> 3
def Iu(y:UInt32):UInt32:=oq y 17 ^^^ oq y 19 ^^^ y >>> 10
def gK(v:Sq):Nat→Sq
 | 0=>v
 | k+1=>if h:k < 48 then (gK v k).set (k+16) ((gK v k)[k]+It (gK v k)[k+1]+(gK v k)[k+9]+Iu (gK v k)[k+14]) else gK v k
def schedule(x:Sj):Sq:=gK (kU x 64) 48
theorem tx(x:Sj)(k:Nat)(h:k < 64):kU x (k+1)=(kU x k).set (k / 4) ((kU x k)[k / 4] <<< 8 ||| x[k].toUInt32):=by
 rw[kU,dif_pos h]
theorem nx(v:Sq)(k:Nat)(h:k < 48):gK v (k+1)=(gK v k).set (k+16) ((gK v k)[k]+It (gK v k)[k+1]+(gK v k)[k+9]+Iu (gK v k)[k+14]):=by
 rw[gK,dif_pos h]
def lD:Sq:=#v[0x428a2f98,0x71374491,0xb5c0fbcf,0xe9b5dba5,0x3956c25b,0x59f111f1,0x923f82a4,0xab1c5ed5,0xd807aa98,0x12835b01,0x243185be,0x550c7dc3,0x72be5d74,0x80deb1fe,0x9bdc06a7,0xc19bf174,0xe49b69c1,0xefbe4786,0x0fc19dc6,0x240ca1cc,0x2de92c6f,0x4a7484aa,0x5cb0a9dc,0x76f988da,0x983e5152,0xa831c66d,0xb00327c8,0xbf597fc7,0xc6e00bf3,0xd5a79147,0x06ca6351,0x14292967,0x27b70a85,0x2e1b2138,0x4d2c6dfc,0x53380d13,0x650a7354,0x766a0abb,0x81c2c92e,0x92722c85,0xa2bfe8a1,0xa81a664b,0xc24b8b70,0xc76c51a3,0xd192e819,0xd6990624,0xf40e3585,0x106aa070,0x19a4c116,0x1e376c08,0x2748774c,0x34b0bcb5,0x391c0cb3,0x4ed8aa4a,0x5b9cca4f,0x682e6ff3,0x748f82ee,0x78a5636f,0x84c87814,0x8cc70208,0x90befffa,0xa4506ceb,0xbef9a3f7,0xc67178f2]
def ou:W8:=#v[0x6a09e667,0xbb67ae85,0x3c6ef372,0xa54ff53a,0x510e527f,0x9b05688c,0x1f83d9ab,0x5be0cd19]
structure S8 where
 a:UInt32
 b:UInt32
 c:UInt32
 d:UInt32
 e:UInt32
 f:UInt32
 g:UInt32
 h:UInt32
def Nz(s:S8)(k w:UInt32):UInt32:=s.h+(oq s.e 6 ^^^ oq s.e 11 ^^^ oq s.e 25)+(s.e &&& s.f ^^^ (4294967295 ^^^ s.e) &&& s.g)+k+w
def Rv(s:S8):UInt32:=oq s.a 2 ^^^ oq s.a 13 ^^^ oq s.a 22
def Qb(s:S8):UInt32:=Rv s+(s.a &&& s.b ^^^ s.a &&& s.c ^^^ s.b &&& s.c)
def qY(s:S8)(k w:UInt32):S8:=⟨Nz s k w+Qb s,s.a,s.b,s.c,s.d+Nz s k w,s.e,s.f,s.g⟩
def nX(v:Sq)(s:S8):Nat→S8
 | 0=>s
 | k+1=>if h:k < 64 then qY (nX v s k) lD[k] v[k] else nX v s k
theorem tB(v:Sq)(s:S8)(k:Nat)(h:k < 64):nX v s (k+1)=qY (nX v s k) lD[k] v[k]:=by rw[nX,dif_pos h]
def S8.of(x:W8):S8:=⟨x[0],x[1],x[2],x[3],x[4],x[5],x[6],x[7]⟩
def S8.v(s:S8):W8:=#v[s.a,s.b,s.c,s.d,s.e,s.f,s.g,s.h]
def nW(x y:W8):Nat→W8
 | 0=>x
 | k+1=>if h:k < 8 then (nW x y k).set k ((nW x y k)[k]+y[k]) else nW x y k
theorem mr(x y:W8)(k:Nat)(h:k < 8):nW x y (k+1)=(nW x y k).set k ((nW x y k)[k]+y[k]):=by rw[nW,dif_pos h]
def cL(x:W8)(b:Sj):W8:=nW x (nX (schedule b) (S8.of x) 64).v 8
end
section
structure EY (w wr:World) (x:Sj) (v:Sq):Prop where
 x:Row B8 wr w.heap.size x
 z:Row W4 wr (w.heap.size+1) oy
 v:Row W4 wr (w.heap.size+1+1) v
 bel:Below w.heap.size w wr
theorem EY.set{w wr:World}{x:Sj}{v:Sq}(h:EY w wr x v)(i:Nat)(hi:i < 64)(a:UInt32):EY w (wr.setCell ⟨w.heap.size+1+1,i,none⟩ (W4 a)) x (v.set i a) :=
 ⟨h.x.other _ _ sO,h.z.other _ _ sm,h.v.set i hi a,h.bel.setCell (p:=⟨w.heap.size+1+1,i,none⟩) sO _⟩
theorem tG(b i:Nat)(hi:i < 16)(W:World):(Instr.sliceAt 201 (.pointer (some ⟨b,0,none⟩)) (some (.int .i64 (4 * (i:Int)))) (some (.int .i64 (4 * (i:Int)+4))) none).run prog W = .ok (.slice (some ⟨b,4 * i,none⟩) 4 (64 - 4 * i)) W:=by
 cases hq:prog.info? 5 with
 | none=>have:=cQ;simp[hq] at this
 | some j =>
  have hs:j.size=1:=by have:=cQ;simpa [hq] using this
  have e1:(4 * (i:Int)).toNat=4 * i:=om;have e2:(4 * (i:Int)+4).toNat=4 * i+4:=om;have c1 : ¬ (4 * (i:Int) < 0):=om;have c2 : ¬ (4 * (i:Int)+4 < 0):=om;have c3 : ¬ (64 < 4 * i+4):=om;have c4 : ¬ (4 * i+4 < 4 * i):=om;have c5 : ¬ (64 < 4 * (i:Int)+4):=om;simp[Instr.sliceAt,run_underlying underlying201,Instr.sureAddr,Instr.sliceBounds,Instr.sliceBound,asIntOf,sizeOf,typeInfo,hq,hs,Addr.add,e1,e2,c1,c2,c3,c4,c5]
  rw[if_pos ⟨om,om⟩,if_pos ⟨om,om⟩,if_neg om]
  by_cases h0:4 * i=0
  ·rw[if_pos h0,h0]
  ·rw[if_neg h0]
theorem tA(x:Sj)(w:World):
  Calls prog 190 #[.agg (av x)] w fun e w'=>e = .returned (.agg (fw W4 (schedule x)))∧Below w.heap.size w w':=by
 have hm:EY w (((w.alloc (.cells (av x) 201)).alloc (.cells (fw W4 oy) 296)).alloc (.cells (fw W4 oy) 296)) x (kU x (4 * 0)):=by
  have b1:=ba (.cells (fw W4 oy) 296) (Below.refl _ (w.alloc (.cells (av x) 201)));have b2:=ba (.cells (fw W4 oy) 296) (Below.refl _ ((w.alloc (.cells (av x) 201)).alloc (.cells (fw W4 oy) 296)));refine⟨((Row.made (f:=B8) w 201 x).below b1).below b2,?_,?_,ba _ (ba _ (ba _ (Below.refl _ _)))⟩
  ·have h:=(Row.made (f:=W4) (w.alloc (.cells (av x) 201)) 296 oy).below b2
   simpa using h
  ·have h:=Row.made (f:=W4) ((w.alloc (.cells (av x) 201)).alloc (.cells (fw W4 oy) 296)) 296 oy
   simpa [kU] using h
 have HM:=SM hm;clear hm
 go_in
 go_wp2
 go_loopw [12] (fun i wr=>∃ k:Nat,k≤16∧i = .int .i64 k∧EY w wr x (kU x (4 * k))) (fun i _=>16 - (intOf i).toNat)
 case atStart=>exact⟨0,om,rfl,HM.o⟩
 case round =>
  obtain⟨k,hk,rfl,hm⟩:=hrel;have Hm:=SM hm;clear hm HM
  by_cases hlt:k < 16
  ·have hwr1:IntKind.i64.wrap (4 * (k:Int))=4 * (k:Int):=wi;have hwr2:IntKind.i64.wrap (4 * (k:Int)+4)=4 * (k:Int)+4:=wi;have hsl:=tG w.heap.size k hlt
   go_wp2_with fail
   clear hsl
   go_loopw [22] (fun i wr=>∃ j:Nat,j≤4∧i = .int .i64 j∧EY w wr x (kU x (4 * k+j))) (fun i _=>4 - (intOf i).toNat)
   case atStart=>exact⟨0,om,rfl,Hm.o⟩
   case round =>
    obtain⟨j,hj,rfl,hm⟩:=hrel;have Hm2:=SM hm;clear hm Hm
    by_cases hlt2:j < 4
    ·have q1:=Hm2.o.x.cell (4 * k+j) om;have q2:=Hm2.o.v.cell k om;have q3:=Hm2.o.v.free k;have e:(4 * k+j) / 4=k:=om;have hs:=Hm2.o.set k om ((kU x (4 * k+j))[k] <<< 8 ||| x[4 * k+j].toUInt32)
     have hs2:kU x (4 * k+(j+1))=(kU x (4 * k+j)).set k ((kU x (4 * k+j))[k] <<< 8 ||| x[4 * k+j].toUInt32):=by
      rw[show 4 * k+(j+1)=4 * k+j+1 from rfl,tx _ _ om]
      simp only[e]
     rw[← hs2] at hs;have Hs:=SM hs;clear hs hs2
     go_wp2
     go_round
     case rel=>exact⟨j+1,om,by go_num,Hs.o⟩
     case measure=>simp[intOf];omega
    ·obtain rfl:j=4:=om
     go_wp2
     go_round
     case rel=>exact⟨k+1,om,by go_num,Hm2.o⟩
     case measure=>simp[intOf];omega
  ·obtain rfl:k=16:=om;have Hm1:Hd (EY w wr x (gK (kU x 64) 0)):=Hm.o;clear Hm hlt hk;rw[show ((16:Nat):Int)=(16:Int) from rfl]
   generalize hva:kU x 64=va at *;have Hva:=SM hva;clear hva
   go_wp2
   go_loopw [7] (fun i wr=>∃ k:Nat,k≤48∧i = .int .i64 ((k:Int)+16)∧EY w wr x (gK va k)) (fun i _=>64 - (intOf i).toNat)
   case atStart=>exact⟨0,om,rfl,Hm1.o⟩
   case round =>
    obtain⟨k,hk,rfl,hm⟩:=hrel;have Hm:=SM hm;clear hm Hm1
    by_cases hlt:k < 48
    ·have hw1:IntKind.i64.wrap ((k:Int)+16 - 15)=((k+1:Nat):Int):=wi;have hw2:IntKind.i64.wrap ((k:Int)+16 - 2)=((k+14:Nat):Int):=wi;have hw3:IntKind.i64.wrap ((k:Int)+16 - 16)=((k:Nat):Int):=wi;have hw4:IntKind.i64.wrap ((k:Int)+16 - 7)=((k+9:Nat):Int):=wi;have hw5:IntKind.i64.wrap (k:Int)=(k:Int):=wi;have hb1:(0:Int)≤(k:Int)+1:=om;have hb2:(k:Int)+1 < 64:=om;have hb3:(0:Int)≤(k:Int)+14:=om;have hb4:(k:Int)+14 < 64:=om
     have hb5:(0:Int)≤(k:Int):=om;have hb6:(k:Int) < 64:=om;have hb7:(0:Int)≤(k:Int)+9:=om;have hb8:(k:Int)+9 < 64:=om;have hb9:(0:Int)≤(k:Int)+16:=om;have hb10:(k:Int)+16 < 64:=om;have ht1:((k:Int)+1).toNat=k+1:=om;have ht2:((k:Int)+14).toNat=k+14:=om;have ht3:((k:Int)+9).toNat=k+9:=om;have ht4:((k:Int)+16).toNat=k+16:=om
     go_upto_region 14 with fail
     refine yW (tk 0 10 .done) (fun u=>Row W4 u (w.heap.size+1+1) (gK va k)) (show Row W4 wr.drew _ _ from Hm.o.v.below (Below.refl _ _).drew) ?_
     repeat((first|refine yO ?_|refine yM ?_|refine yF rfl rfl (fun w' hC'=>by have c1:=hC'.cell (k+1) om;have c2:=hC'.cell (k+14) om;go_simp;first|done|exact rfl) ?_);walk_nrm)
     refine al ?_;have hmd:EY w wr.drew x (gK va k):=⟨Hm.o.x.below (Below.refl _ _).drew,Hm.o.z.below (Below.refl _ _).drew,Hm.o.v.below (Below.refl _ _).drew,Hm.o.bel.drew⟩;have Hmd:=SM hmd;clear hmd Hm;generalize wr.drew=wd at *
     go_wp2_with fail
     refine (gr _ 7 dc dc wd).mono ?_;rintro _ _ ⟨rfl,rfl⟩
     go_wp2_with fail
     refine (gr _ 18 dc dc wd).mono ?_;rintro _ _ ⟨rfl,rfl⟩
     go_wp2_with fail
     refine (gr _ 17 dc dc wd).mono ?_;rintro _ _ ⟨rfl,rfl⟩
     go_wp2_with fail
     refine (gr _ 19 dc dc wd).mono ?_;rintro _ _ ⟨rfl,rfl⟩
     go_upto_region 17 with fail
     have hs:=Hmd.o.set (k+16) om ((gK va k)[k]+It (gK va k)[k+1]+(gK va k)[k+9]+Iu (gK va k)[k+14]);rw[← nx va k hlt] at hs;unfold It Iu at hs;have Hs:Hd (∀ u:World,Row W4 u (w.heap.size+1+1) (gK va k)→u.frozen? ⟨w.heap.size+1+1,k+16,none⟩=false):=fun u h=>h.free _;refine yW (tk 0 15 (.brk 15 .done)) (fun u=>Row W4 u (w.heap.size+1+1) (gK va k)) (show Row W4 wd.drew _ _ from Hmd.o.v.below (Below.refl _ _).drew) ?_
     repeat((first|refine yO ?_|refine yM ?_|refine yF rfl rfl (fun w' hC'=>by have c1:=hC'.cell (k+9) om;have c2:=hC'.cell k om;go_simp;first|done|exact rfl) ?_);walk_nrm)
     have hmd2:EY w wd.drew x (gK va k):=⟨Hmd.o.x.below (Below.refl _ _).drew,Hmd.o.z.below (Below.refl _ _).drew,Hmd.o.v.below (Below.refl _ _).drew,Hmd.o.bel.drew⟩;clear hs Hmd;generalize wd.drew=we at *;have hs:=hmd2.set (k+16) om ((gK va k)[k]+It (gK va k)[k+1]+(gK va k)[k+9]+Iu (gK va k)[k+14]);rw[← nx va k hlt] at hs;unfold It Iu at hs;have hfr:=hmd2.v.free (k+16);have hcl:=hmd2.v.cell (k+16) om
     have Hs2:=SM hs;clear hs hmd2;refine et rfl rfl (fun K hK=>?_);go_simp;refine hK _ _ (fun _=>True) trivial ?_;clear hK K hfr hcl
     try walk_nrm
     refine al ?_
     go_wp2
     go_round
     case rel=>exact⟨k+1,om,by go_num,Hs2.o⟩
     case measure=>simp[intOf];omega
    ·obtain rfl:k=48:=om;have q1:=Hm.o.v.r;have q2:=Hm.o.z.k
     go_wp2
     refine bodyPost_ret (nm rfl _ _ (w.heap.size+1) 0 (fw W4 (gK va 48)) rfl (Hm.o.z.all (gK va 48)).r) rfl ⟨?_,?_⟩
     ·unfold schedule;rw[Hva.o]
     ·exact aa Hm.o.bel om _ _
end
section
def GK(w:World):Prop:=0 < w.heap.size∧∀ k:Nat,(h:k < 64)→w.cell? ⟨0,k,none⟩=some (W4 lD[k])
theorem GK.below{w w':World}(h:GK w){B:Nat}(hB:0 < B)(hb:Below B w w'):GK w' :=
 ⟨Nat.lt_of_lt_of_le h.1 hb.size,fun k hk=>by rw[hb.cell (p:=⟨0,k,none⟩) hB];exact h.2 k hk⟩
structure Fb (w wr:World) (x:W8) (b:Sj) (v:Sq):Prop where
 x:Row W4 wr w.heap.size x
 b:Row B8 wr (w.heap.size+1) b
 z:Row W4 wr (w.heap.size+1+1) Tt
 bel:Below w.heap.size w wr
 g:GK wr
theorem Fb.below{w wr u:World}{x:W8}{b:Sj}{v:Sq}(h:Fb w wr x b v)(hg:0 < w.heap.size)(hb:Below wr.heap.size wr u):Fb w u x b v :=
 ⟨h.x.below hb,h.b.below hb,h.z.below hb,h.bel.trans (hb.mono h.bel.size),h.g.below hg (hb.mono h.bel.size)⟩
theorem Fb.set{w wr:World}{x:W8}{b:Sj}{v:Sq}(h:Fb w wr x b v)(hg:0 < w.heap.size)(i:Nat)(hi:i < 8)(a:UInt32):Fb w (wr.setCell ⟨w.heap.size,i,none⟩ (W4 a)) (x.set i a) b v:=by
 have hb:Below w.heap.size wr (wr.setCell ⟨w.heap.size,i,none⟩ (W4 a)):=(Below.refl _ _).setCell (p:=⟨w.heap.size,i,none⟩) (Nat.le_refl _) _;exact⟨h.x.set i hi a,h.b.other _ _ sm,h.z.other _ _ sO,h.bel.setCell (p:=⟨w.heap.size,i,none⟩) (Nat.le_refl _) _,h.g.below hg hb⟩
theorem Ro(st:S8):(#[Value.int .u32 (wI st.a),.int .u32 (wI st.b),.int .u32 (wI st.c),.int .u32 (wI st.d),.int .u32 (wI st.e),.int .u32 (wI st.f),.int .u32 (wI st.g),.int .u32 (wI st.h)] : Array Value)=fw W4 st.v:=by
 simp[fw,S8.v,W4]
theorem Bv(x:W8)(b:Sj)(w:World)(hg:GK w):
  Calls prog 147 #[.agg (fw W4 x),.agg (av b)] w fun e w'=>e = .returned (.agg (fw W4 (cL x b)))∧Below w.heap.size w w':=by
 have hm:Fb w (((w.alloc (.cells (fw W4 x) 248)).alloc (.cells (av b) 201)).alloc (.cells (fw W4 Tt) 248)) x b oy:=by
  have b1:=ba (.cells (av b) 201) (Below.refl _ (w.alloc (.cells (fw W4 x) 248)));have b2:=ba (.cells (fw W4 Tt) 248) (Below.refl _ ((w.alloc (.cells (fw W4 x) 248)).alloc (.cells (av b) 201)));have b3:=ba (.cells (fw W4 Tt) 248) (ba (.cells (av b) 201) (ba (.cells (fw W4 x) 248) (Below.refl _ w)));refine⟨((Row.made (f:=W4) w 248 x).below b1).below b2,?_,?_,b3,hg.below hg.1 b3⟩
  ·have h:=(Row.made (f:=B8) (w.alloc (.cells (fw W4 x) 248)) 201 b).below b2
   simpa using h
  ·have h:=Row.made (f:=W4) ((w.alloc (.cells (fw W4 x) 248)).alloc (.cells (av b) 201)) 248 Tt
   simpa using h
 have HM:=SM hm;have H0:=SM hg.1;clear hm hg
 go_in
 go_wp2_with fail
 generalize ((w.alloc (.cells (fw W4 x) 248)).alloc (.cells (av b) 201)).alloc (.cells (fw W4 Tt) 248)=wa at *;refine (tA b wa).mono ?_;rintro _ wb ⟨rfl,hb⟩;have hm:=HM.o.below H0.o hb;clear HM hb;have HM:=SM hm;clear hm;generalize hsc:schedule b=v at *;have Hsc:=SM hsc;clear hsc
 go_upto_region 2 with fail
 have hv:=Row.made (f:=W4) wb 296 v;have HV:=SM hv;have hm:=HM.o.below H0.o (ba (.cells (fw W4 v) 296) (Below.refl _ _));clear hv HM;have HM:=SM hm;clear hm;generalize wb.alloc (.cells (fw W4 v) 296)=wa at *;generalize wb.heap.size=bv_ at *
 go_upto_region 2 with fail
 refine yW (tk 0 12 .done) (fun u=>Row W4 u w.heap.size x) (show Row W4 wa.drew _ _ from HM.o.x.below (Below.refl _ _).drew) ?_
 repeat((first|refine yO ?_|refine yM ?_|refine yF rfl rfl (fun w' hC'=>by have c0:=hC'.cell 0 dc;have c1:=hC'.cell 1 dc;have c2:=hC'.cell 2 dc;have c3:=hC'.cell 3 dc;go_simp;first|done|exact rfl) ?_);walk_nrm)
 refine al ?_;have hm:=HM.o.below H0.o (Below.refl _ _).drew;have hv:=HV.o.below (Below.refl _ _).drew;clear HM HV;have HM:=SM hm;have HV:=SM hv;clear hm hv;generalize wa.drew=wa at *
 go_upto_region 3 with fail
 refine yW (tk 0 12 .done) (fun u=>Row W4 u w.heap.size x) (show Row W4 wa.drew _ _ from HM.o.x.below (Below.refl _ _).drew) ?_
 repeat((first|refine yO ?_|refine yM ?_|refine yF rfl rfl (fun w' hC'=>by have c4:=hC'.cell 4 dc;have c5:=hC'.cell 5 dc;have c6:=hC'.cell 6 dc;have c7:=hC'.cell 7 dc;go_simp;first|done|exact rfl) ?_);walk_nrm)
 refine al ?_;have hm:=HM.o.below H0.o (Below.refl _ _).drew;have hv:=HV.o.below (Below.refl _ _).drew;clear HM HV;have HM:=SM hm;have HV:=SM hv;clear hm hv;generalize wa.drew=wa at *;have hv:=HV.o.r
 go_wp2_with fail
 clear hv HV
 go_loopw [6,7,8,9,10,11,12,13,39] (fun a' b' c' d' e' f' g' h' i wr=>∃ k:Nat,k≤64∧i = .int .i64 k∧a' = .int .u32 (wI (nX v (S8.of x) k).a)∧b' = .int .u32 (wI (nX v (S8.of x) k).b)∧c' = .int .u32 (wI (nX v (S8.of x) k).c)∧d' = .int .u32 (wI (nX v (S8.of x) k).d)∧e' = .int .u32 (wI (nX v (S8.of x) k).e)∧f' = .int .u32 (wI (nX v (S8.of x) k).f)∧g' = .int .u32 (wI (nX v (S8.of x) k).g)∧h' = .int .u32 (wI (nX v (S8.of x) k).h)∧Fb w wr x b oy) (fun _ _ _ _ _ _ _ _ i _=>64 - (intOf i).toNat)
 case atStart=>exact⟨0,om,rfl,rfl,rfl,rfl,rfl,rfl,rfl,rfl,rfl,HM.o⟩
 case round =>
  obtain⟨k,hk,rfl,rfl,rfl,rfl,rfl,rfl,rfl,rfl,rfl,hm⟩:=hrel;have Hm:=SM hm;clear hm HM
  by_cases hlt:k < 64
  ·have hsu:=tB v (S8.of x) k hlt;have Hsu:=SM hsu;clear hsu;generalize nX v (S8.of x) k=st at *;have hix:=iQ (P:=prog) W4 v 296 56 .i64 k underlying296 kr kr hlt;have hb5:(0:Int)≤(k:Int):=om;have hb6:(k:Int) < 64:=om;have HK:Hd (∀ u:World,GK u→u.cell? ⟨0,k,none⟩=some (W4 lD[k])):=fun u hu=>hu.2 k hlt
   go_upto_region 7 with fail
   clear hix;refine gm (tk 0 2 (.take 3 (.take 6 (tk 10 8 (tk 19 3 (.take 23 (.run 2 (.run 4 (.take 5 (.run 7 (tk 8 2 (.take 18 (.take 22 (tk 24 2 .done)))))))))))))) GK kr kr rfl kr (show GK wr.drew from (Hm.o.below H0.o (Below.refl _ _).drew).g) ?_
   have hm:=Hm.o.below H0.o (Sy wr).drew;clear Hm;have Hm:=SM hm;clear hm;generalize wr.drew=wr at *
   repeat((first|refine yO ?_|refine yM ?_|refine yF rfl rfl (fun w' hC'=>by have ck:=HK.o w' hC';go_simp;first|done|exact rfl) ?_);walk_nrm)
   refine yR ?_;refine (gr _ 6 dc dc _).mono ?_;rintro _ _ ⟨rfl,rfl⟩;refine kS Hm.o.g ?_;walk_nrm
   repeat((first|refine yO ?_|refine yM ?_|refine yF rfl rfl (fun w' hC'=>by have ck:=HK.o w' hC';go_simp;first|done|exact rfl) ?_);walk_nrm)
   refine yR ?_;refine (gr _ 11 dc dc _).mono ?_;rintro _ _ ⟨rfl,rfl⟩;refine kS Hm.o.g ?_;walk_nrm
   repeat((first|refine yO ?_|refine yM ?_|refine yF rfl rfl (fun w' hC'=>by have ck:=HK.o w' hC';go_simp;first|done|exact rfl) ?_);walk_nrm)
   refine yR ?_;refine (gr _ 25 dc dc _).mono ?_;rintro _ _ ⟨rfl,rfl⟩;refine kS Hm.o.g ?_;walk_nrm
   repeat((first|refine yO ?_|refine yM ?_|refine yF rfl rfl (fun w' hC'=>by have ck:=HK.o w' hC';go_simp;first|done|exact rfl) ?_);walk_nrm)
   refine al ?_
   go_wp2_with fail
   refine (gr _ 2 dc dc _).mono ?_;rintro _ _ ⟨rfl,rfl⟩
   go_wp2_with fail
   refine (gr _ 13 dc dc _).mono ?_;rintro _ _ ⟨rfl,rfl⟩
   go_wp2_with fail
   refine (gr _ 22 dc dc _).mono ?_;rintro _ _ ⟨rfl,rfl⟩
   go_wp2_with fail
   go_round
   case rel=>exact⟨k+1,om,by go_num,by (rw[Hsu.o];rfl),by (rw[Hsu.o];rfl),by (rw[Hsu.o];rfl),by (rw[Hsu.o];rfl),by (rw[Hsu.o];rfl),by (rw[Hsu.o];rfl),by (rw[Hsu.o];rfl),by (rw[Hsu.o];rfl),Hm.o⟩
   case measure=>simp[intOf];omega
  ·obtain rfl:k=64:=om;have Hst:Hd (cL x b=nW x (nX v (S8.of x) 64).v 8):=by unfold Hd cL;rw[Hsc.o]
   generalize nX v (S8.of x) 64=st at *
   go_wp2_with fail
   rw[Ro st];generalize st.v=y at *
   go_loopw [110] (fun i wr=>∃ k:Nat,k≤8∧i = .int .i64 k∧Fb w wr (nW x y k) b oy) (fun i _=>8 - (intOf i).toNat)
   case atStart=>exact⟨0,om,rfl,Hm.o⟩
   case round =>
    obtain⟨k,hk,rfl,hm⟩:=hrel;have Hm2:=SM hm;clear hm Hm
    by_cases hlt:k < 8
    ·have hix:=iQ (P:=prog) W4 y 248 56 .i64 k underlying248 kr kr hlt;have hb5:(0:Int)≤(k:Int):=om;have hb6:(k:Int) < 8:=om;have q1:=Hm2.o.x.cell k hlt;have q2:=Hm2.o.x.free k;have hs:=Hm2.o.set H0.o k hlt ((nW x y k)[k]+y[k]);rw[← mr x y k hlt] at hs;have Hs:=SM hs;clear hs
     go_wp2
     go_round
     case rel=>exact⟨k+1,om,by go_num,Hs.o⟩
     case measure=>simp[intOf];omega
    ·obtain rfl:k=8:=om;have q1:=Hm2.o.x.r;have q2:=Hm2.o.z.k
     go_wp2
     refine bodyPost_ret (i8 rfl _ _ (w.heap.size+1+1) 0 (fw W4 (nW x y 8)) rfl (Hm2.o.z.all (nW x y 8)).r) rfl ⟨?_,?_⟩
     ·rw[Hst.o]
     ·exact aa Hm2.o.bel om _ _
end
section
structure ym where
 st:W8
 buf:Sj
 used:Nat
def M5(m:ym)(c:UInt8):ym :=
 if h:m.used < 64 then
  if m.used+1=64 then ⟨cL m.st (m.buf.set m.used c),m.buf.set m.used c,0⟩ else ⟨m.st,m.buf.set m.used c,m.used+1⟩
 else m
def cV(m:ym)(l:List UInt8):ym:=l.foldl M5 m
theorem fl(m:ym)(a b:List UInt8):cV m (a ++ b)=cV (cV m a) b:=by simp[cV]
theorem Be(m:ym)(c:UInt8)(h:m.used < 64):(M5 m c).used < 64:=by
 unfold M5;rw[dif_pos h];split
 ·show 0 < 64;omega
 ·show m.used+1 < 64;omega
theorem mq(m:ym)(l:List UInt8)(h:m.used < 64):(cV m l).used < 64:=by
 induction l generalizing m with
 | nil=>exact h
 | cons c l ih=>exact ih _ (Be m c h)
def eX(x:Sj)(u:Nat)(l:List UInt8):Sj:=Vector.ofFn fun i=>if u≤i.val∧i.val < u+l.length then l.getD (i.val - u) 0 else x[i]
theorem Ck(x:Sj)(u:Nat):eX x u []=x:=by
 apply Vector.ext;intro i hi;simp[eX];intro h1 h2;omega
theorem oR(x:Sj)(u:Nat)(c:UInt8)(l:List UInt8)(h:u < 64):eX (x.set u c) (u+1) l=eX x u (c :: l):=by
 apply Vector.ext;intro i hi
 simp only[eX,Vector.getElem_ofFn,List.length_cons]
 by_cases e:i=u
 ·subst e;rw[if_neg om,if_pos om];simp
 ·by_cases h1:u+1≤i∧i < u+1+l.length
  ·rw[if_pos h1,if_pos om,show i - u=(i - (u+1))+1 by omega];simp
  ·rw[if_neg h1,if_neg om];simp[Vector.getElem_set_ne,Ne.symm e]
theorem mp(m:ym)(l:List UInt8)(h:m.used < 64)(h0:l≠[])(hl:m.used+l.length≤64):
  cV m l=if m.used+l.length=64 then ⟨cL m.st (eX m.buf m.used l),eX m.buf m.used l,0⟩ else ⟨m.st,eX m.buf m.used l,m.used+l.length⟩:=by
 induction l generalizing m with
 | nil=>exact absurd rfl h0
 | cons c l ih =>
  show cV (M5 m c) l=_
  have e1:M5 m c=if m.used+1=64 then ⟨cL m.st (m.buf.set m.used c),m.buf.set m.used c,0⟩ else ⟨m.st,m.buf.set m.used c,m.used+1⟩:=by unfold M5;rw[dif_pos h]
  by_cases hl0:l=[]
  ·subst hl0;rw[e1];have e2:eX m.buf m.used [c]=m.buf.set m.used c:=by rw[← oR _ _ _ _ h,Ck]
   rw[e2];rfl
  ·have hp:0 < l.length:=List.length_pos_iff.2 hl0;simp only[List.length_cons] at hl;rw[e1,if_neg om,ih _ (by show m.used+1 < 64;omega) hl0 (by show m.used+1+l.length≤64;omega)]
   simp only[List.length_cons];rw[oR _ _ _ _ h]
   by_cases h3:m.used+1+l.length=64
   ·rw[if_pos h3,if_pos om]
   ·rw[if_neg h3,if_neg om];congr 1;omega
def fc(n:Nat):Nat:=(119 - n % 64) % 64
def Sv:Nat→Nat→List UInt8
 | 0,_=>[]
 | k+1,x=>Sv k (x / 256) ++ [UInt8.ofNat x]
def cW(n:Nat):List UInt8:=128 :: (List.replicate (fc n) 0 ++ Sv 8 (8 * n))
def ke:ym:=⟨ou,cB,0⟩
def Ln(s:W8)(k:Nat):UInt8:=((s.toArray.getD (k / 4) 0) >>> UInt32.ofNat (24 - 8 * (k % 4))).toUInt8
def pr(s:W8):RU:=Vector.ofFn fun i=>Ln s i.val
def d9(l:List UInt8):RU:=pr (cV ke (l ++ cW l.length)).st
end
section
def qg(c:Int):Nat:=(min (max c 0) 64).toNat
theorem Cb(c:Int):qg c≤64:=by unfold qg;omega
theorem KF(c:Int)(w:World):
  Calls prog 157 #[.int .i64 c] w fun e w'=>e = .returned (.int .i64 (qg c:Nat))∧w=w':=by
 by_cases h1:c < 0
 ·go_in
  go_wp2
  go_ret
  exact⟨iO (by unfold qg;omega),rfl⟩
 ·by_cases h2:c < 64
  ·go_in
   go_wp2
   all_goals
    go_ret
    exact⟨iO (by unfold qg;omega),rfl⟩
  ·go_in
   go_wp2
   all_goals
    go_ret
    exact⟨iO (by unfold qg;omega),rfl⟩
def tear(x y:Sj)(c:Int):Sj:=Vector.ofFn fun i=>if (i.val:Int) < c then y[i] else x[i]
theorem Km(x y:Sj)(c:Int):bK (av x) 0 ((av y).extract 0 (qg c))=av (tear x y c):=by
 apply Array.ext
 ·rw[da _ _ _ sO];simp
 ·intro i h1 h2;simp only[cU] at h2;simp only[bK,List.getElem_toArray,List.take_zero,List.nil_append,Nat.zero_add];have hk:=Cb c
  by_cases hi:i < qg c
  ·rw[List.getElem_append_left sO];have:((i:Nat):Int) < c:=by unfold qg at hi;omega
   simp[av,tear,this]
  ·rw[List.getElem_append_right sO];have : ¬ ((i:Nat):Int) < c:=by unfold qg at hi;omega
   have e:min (qg c) 64=qg c:=om;simp only[av,tear,List.getElem_drop,Array.length_toList,Array.size_extract,Array.size_map,Vector.size_toArray,Nat.sub_zero,e,Array.getElem_toList,Array.getElem_map,Vector.getElem_toArray,Vector.getElem_ofFn,this,if_false]
   congr 2;simp;omega
theorem ID(x y:Sj)(c:Int)(w:World):
  Calls prog 111 #[.agg (av x),.agg (av y),.int .i64 c] w fun e w'=>e = .returned (.agg (av (tear x y c)))∧Below w.heap.size w w':=by
 have hk:=Cb c;obtain⟨W,hW⟩ : ∃ W,W=(((w.alloc (.cells (av x) 201)).alloc (.cells (av y) 201)).alloc (.cells (av cB) 201)).drew:=⟨_,rfl⟩;have hcp:=dP W 3 w.heap.size 0 (qg c) 64 (w.heap.size+1) 0 64 64 (qg c) (by simp only[Nat.min_def];split <;> omega) ((av y).extract 0 (qg c))
  (by subst hW;simp[go_sem,hk]) (by subst hW;simp[go_sem,hk]) (Od y _ _)
 have hb:Below w.heap.size w W:=by subst hW;exact (ba _ (ba _ (ba _ (Below.refl _ _)))).drew
 have hset:readAt (setAt W w.heap.size 0 ((av y).extract 0 (qg c))) w.heap.size 0 64=some (av (tear x y c)):=by
  subst hW;rw[ae _ _ 0 64 (av x) (by simp[go_sem]) (by simp[go_sem]) 0 _ (Nat.le_refl _) sO]
  exact congrArg some (Km x y c)
 have hcan:canAt (setAt W w.heap.size 0 ((av y).extract 0 (qg c))) (w.heap.size+2) 0 64=true:=by
  subst hW;simp[go_sem]
 have hb2:=aa hb (Nat.le_refl _) 0 ((av y).extract 0 (qg c));generalize setAt W w.heap.size 0 ((av y).extract 0 (qg c))=W2 at *;subst hW
 go_in
 go_wp2
 go_region_with (first | (go_at_call 157;refine (KF _ _).mono ?_;rintro e w' ⟨rfl,rfl⟩))
 go_wp2
 refine bodyPost_ret (np rfl _ _ (w.heap.size+1+1) 0 (av (tear x y c)) rfl ?_) rfl ⟨rfl,aa hb2 om _ _⟩;exact am _ _ _ _ _ sm hcan
end
end Go.Proofs.YtlcfaaodmickbaaGreatDoor
