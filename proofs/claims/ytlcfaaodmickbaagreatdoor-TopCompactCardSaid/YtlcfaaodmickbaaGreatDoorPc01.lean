/- Part 1 of the proof: texts merged and shortened by a program. No conditions. -/
import Derived.Test.YtlcfaaodmickbaaGreatDoorProg
import Derived.RowKit
import Derived.Below
import Derived.WalkKit
import Derived.WalkLawsBesides
import Derived.WalkSpells
import Derived.BigQuiet
import Derived.Deep.QuietTactic
import Derived.Deep.MidRow
import Derived.Laws.CopyRow
import Derived.ChangeKeysEq
import Derived.Lib.Hide
import Derived.Laws.AppendOwn
import Derived.Laws.AppendOwnNone
import Derived.ProofKit
import Derived.OpenShut
import Derived.ShutString
import Derived.ChangeOld
import Derived.Deep.Strs
import Derived.Lib.SmallJoins
import Derived.Deep.RegionWith
import Derived.Deep.RegionHeld3
import Derived.Laws.BitsAllLaws
import Derived.Deep.Quiet
import Derived.KernelRfl
import Derived.Conc.WalkWords
set_option linter.unusedSimpArgs false
set_option linter.unusedVariables false
set_option maxRecDepth 100000
set_option maxHeartbeats 8000000
namespace Go.Proofs.YtlcfaaodmickbaaGreatDoor
open Go.RowKit Go.Proofs.Tryz
section
theorem om{p : Prop}(h : p := by omega): p := h
theorem kr{p : Prop}(h : p := by kernel_rfl): p := h
theorem sm{p : Prop}(h : p := by simp): p := h
theorem sO{p : Prop}(h : p := by simp; omega): p := h
theorem dc{p : Prop}(h : p := by decide): p := h
theorem wi{p : Prop}(h : p := by rw[IntKind.wrap_i64]; omega): p := h
theorem wu{p : Prop}(h : p := by rw[IntKind.wrap_u64]; omega): p := h
theorem dt{p : Prop}[Decidable p](h : p := by omega): decide p = true := decide_eq_true h
theorem df{p : Prop}[Decidable p](h : ¬p := by omega): decide p = false := decide_eq_false h
theorem eY{α : Sort _}(x : α): ∃ y, x = y := ⟨x, rfl⟩
def Hd(p : Prop): Prop := p
theorem Hd.o{p : Prop}(h : Hd p): p := h
theorem SM{p : Prop}(h : p): Hd p := h
theorem Sy(w : World): Below w.heap.size w w := Below.refl _ _
end
section
def readAt(w:World)(b o n:Nat):Option (Array Value) :=
 match w.heap[b]? with
 | some (.cells c _ _)=>if o+n≤c.size then some (c.extract o (o+n)) else none
 | _=>none
def canAt(w:World)(b o n:Nat):Bool :=
 match w.heap[b]? with
 | some (.cells c _ fr)=>decide (o+n≤c.size) && decide (fr=(0,0))
 | _=>false
def bK(c:Array Value)(o:Nat)(cs:Array Value):Array Value:=(c.toList.take o ++ cs.toList ++ c.toList.drop (o+cs.size)).toArray
def setAt(w:World)(b o:Nat)(cs:Array Value):World :=
 match w.heap[b]? with
 | some (.cells c _ _)=>w.setRow b (bK c o cs)
 | _=>w
theorem da(c:Array Value)(o:Nat)(cs:Array Value)(h:o+cs.size≤c.size):(bK c o cs).size=c.size:=by
 simp[bK];omega
theorem zK(c:Array Value)(o:Nat)(cs:Array Value)(h:o+cs.size≤c.size):(bK c o cs).extract o (o+cs.size)=cs:=by
 apply Array.ext'
 simp only[Array.toList_extract,bK,List.extract_eq_take_drop];have e:min o c.toList.length=o:=sO;rw[List.append_assoc,List.drop_append_of_le_length sO];have e2:(c.toList.take o).drop o=[]:=sm;rw[e2,List.nil_append,List.take_append_of_le_length sm];simp;exact List.take_of_length_le sm
theorem bU(c:Array Value)(o:Nat)(cs:Array Value)(h:o+cs.size≤c.size)(i:Nat):
  (bK c o cs)[i]? = if o≤i∧i < o+cs.size then cs[i - o]? else c[i]?:=by
 simp only[bK,List.getElem?_toArray,List.append_assoc]
 by_cases h1:i < o
 ·rw[List.getElem?_append_left sO,if_neg om,List.getElem?_take_of_lt h1];simp
 ·have e:min o c.size=o:=om;rw[List.getElem?_append_right sO];simp only[List.length_take,Array.length_toList,e]
  by_cases h2:i < o+cs.size
  ·rw[List.getElem?_append_left sO,if_pos om];simp
  ·rw[List.getElem?_append_right sO,if_neg om];simp only[List.getElem?_drop,Array.length_toList];rw[Array.getElem?_toList];congr 1;omega
theorem cO(c:Array Value)(o n i:Nat)(h:o+n≤c.size):(c.extract o (o+n))[i]? = if i < n then c[o+i]? else none:=by
 rw[Array.getElem?_extract]
 by_cases hi:i < n
 ·rw[if_pos om,if_pos hi]
 ·rw[if_neg om,if_neg hi]
theorem cJ{w:World}{b o n:Nat}{cs:Array Value}(h:readAt w b o n=some cs):w.rangeAt b o cs.toList∧cs.size=n:=by
 unfold readAt at h
 split at h
 ·rename_i c t fr hb
  split at h
  ·rename_i hle
   simp only[Option.some.injEq] at h;subst h;exact⟨World.rangeAt_of_block hb o n,sO⟩
  ·simp at h
 ·simp at h
theorem ab{w:World}{b o n:Nat}{cs:Array Value}(h:readAt w b o n=some cs)(j:Nat)(v:Value)(hj:cs[j]? = some v):w.cell? ⟨b,o+j,none⟩=some v :=
 (cJ h).1 j v (by simpa using hj)
theorem ac{w:World}{b o n:Nat}{cs:Array Value}(h:readAt w b o n=some cs):b < w.heap.size:=by
 rcases Nat.lt_or_ge b w.heap.size with h' | h'
 ·exact h'
 ·simp[readAt,Array.getElem?_eq_none h'] at h
theorem bA{w:World}{b o n:Nat}(h:canAt w b o n=true):b < w.heap.size:=by
 rcases Nat.lt_or_ge b w.heap.size with h' | h'
 ·exact h'
 ·simp[canAt,Array.getElem?_eq_none h'] at h
theorem cg{w:World}{b o n:Nat}(h:canAt w b o n=true):∃ c t,w.heap[b]? = some (.cells c t (0,0))∧o+n≤c.size:=by
 unfold canAt at h
 split at h
 ·rename_i c t fr hb
  simp only[Bool.and_eq_true,decide_eq_true_eq] at h;obtain⟨h1,rfl⟩:=h;exact⟨c,t,hb,h1⟩
 ·simp at h
theorem aC{w:World}{b o n:Nat}(h:canAt w b o n=true)(o' n':Nat)(hs:o'+n'≤o+n):canAt w b o' n'=true:=by
 obtain⟨c,t,hb,hle⟩:=cg h;simp[canAt,hb];omega
theorem bq{w:World}{b o n:Nat}(h:canAt w b o n=true)(j:Nat):w.frozen? ⟨b,o+j,none⟩=false:=by
 obtain⟨c,t,hb,hle⟩:=cg h;simp[World.frozen?,hb]
theorem aB{w:World}{b o n:Nat}{cs:Array Value}(h:readAt w b o n=some cs)(o' n':Nat)(h1:o≤o')(h2:o'+n'≤o+n):readAt w b o' n'=some (cs.extract (o' - o) (o' - o+n')):=by
 unfold readAt at h ⊢
 split at h
 ·rename_i c t fr hb
  split at h
  ·rename_i hle
   simp only[Option.some.injEq] at h;subst h;rw[if_pos om,Array.extract_extract]
   congr 2 <;> omega
  ·simp at h
 ·simp at h
theorem aj(w:World)(c:Array Value)(t:TypeId)(fr:Nat × Nat)(b o n:Nat)(hb:b=w.heap.size)(h:o+n≤c.size):readAt (w.alloc (.cells c t fr)) b o n=some (c.extract o (o+n)):=by
 subst hb;simp only[readAt,heap_alloc_new];rw[if_pos h]
theorem b9(w:World)(ob:Obj)(b o n:Nat)(hb:b < w.heap.size):readAt (w.alloc ob) b o n=readAt w b o n:=by
 simp only[readAt,Below.heap_alloc w ob b hb]
theorem aq(w:World)(c:Array Value)(t:TypeId)(b o n:Nat)(hb:b=w.heap.size)(h:o+n≤c.size):canAt (w.alloc (.cells c t)) b o n=true:=by
 subst hb;simp only[canAt,heap_alloc_new];simp[h]
theorem eW(w:World)(ob:Obj)(b o n:Nat)(hb:b < w.heap.size):canAt (w.alloc ob) b o n=canAt w b o n:=by
 simp only[canAt,Below.heap_alloc w ob b hb]
@[simp] theorem nh(w:World)(b o n:Nat):readAt w.drew b o n=readAt w b o n:=rfl
@[simp] theorem ku(w:World)(b o n:Nat):canAt w.drew b o n=canAt w b o n:=rfl
theorem ak{w w':World}{B:Nat}(hb:Below B w w'){b:Nat}(h:b < B)(o n:Nat):readAt w' b o n=readAt w b o n:=by
 simp[readAt,hb.block b h]
theorem ay{w w':World}{B:Nat}(hb:Below B w w'){b:Nat}(h:b < B)(o n:Nat):canAt w' b o n=canAt w b o n:=by
 simp[canAt,hb.block b h]
@[simp] theorem pq(w:World)(b o:Nat)(cs:Array Value):(setAt w b o cs).heap.size=w.heap.size:=by
 unfold setAt;split <;> simp
theorem kW{w:World}{b o:Nat}{cs:Array Value}{c:Array Value}{t:TypeId}{fr:Nat × Nat}(h:w.heap[b]? = some (.cells c t fr)):(setAt w b o cs).heap[b]? = some (.cells (bK c o cs) t fr):=by
 simp only[setAt,h];exact setRow_heap w b c _ t fr h
theorem aw(w:World)(b o:Nat)(cs:Array Value)(k:Nat)(h:k≠b):(setAt w b o cs).heap[k]? = w.heap[k]?:=by
 unfold setAt;split
 ·exact setRow_other w b k _ h
 ·rfl
theorem aa{w0 w:World}{B b:Nat}(h:Below B w0 w)(hb:B≤b)(o:Nat)(cs:Array Value):Below B w0 (setAt w b o cs):=by
 refine h.trans ⟨?_,?_,?_,sm,fun k hk=>aw w b o cs k om⟩ <;> (unfold setAt;split <;> rfl)
theorem am(w:World)(b o n:Nat)(cs:Array Value)(hn:n=cs.size)(h:canAt w b o n=true):readAt (setAt w b o cs) b o n=some cs:=by
 subst hn;obtain⟨c,t,hb,hle⟩:=cg h;simp[readAt,kW hb,da c o cs hle,hle,zK c o cs hle]
theorem cY(w:World)(b o:Nat)(cs:Array Value)(b' o' n':Nat)(h:b'≠b):canAt (setAt w b o cs) b' o' n'=canAt w b' o' n':=by
 simp[canAt,aw w b o cs b' h]
theorem ap(w:World)(b o:Nat)(cs:Array Value)(b' o' n':Nat)(h:canAt w b o cs.size=true):canAt (setAt w b o cs) b' o' n'=canAt w b' o' n':=by
 by_cases e:b'=b
 ·subst e;obtain⟨c,t,hb,hle⟩:=cg h;simp[canAt,kW hb,hb,da c o cs hle]
 ·exact cY w b o cs b' o' n' e
theorem ae(w:World)(b o n:Nat)(cs:Array Value)(hr:readAt w b o n=some cs)(hc:canAt w b o n=true)(o':Nat)(ds:Array Value)(h1:o≤o')(h2:o'+ds.size≤o+n):
  readAt (setAt w b o' ds) b o n=some (bK cs (o' - o) ds):=by
 obtain⟨c,t,hb,hle⟩:=cg hc;have hsz:=(cJ hr).2;simp only[readAt,hb,if_pos hle,Option.some.injEq] at hr;simp only[readAt,kW hb,da c o' ds om,if_pos hle,Option.some.injEq]
 apply Array.ext_getElem?
 intro i;rw[cO _ _ _ _ (by rw[da c o' ds om];exact hle),bU c o' ds om,bU cs (o' - o) ds om]
 subst hr;rw[cO _ _ _ _ hle]
 by_cases hi:i < n
 ·simp only[hi,if_true]
  by_cases h3:o'≤o+i∧o+i < o'+ds.size
  ·rw[if_pos h3,if_pos om];congr 1;omega
  ·rw[if_neg h3,if_neg om]
 ·rw[if_neg hi,if_neg om];rw[if_neg hi]
@[go_sem] theorem eK(w:World)(c:Array Value)(t:TypeId)(b:Nat)(cs:Array Value)(hb:b=w.heap.size)(hs:cs.size=c.size):setAt (w.alloc (.cells c t)) b 0 cs=w.alloc (.cells cs t):=by
 subst hb;have hg:(w.alloc (.cells c t)).heap[w.heap.size]? = some (.cells c t (0,0)):=heap_alloc_new w _;simp only[setAt,hg];have e:bK c 0 cs=cs:=by
  apply Array.ext_getElem?
  intro i;rw[bU _ _ _ om]
  by_cases hi:i < cs.size
  ·rw[if_pos om];simp
  ·rw[if_neg om];simp[Array.getElem?_eq_none (show cs.size≤i by omega),Array.getElem?_eq_none (show c.size≤i by omega)]
 rw[e];simp only[World.setRow,World.alloc]
 congr 1
 apply Array.ext
 ·simp
 ·intro k h1 h2;simp only[Array.getElem_modify,Array.getElem_push];simp only[Array.size_modify,Array.size_push] at h1
  by_cases hk:k < w.heap.size
  ·simp[hk,show w.heap.size≠k by omega]
  ·obtain rfl:k=w.heap.size:=om;simp
theorem aK{w:World}{b o:Nat}(h:canAt w b o 1=true)(v:Value):w.setCell ⟨b,o,none⟩ v=setAt w b o #[v]:=by
 obtain⟨c,t,hb,hle⟩:=cg h;rw[setCell_eq_setRow w b o c t (0,0) v hb];simp only[setAt,hb]
 congr 1
 apply Array.ext'
 simp only[bK,Array.toList_setIfInBounds];rw[List.set_eq_take_append_cons_drop,if_pos sO];simp
@[go_sem] theorem Q0(n:Nat):(n < n+1+1)=True:=sO
@[go_sem] theorem Q1(n:Nat):(n < n+1+1+1)=True:=sO
@[go_sem] theorem Q2(n:Nat):(n < n+1+1+1+1)=True:=sO
@[go_sem] theorem Q3(n:Nat):(n < n+1+1+1+1+1)=True:=sO
@[go_sem] theorem Q4(n:Nat):(n < n+1+1+1+1+1+1)=True:=sO
section
variable {P:Program}
theorem aJ(w:World)(b o n:Nat)(ty:TypeId)(d:TypeDesc)(cs:Array Value)(h:readAt w b o n=some cs)
  (hu:P.underlying ty=some d) (hd:d.isRow=true) (hi:(P.info? ty).map (·.size)=some n) :
  (Instr.loadAt ty (.pointer (some ⟨b,o,none⟩))).run P w = .ok (.agg cs) w:=by
 obtain⟨hr,hn⟩:=cJ h;have:=run_loadAt_mid (P:=P) w b o ty cs.toList d hr hu hd (by rw[hi];simp[hn])
 simpa using this
theorem az(w:World)(b o n:Nat)(ty:TypeId)(d:TypeDesc)(cs:Array Value)(h:readAt w b o n=some cs)
  (hu:P.underlying ty=some d) (hd:d.isRow=true) (hi:(P.info? ty).map (·.size)=some n) :
  (loadVar ty ⟨b,o,none⟩).run P w = .ok (.agg cs) w:=by
 obtain⟨hr,hn⟩:=cJ h;have:=run_loadVar_mid (P:=P) w b o ty cs.toList d hr hu hd (by rw[hi];simp[hn])
 simpa using this
theorem aH(w:World)(b o n:Nat)(ty:TypeId)(cs:Array Value)(h:canAt w b o n=true)(hn:cs.size=n)
  (hi:(P.info? ty).map (·.size)=some n) (h1:∀ v ∈ cs,v.oneCell'=true) :
  (Instr.storeAt ty (.pointer (some ⟨b,o,none⟩)) (.agg cs)).run P w = .ok () (setAt w b o cs):=by
 obtain⟨c,t,hb,hle⟩:=cg h;have:=run_storeCells_at P b o t cs.toList 0 c w hb sO (by simpa using h1)
 cases hq:P.info? ty with
 | none=>simp[hq] at hi
 | some i =>
  have hs:cs.size=i.size:=by simp[hq] at hi;omega
  simp only[Nat.add_zero] at this;simp only[Instr.storeAt,Instr.sureAddr,Sem.run_bind,Sem.run_pure,Result.andThen_ok];simp[storeVar,sizeOf,typeInfo,hq,Value.cells,hs,this,setAt,hb,bK]
theorem vN(w:World)(dT sT ty elem:TypeId)(b o dLen dCap b2 o2 sLen sCap n:Nat)(cs:Array Value)
  (hu:P.underlying dT=some (.slice elem)) (hs:(P.info? elem).map (·.size)=some 1)
  (hn:n=Nat.min sLen dLen) (h:canAt w b o n=true) (hr:readAt w b2 o2 n=some cs) (h1:∀ v ∈ cs,v.oneCell'=true) :
  (Builtin.copy_ #[dT,sT] ty #[.slice (some ⟨b,o,none⟩) dLen dCap,.slice (some ⟨b2,o2,none⟩) sLen sCap]).run P w = .ok (goInt n) (setAt w b o cs):=by
 obtain⟨c,t,hb,hle⟩:=cg h;obtain⟨hr,hsz⟩:=cJ hr;have:=run_copy_row P w dT sT ty elem b o dLen dCap ⟨b2,o2,none⟩ sLen sCap c t cs.toList hu hs hb (by simp[hsz,hn])
  (fun j v hv=>by rw[Addr.add_mid];exact hr j v hv) sO (by simpa using h1)
 rw[this];simp[setAt,hb,bK,hsz]
end
def B8(x:UInt8):Value:=.int .u8 (x.toNat:Int)
def av{n:Nat}(x:Vector UInt8 n):Array Value:=x.toArray.map B8
@[simp] theorem cU{n:Nat}(x:Vector UInt8 n):(av x).size=n:=by simp[av]
theorem iw{n:Nat}(x:Vector UInt8 n)(i:Nat)(h:i < n):(av x)[i]? = some (.int .u8 (x[i].toNat:Int)):=by
 simp[av,B8,h]
theorem oE{n:Nat}(x:Vector UInt8 n):∀ v ∈ av x,v.oneCell'=true:=by
 intro v hv;simp only[av,Array.mem_map] at hv;obtain⟨a,_,rfl⟩:=hv;rfl
theorem Oe{n:Nat}{x y:Vector UInt8 n}(h:av x=av y):x=y:=by
 apply Vector.ext
 intro i hi;have h1:=iw x i hi;rw[h,iw y i hi] at h1;simp only[Option.some.injEq,Value.int.injEq,true_and] at h1;exact UInt8.toNat_inj.1 om
end
section
theorem sn(off:Nat):∀ (l:List Value) (k:Nat) (cells:Array Value),off+k+l.length≤cells.size →
  (l.zipIdx k).foldl (fun (cs:Array Value) (x:Value × Nat)=>cs.setIfInBounds (off+x.2) x.1) cells=bK cells (off+k) l.toArray
 | [],k,cells,h=>by
  apply Array.ext_getElem?
  intro i;rw[bU _ _ _ (by simpa using h)]
  simp;intro h1 h2;omega
 | v :: l,k,cells,h=>by
  simp only[List.zipIdx_cons,List.foldl_cons];rw[sn off l (k+1) _ (by simp at h ⊢;omega)]
  apply Array.ext_getElem?
  intro i;simp only[List.length_cons] at h;rw[bU _ _ _ sO,bU _ _ _ sO];simp only[List.size_toArray,List.length_cons,List.getElem?_toArray]
  by_cases h1:i=off+k
  ·subst h1;rw[if_neg om,if_pos om];have:off+k < cells.size:=om;simp[this]
  ·by_cases h2:off+k≤i∧i < off+k+(l.length+1)
   ·rw[if_pos om,if_pos h2];rw[show i - (off+k)=(i - (off+(k+1)))+1 by omega,List.getElem?_cons_succ]
   ·rw[if_neg om,if_neg h2,Array.getElem?_setIfInBounds_ne om]
theorem lH(cells v:Array Value)(off:Nat)(h:off+v.size≤cells.size):
  v.zipIdx.foldl (fun (cs:Array Value) (x:Value × Nat)=>cs.setIfInBounds (off+x.2) x.1) cells=bK cells off v:=by
 rw[← Array.foldl_toList,Array.toList_zipIdx,sn off v.toList 0 cells (by simpa using h)]
 simp
theorem zJ(c cs:Array Value)(h:cs.size=c.size):bK c 0 cs=cs:=by
 apply Array.ext_getElem?
 intro i;rw[bU _ _ _ om]
 by_cases hi:i < cs.size
 ·rw[if_pos om];simp
 ·rw[if_neg om];simp[Array.getElem?_eq_none (show cs.size≤i by omega),Array.getElem?_eq_none (show c.size≤i by omega)]
section
variable {P:Program}
theorem eo(w:World)(t e:TypeId)(i:TypeInfo)(z v:Value)(hu:P.underlying t=some (.slice e))(hi:P.info? e=some i)(hz:i.zero=some z)
  (hs:i.size=v.cells.size) (hzs:z.cells.size=v.cells.size) (h0:0 < v.cells.size) (hm:v.cells.size≤16777216) :
  (Instr.buildSlice t 1 #[(0,v)]).run P w = .ok (.slice (some ⟨w.heap.size,0,none⟩) 1 1) (w.alloc (.cells v.cells e)):=by
 have hb:((Array.range (1 * i.size)).map (z.cells[· % z.cells.size]!)).size=v.cells.size:=by simp[hs]
 have hf:Instr.fill (fun j=>some (j * i.size,i.size)) ((Array.range (1 * i.size)).map (z.cells[· % z.cells.size]!)) [(0,v)]=some v.cells:=by
  simp only[Instr.fill,Nat.zero_mul,Nat.zero_add];rw[if_neg (by simp[hs])]
  congr 1
  have:=lH ((Array.range (1 * i.size)).map (z.cells[· % z.cells.size]!)) v.cells 0 (by rw[hb];omega)
  simp only[Nat.zero_add] at this;rw[zJ _ _ (by rw[hb])] at this
  exact this
 have hn : ¬ (1 * i.size > 2 ^ 24):=om;have hn0 : ¬ (1 * i.size=0):=om;simp only[Instr.buildSlice,Sem.run_bind,run_underlying hu,Result.andThen_ok,sizeOf,typeInfo,run_program,hi,Sem.run_pure];simp only[hn,hn0,if_false,Sem.run_bind,zeroValue,typeInfo,run_program,Result.andThen_ok,hi,Sem.run_pure,hz];rw[hf];simp[newRow,Sem.run_bind]
theorem dV(w:World)(t e:TypeId)(i:TypeInfo)(hu:P.underlying t=some (.slice e))(hi:P.info? e=some i):
  (Instr.buildSlice t 0 #[]).run P w = .ok (.slice (some ⟨w.heap.size,0,none⟩) 0 0) (w.alloc (.cells #[] e)):=by
 simp[Instr.buildSlice,run_underlying hu,sizeOf,typeInfo,hi,Instr.fill,newRow,Array.range_zero']
end
theorem eP{w:World}{base e size n:Nat}{v:Value}{xs:List Value}(h:w.ownsRow base e size v n xs)(h0:0 < n):
  ∃ g cap,v = .slice (some ⟨g,0,none⟩) n cap∧base≤g∧n≤cap∧cap≤maxLen∧readAt w g 0 (n * size)=some xs.toArray∧canAt w g 0 (n * size)=true:=by
 obtain⟨hl,hn | ⟨g,cap,cur,hv,hb,hg,hnc,hm,hs,ht⟩⟩:=h
 ·omega
 ·have hle:n * size≤cur.size:=by rw[hs];exact Nat.mul_le_mul_right _ hnc
  refine⟨g,cap,hv,hb,hnc,hm,?_,?_⟩
  ·simp only[readAt,hg];rw[if_pos om]
   congr 1
   apply Array.ext'
   rw[← ht];simp[List.extract_eq_take_drop]
  ·simp[canAt,hg];omega
theorem oZ{w:World}{base e size n:Nat}{v:Value}{xs:List Value}(h:w.ownsRow base e size v n xs):∀ k,v.ownBlock=some k→k < w.heap.size:=fun k hk=>(h.lt k hk).2
theorem ah{w w':World}{base e size n:Nat}{v:Value}{xs:List Value}(h:w.ownsRow base e size v n xs)(hb:Below w.heap.size w w'):w'.ownsRow base e size v n xs:=by
 refine⟨h.1,?_⟩
 rcases h.2 with hn | ⟨g,cap,cur,hv,hbg,hg,rest⟩
 ·exact .inl hn
 ·exact .inr ⟨g,cap,cur,hv,hbg,by rw[hb.block g (Array.getElem?_eq_some_iff.1 hg).1];exact hg,rest⟩
theorem bj{w:World}{base base' e size n:Nat}{v:Value}{xs:List Value}(h:w.ownsRow base e size v n xs)(hb:base'≤base):w.ownsRow base' e size v n xs:=by
 refine⟨h.1,?_⟩
 rcases h.2 with hn | ⟨g,cap,cur,hv,hbg,hg,rest⟩
 ·exact .inl hn
 ·exact .inr ⟨g,cap,cur,hv,om,hg,rest⟩
def Se(w:World)(v:Value)(n sz:Nat)(xs:List Value):Prop :=
 ∃ ad cap,v = .slice ad n cap∧n≤cap∧cap≤maxLen∧xs.length=n * sz∧(ad=none→n=0∧cap=0)∧(0 < n→∃ b o,ad=some ⟨b,o,none⟩∧readAt w b o (n * sz)=some xs.toArray)
theorem Se.below{w w':World}{v:Value}{n sz:Nat}{xs:List Value}(h:Se w v n sz xs)(hb:Below w.heap.size w w'):Se w' v n sz xs:=by
 obtain⟨ad,cap,h1,h2,h3,h4,h5,h6⟩:=h;refine⟨ad,cap,h1,h2,h3,h4,h5,fun h0=>?_⟩;obtain⟨b,o,e,hr⟩:=h6 h0;exact⟨b,o,e,by rw[ak hb (ac hr)];exact hr⟩
theorem aG{w:World}{base e size n:Nat}{v:Value}{xs:List Value}(h:w.ownsRow base e size v n xs):Se w v n size xs:=by
 by_cases h0:0 < n
 ·obtain⟨g,cap,hv,hb,hc,hm,hr,_⟩:=eP h h0;exact⟨_,cap,hv,hc,hm,h.1,fun h=>(by cases h),fun _=>⟨g,0,rfl,hr⟩⟩
 ·obtain rfl:n=0:=om
  rcases h.2 with ⟨rfl,_⟩ | ⟨g,cap,cur,rfl,_,_,hc,hm,_,_⟩
  ·exact⟨none,0,rfl,Nat.le_refl _,by simp[maxLen],h.1,fun _=>⟨rfl,rfl⟩,fun h=>absurd h om⟩
  ·exact⟨_,cap,rfl,hc,hm,h.1,fun h=>(by cases h),fun h=>absurd h om⟩
theorem Se.at{w:World}{v:Value}{n sz:Nat}{xs:List Value}(h:Se w v n sz xs)(i:Nat)(hi:i < n):
  ∃ b o cap,v = .slice (some ⟨b,o,none⟩) n cap∧n≤cap∧cap≤maxLen∧readAt w b (o+i * sz) sz=some (xs.toArray.extract (i * sz) (i * sz+sz)):=by
 obtain⟨ad,cap,h1,h2,h3,h4,h5,h6⟩:=h;obtain⟨b,o,rfl,hr⟩:=h6 om;refine⟨b,o,cap,h1,h2,h3,?_⟩;have hle:i * sz+sz≤n * sz:=by
  have:=Nat.mul_le_mul_right sz (show i+1≤n by omega)
  rw[Nat.add_mul,Nat.one_mul] at this;exact this
 rw[aB hr (o+i * sz) sz om om]
 congr 2 <;> omega
def R7(w:World)(base:Nat)(v:Value)(n sz:Nat)(xs:List Value):Prop :=
 ∃ g cap,v = .slice (some ⟨g,0,none⟩) n cap∧base≤g∧n≤cap∧cap≤maxLen∧xs.length=n * sz∧readAt w g 0 (n * sz)=some xs.toArray∧canAt w g 0 (n * sz)=true
theorem N1{w:World}{base e size n:Nat}{v:Value}{xs:List Value}(h:w.ownsRow base e size v n xs)(hn:v≠.slice none 0 0):R7 w base v n size xs:=by
 obtain⟨hl,⟨hv,_⟩ | ⟨g,cap,cur,hv,hb,hg,hnc,hm,hs,ht⟩⟩:=h
 ·exact absurd hv hn
 ·have hle:n * size≤cur.size:=by rw[hs];exact Nat.mul_le_mul_right _ hnc
  refine⟨g,cap,hv,hb,hnc,hm,hl,?_,?_⟩
  ·simp only[readAt,hg];rw[if_pos om]
   congr 1
   apply Array.ext'
   rw[← ht];simp[List.extract_eq_take_drop]
  ·simp[canAt,hg];omega
def aZ{α:Type}(f:α→Array Value)(L:List α):List Value:=L.flatMap fun x=>(f x).toList
theorem iB{α:Type}(f:α→Array Value)(L:List α)(x:α):aZ f (L ++ [x])=aZ f L ++ (f x).toList:=by simp[aZ]
theorem bH{α:Type}(f:α→Array Value)(sz:Nat)(h:∀ x,(f x).size=sz)(L:List α):(aZ f L).length=L.length * sz:=by
 induction L with
 | nil=>simp[aZ]
 | cons x L ih=>simp only[aZ,List.flatMap_cons,List.length_append,Array.length_toList,h,List.length_cons,Nat.add_mul,Nat.one_mul] at ih ⊢;omega
theorem dC{α:Type}(f:α→Array Value)(sz:Nat)(h:∀ x,(f x).size=sz)(L:List α)(i:Nat)(hi:i < L.length):(aZ f L).toArray.extract (i * sz) (i * sz+sz)=f L[i]:=by
 apply Array.ext'
 simp only[Array.toList_extract,List.extract_eq_take_drop]
 induction L generalizing i with
 | nil=>simp at hi
 | cons x L ih =>
  have e:aZ f (x :: L)=(f x).toList ++ aZ f L:=by simp[aZ]
  rw[e];cases i with
  | zero =>
   simp only[Nat.zero_mul,Nat.zero_add,Nat.sub_zero,List.drop_zero,List.getElem_cons_zero];rw[List.take_append_of_le_length (by simp[h])]
   exact List.take_of_length_le (by simp[h])
  | succ i =>
   have:=ih i (by simpa using hi)
   rw[List.drop_append,List.drop_of_length_le (by simp[h,Nat.add_mul])]
   simp only[List.nil_append,Array.length_toList,h,List.getElem_cons_succ];rw[show (i+1) * sz - sz=i * sz by rw[Nat.add_mul];omega,show (i+1) * sz+sz - (i+1) * sz=i * sz+sz - i * sz by omega]
   exact this
theorem qs{α:Type}(f:α→Array Value)(sz:Nat)(h:∀ x,(f x).size=sz)(L:List α)(i:Nat)(hi:i < L.length)(y:α):bK (aZ f L).toArray (i * sz) (f y)=(aZ f (L.set i y)).toArray:=by
 apply Array.ext'
 have hl:=bH f sz h
 induction L generalizing i with
 | nil=>simp at hi
 | cons x L ih =>
  have e:aZ f (x :: L)=(f x).toList ++ aZ f L:=by simp[aZ]
  cases i with
  | zero =>
   have e2:aZ f ((x :: L).set 0 y)=(f y).toList ++ aZ f L:=by simp[aZ]
   rw[e,e2];simp only[bK,Nat.zero_mul,List.take_zero,List.nil_append,Nat.zero_add,h,List.toList_toArray];rw[List.drop_append_of_le_length (by simp[h]),List.drop_of_length_le (by simp[h])]
   simp
  | succ i =>
   have e2:aZ f ((x :: L).set (i+1) y)=(f x).toList ++ aZ f (L.set i y):=by simp[aZ]
   have:=ih i (by simpa using hi)
   simp only[bK,List.toList_toArray] at this;rw[e,e2];simp only[bK,List.toList_toArray,h] at this ⊢;rw[← this,Nat.add_mul,Nat.one_mul,List.take_append,List.drop_append];simp only[Array.length_toList,h];rw[List.take_of_length_le (by simp[h]),List.drop_of_length_le (by simp[h])]
   simp only[List.nil_append,List.append_assoc]
   congr 3
   ·congr 1;omega
   ·congr 1;omega
theorem Gb{α:Type}(f:α→Array Value)(h:∀ x,∀ v ∈ f x,v.oneCell'=true)(L:List α):∀ v ∈ aZ f L,v.oneCell'=true:=by
 intro v hv;simp only[aZ,List.mem_flatMap,Array.mem_toList_iff] at hv;obtain⟨x,_,hx⟩:=hv;exact h x v hx
end
section
open Go.RowKit Go.ChangeShapes Go.WideShapes Go.ChangeAt Go.Deep
theorem nj(w:World)(b o n:Nat)(f:Nat→Value)(h0:0 < n)(h:∀ j,j < n→w.cell? ⟨b,o+j,none⟩=some (f j)):readAt w b o n=some (Array.ofFn (n:=n) fun i=>f i):=by
 have hc:=h (n - 1) om;unfold World.cell? at hc;unfold readAt
 split at hc
 ·rename_i c t fr hb
  simp only[Option.isSome_none,Bool.false_eq_true,if_false] at hc;have hlt:o+(n - 1) < c.size:=by
   rcases Nat.lt_or_ge (o+(n - 1)) c.size with h' | h'
   ·exact h'
   ·simp[Array.getElem?_eq_none h'] at hc
  simp only at hb;simp only[hb];rw[if_pos om]
  congr 1
  apply Array.ext_getElem?
  intro i;rw[cO _ _ _ _ om]
  by_cases hi:i < n
  ·rw[if_pos hi];have:=h i hi;simp only[World.cell?,hb,Option.isSome_none,Bool.false_eq_true,if_false] at this;rw[this];simp[hi]
  ·rw[if_neg hi];simp[hi]
 ·simp at hc
def P7(n:Int):UInt8:=UInt8.ofNat n.toNat
theorem NT(n:Int)(h:0≤n∧n≤255):B8 (P7 n) = .int .u8 n:=by
 simp only[B8,P7,Value.int.injEq,true_and,UInt8.toNat_ofNat'];omega
theorem p6{cs:Array Value}{n:Nat}(hs:cs.size=n)(h:∀ i,i < n→∃ z:Int,cs[i]? = some (.int .u8 z)∧0≤z∧z≤255):∃ x:Vector UInt8 n,cs=av x:=by
 refine⟨Vector.ofFn fun i=>(match cs[i.val]? with | some (.int .u8 z)=>P7 z | _=>0),?_⟩
 apply Array.ext_getElem?
 intro i
 by_cases hi:i < n
 ·obtain⟨z,hz,h0,h1⟩:=h i hi;rw[iw _ i hi,hz];have:=NT z ⟨h0,h1⟩;simp only[B8] at this;simp[hz,this]
 ·simp[Array.getElem?_eq_none (show cs.size≤i by omega),hi]
section
variable {H:Type} {enc:TypeId × Value→H} {P:Program} {w:World} {base b0:Nat} {r:Reach} {spare:Nat→Bool} {held:Bool}
theorem m4{α:Type}(f:α→Array Value)(sz:Nat)(hsz:∀ x,(f x).size=sz)(hs0:0 < sz){t e:TypeId}{fuel:Nat}{ad:Option Addr}{n c:Nat}{x:DataW H × List MemPlace}(hu:P.underlying t=some (.slice e))(hc:P.cellsOf e=sz)(Pr:α→Prop)
  (hrow:∀ (k:Nat) (cs:List Value) (y:DataW H × List MemPlace),DataW.trod enc P w base spare held k e cs=some y→∃ r,cs=(f r).toList∧Pr r)
  (h:DataW.trod enc P w base spare held fuel t [.slice ad n c]=some x):∃ R:List α,R.length=n∧Se w (.slice ad n c) n sz (aZ f R)∧∀ r ∈ R,Pr r:=by
 rcases DataW.trod_slice hu h with ⟨h0,_⟩ | ⟨a,len,cap,elems,rest,k,_,hcs,_,hb,hl,hm,hlen,hel,_,_⟩
 ·simp only[List.cons.injEq,Value.slice.injEq,and_true] at h0;obtain⟨rfl,rfl,rfl⟩:=h0;exact⟨[],rfl,⟨none,0,rfl,Nat.le_refl _,by simp[maxLen],by simp[aZ],fun _=>⟨rfl,rfl⟩,fun h=>absurd h om⟩,sm⟩
 ·simp only[List.cons.injEq,Value.slice.injEq,and_true] at hcs;obtain⟨rfl,rfl,rfl⟩:=hcs;have h1:∀ i:Fin n,∃ r,w.cells? base (a.add (i * sz)) sz=some (f r).toList∧Pr r:=by
   intro i;have hi:=hel i i.isLt;rw[List.getElem?_eq_getElem (by rw[hlen];exact i.isLt),Option.bind_eq_some_iff] at hi
   obtain⟨cs',h2,h3⟩:=hi;obtain⟨r,rfl,hp⟩:=hrow _ _ _ h3;rw[hc] at h2;exact⟨r,h2,hp⟩
  obtain⟨g,hg⟩:=Classical.axiomOfChoice h1;refine⟨List.ofFn g,sm,⟨_,c,rfl,hl,hm,by rw[bH f sz hsz];simp,fun h=>(by cases h),fun hn=>?_⟩,fun r hr=>?_⟩
  ·have hcell:∀ j,j < n * sz→w.cell? (a.add j)=some ((aZ f (List.ofFn g)).getD j undef):=by
    intro j hj;have hi:j / sz < n:=(Nat.div_lt_iff_lt_mul hs0).2 hj;have hk:j % sz < sz:=Nat.mod_lt _ hs0;have e1:j=j / sz * sz+j % sz:=by rw[Nat.mul_comm];exact (Nat.div_add_mod j sz).symm
    have h2:=(World.cells?_some (hg ⟨j / sz,hi⟩).1).2.2 (j % sz) hk;have h3:=dC f sz hsz (List.ofFn g) (j / sz) (by simpa using hi)
    have h4:=congrArg (fun a:Array Value=>a[j % sz]?) h3;simp only[List.getElem_ofFn] at h4;rw[cO _ _ _ _ (by simp only[List.size_toArray];rw[bH f sz hsz,List.length_ofFn,← Nat.add_one_mul];exact Nat.mul_le_mul_right _ hi),if_pos hk,← e1] at h4
    rw[Array.getElem?_toList,← h4,Addr.add_add,← e1] at h2;rw[h2];have hlt:j < (aZ f (List.ofFn g)).length:=by rw[bH f sz hsz,List.length_ofFn];exact hj
    simp[List.getD,hlt]
   obtain⟨b,o,sp⟩:=a;have hc0:=hcell 0 (by have:=Nat.mul_pos hn hs0;omega)
   have hsp:sp=none:=by simpa [Addr.add] using World.cell?_spot hc0
   subst hsp;refine⟨b,o,rfl,?_⟩;rw[nj w b o (n * sz) _ (Nat.mul_pos hn hs0) (fun j hj=>by have:=hcell j hj;rwa [Addr.add_lit] at this)]
   congr 1
   apply Array.ext_getElem?
   intro i;have hfl:(aZ f (List.ofFn g)).length=n * sz:=by rw[bH f sz hsz,List.length_ofFn]
   by_cases hi:i < n * sz
   ·have hlt:i < (aZ f (List.ofFn g)).length:=om;simp[hi,hlt]
   ·have hlt : ¬ i < (aZ f (List.ofFn g)).length:=om;rw[Array.getElem?_eq_none sO,Array.getElem?_eq_none sO]
  ·obtain⟨i,rfl⟩:=List.mem_ofFn.1 hr;exact (hg i).2
end
end
section
def fk(x:Int):Prop := -9223372036854775808≤x∧x≤9223372036854775807
theorem iO{k:IntKind}{a b:Int}(h:a=b):Ending.returned (.int k a) = .returned (.int k b):=by rw[h]
theorem bt{w w1 w2:World}(h:Below w.heap.size w w1)(h2:Below w1.heap.size w1 w2):Below w.heap.size w w2:=h.trans (h2.mono h.size)
theorem ba{w w1:World}(o:Obj)(h:Below w.heap.size w w1):Below w.heap.size w (w1.alloc o):=h.alloc h.size o
theorem cQ:(prog.info? 5).map (·.size)=some 1:=kr
@[go_sem] theorem Nb{n:Nat}(x:Vector UInt8 n):(av x).extract 0 n=av x:=by
 apply Array.ext';simp;exact List.take_of_length_le sm
attribute [go_sem] aj b9 aq eW nh ku am cY ap pq cU
def bv(l:List UInt8):Array Value:=(l.map B8).toArray
@[simp] theorem Ml(l:List UInt8):(bv l).size=l.length:=by simp[bv]
theorem oG(l:List UInt8):∀ v ∈ bv l,v.oneCell'=true:=by
 intro v hv;simp only[bv,List.mem_toArray,List.mem_map] at hv;obtain⟨a,_,rfl⟩:=hv;rfl
def AP(w:World)(ad:Option Addr)(n:Nat)(l:List UInt8):Prop :=
 l.length=n∧n≤9223372036854775807∧(0 < n→∃ b o,ad=some ⟨b,o,none⟩∧readAt w b o n=some (bv l))
def Bs(w:World)(ad:Option Addr)(n c:Nat)(l:List UInt8):Prop :=
 l.length=n∧n≤c∧c≤9223372036854775807∧(ad=none→c=0)∧(0 < n→∃ b o,ad=some ⟨b,o,none⟩∧readAt w b o n=some (bv l))
theorem Bs.below{w w1:World}{ad:Option Addr}{n c:Nat}{l:List UInt8}(h:Bs w ad n c l)(hb:Below w.heap.size w w1):Bs w1 ad n c l:=by
 obtain⟨h1,h2,h3,h4,h5⟩:=h;refine⟨h1,h2,h3,h4,fun h0=>?_⟩;obtain⟨b,o,e,hr⟩:=h5 h0;exact⟨b,o,e,by rw[ak hb (ac hr)];exact hr⟩
theorem Bs.at{w:World}{ad:Option Addr}{n c:Nat}{l:List UInt8}(h:Bs w ad n c l)(i:Nat)(hi:i < n):
  ∃ b o,ad=some ⟨b,o,none⟩∧w.cell? ⟨b,o+i,none⟩=some (.int .u8 ((l.getD i 0).toNat:Int)):=by
 obtain⟨h1,_,_,_,h5⟩:=h;obtain⟨b,o,e,hr⟩:=h5 om;exact⟨b,o,e,ab hr i _ (by simp[bv,B8,List.getD,show i < l.length by omega])⟩
theorem Bs.old{w:World}{ad:Option Addr}{n c:Nat}{l:List UInt8}(h:Bs w ad n c l):AP w ad n l :=
 ⟨h.1,by have:=h.2.1;have:=h.2.2.1;omega,h.2.2.2.2⟩
theorem Bs.nil(w:World):Bs w none 0 0 []:=⟨rfl,Nat.le_refl _,om,fun _=>rfl,fun h=>absurd h om⟩
theorem eu(l:List UInt8)(i k:Nat):(bv l).extract i (i+k)=bv ((l.drop i).take k):=by
 apply Array.ext'
 simp[bv,List.extract_eq_take_drop,List.map_take,List.map_drop]
theorem Bs.take{w:World}{b o n c:Nat}{l:List UInt8}(h:Bs w (some ⟨b,o,none⟩) n c l)(k c':Nat)(hk:k≤n)(hc:k≤c')(hc':c'≤c):Bs w (some ⟨b,o,none⟩) k c' (l.take k):=by
 obtain⟨h1,h2,h3,_,h5⟩:=h;refine⟨sO,hc,om,fun h=>(by cases h),fun h0=>?_⟩
 obtain⟨b',o',e,hr⟩:=h5 om;cases e;refine⟨b,o,rfl,?_⟩;rw[aB hr o k (Nat.le_refl _) om,Nat.sub_self,eu,List.drop_zero]
theorem Bs.drop{w:World}{b o n c:Nat}{l:List UInt8}(h:Bs w (some ⟨b,o,none⟩) n c l)(k:Nat)(hk:k≤n):Bs w (some ⟨b,o+k,none⟩) (n - k) (c - k) (l.drop k):=by
 obtain⟨h1,h2,h3,_,h5⟩:=h;refine⟨sO,om,om,fun h=>(by cases h),fun h0=>?_⟩
 obtain⟨b',o',e,hr⟩:=h5 om;cases e;refine⟨b,o+k,rfl,?_⟩;rw[aB hr (o+k) (n - k) om om,show o+k - o=k by omega,eu,List.take_of_length_le sO]
section
open Go.ChangeShapes Go.WideShapes Go.ChangeAt
variable {H:Type} {enc:TypeId × Value→H} {w:World} {base b0:Nat} {r:Reach} {spare:Nat→Bool} {held:Bool} {v:Value} {d:DataW H} {p:List MemPlace}
end
end
section
abbrev Sj:=Vector UInt8 64
def cB:Sj:=Vector.replicate 64 0
theorem lK:(prog.info? 201).map (·.size)=some 64:=kr
def ut(v:Value):Sem Value:=Instr.loadAt 201 v
def wT(v x:Value):Sem Unit:=Instr.storeAt 201 v x
def pH:Sem Value:=Instr.alloc 201 true (.tuple #[])
@[go_sem ↓] theorem Nk(v:Value):Instr.loadAt 201 v=ut v:=rfl
@[go_sem ↓] theorem Mr(v x:Value):Instr.storeAt 201 v x=wT v x:=rfl
@[go_sem ↓] theorem Oa:Instr.alloc 201 true (.tuple #[])=pH:=rfl
@[go_sem ↓] theorem LT(w:World)(b o:Nat)(h:(readAt w b o 64).isSome=true):
  (ut (.pointer (some ⟨b,o,none⟩))).run prog w = .ok (.agg ((readAt w b o 64).getD #[])) w:=by
 obtain⟨cs,hc⟩:=Option.isSome_iff_exists.1 h;unfold ut;rw[aJ w b o 64 201 _ cs hc underlying201 rfl lK,hc];rfl
@[go_sem ↓] theorem JP(w:World)(b o:Nat)(x:Sj)(h:canAt w b o 64=true):
  (wT (.pointer (some ⟨b,o,none⟩)) (.agg (av x))).run prog w = .ok () (setAt w b o (av x)) :=
 aH w b o 64 201 (av x) h (cU x) lK (oE x)
theorem I2:(prog.info? 201).bind (·.zero)=some (.agg (av cB)):=kr
@[go_sem] theorem Jw(w:World):
  pH.run prog w = .ok (.pointer (some ⟨w.heap.size,0,none⟩)) (w.alloc (.cells (av cB) 201)):=by
 obtain⟨i,hi,hz⟩:=Option.bind_eq_some_iff.1 I2;unfold pH;simp[Instr.alloc,zeroValue,typeInfo,hi,hz,newVar,newRow,Value.cells]
theorem dP(w:World)(ty:TypeId)(b o dLen dCap b2 o2 sLen sCap:Nat)(n:Nat)(hn:n=Nat.min sLen dLen)(cs:Array Value)
  (h:canAt w b o n=true) (hr:readAt w b2 o2 n=some cs) (h1:∀ v ∈ cs,v.oneCell'=true) :
  (Builtin.copy_ #[39,39] ty #[.slice (some ⟨b,o,none⟩) dLen dCap,.slice (some ⟨b2,o2,none⟩) sLen sCap]).run prog w = .ok (goInt n) (setAt w b o cs) :=
 vN w 39 39 ty 5 b o dLen dCap b2 o2 sLen sCap n cs underlying39 cQ hn h hr h1
@[go_sem] theorem JT(w:World)(b o h:Nat)(kk:IntKind)(hk:h≤64):
  (Instr.sliceAt 201 (.pointer (some ⟨b,o,none⟩)) none (some (.int kk (h:Int))) none).run prog w = .ok (.slice (some ⟨b,o,none⟩) h 64) w:=by
 have h3 : ¬ 64 < h:=om;cases hq:prog.info? 5 with
 | none=>have:=cQ;simp[hq] at this
 | some i=>simp[Instr.sliceAt,run_underlying underlying201,Instr.sureAddr,Instr.sliceBounds,Instr.sliceBound,asIntOf,h3,sizeOf,typeInfo,hq,Addr.add]
theorem np{fn:Func}{p:Tmp}(h:fn.results=#[.cell p 201])(tmps:Array Value)(w:World)(b o:Nat)(cs:Array Value)
  (hp:tmps.getD p undef = .pointer (some ⟨b,o,none⟩)) (hg:readAt w b o 64=some cs):(results fn tmps).run prog w = .ok (.agg cs) w:=by
 have hp':tmps[p]?.getD undef = .pointer (some ⟨b,o,none⟩):=by simpa using hp
 simp[results,h,hp',asAddr,az w b o 64 201 _ cs hg underlying201 rfl lK]
theorem Od{n:Nat}(x:Vector UInt8 n)(i j:Nat):∀ v ∈ (av x).extract i j,v.oneCell'=true:=fun v hv=>oE x v (by
 simp only[Array.mem_extract_iff_getElem] at hv;obtain⟨k,h1,rfl⟩:=hv;simp)
end
section
theorem xf:prog.cellsOf 5=1:=kr
theorem xN:prog.plainKey 5=true:=kr
theorem gu{n:Nat}(w:World)(d:Nat)(x y:Vector UInt8 n):∀ is:List Nat,(∀ i ∈ is,i < n) →
  (Op.eqItems (d+1) 5 (prog.cellsOf 5) (av x) (av y) is).run prog w = .ok (is.all fun i=>x[i]? == y[i]?) w
 | [],_=>by simp[Op.eqItems]
 | i :: is,h=>by
  have hi:=h i sm;have ih:=gu w d x y is (fun j hj=>h j (by simp[hj]))
  have h1:=run_part_plain w xN (iw x i hi);have h2:=run_part_plain w xN (iw y i hi);have h3:=run_equalIn_int (P:=prog) w d 5 .u8 .u8 (x[i].toNat:Int) (y[i].toNat:Int) underlying5;simp only[Op.eqItems,Sem.run_bind,xf,Nat.mul_one,h1,h2,h3,Result.andThen_ok];have e:((x[i].toNat:Int) == (y[i].toNat:Int))=(x[i]? == y[i]?):=by
   rw[Bool.eq_iff_iff];simp[hi];constructor
   ·intro h;exact UInt8.toNat_inj.1 om
   ·intro h;rw[h]
  rw[e];simp only[List.all_cons];rw[xf] at ih;cases hq:(x[i]? == y[i]?) <;> simp[ih]
theorem ld{n:Nat}(x y:Vector UInt8 n):((List.range n).all fun i=>x[i]? == y[i]?)=(x == y):=by
 rw[Bool.eq_iff_iff,List.all_eq_true];simp only[List.mem_range,beq_iff_eq];constructor
 ·intro h;apply Vector.ext;intro i hi;have:=h i hi;simpa [hi] using this
 ·intro h;subst h;simp
@[go_sem] theorem Cg:prog.eqGuardType prog.depth 201=false:=kr
def wM(parts:Array (Nat × Value)):Sem Value:=Instr.build 201 parts
@[go_sem ↓] theorem Ou(parts:Array (Nat × Value)):Instr.build 201 parts=wM parts:=rfl
theorem Ov:prog.built 201 []=some (av cB):=kr
@[go_sem] theorem Nx(w:World):(wM #[]).run prog w = .ok (.agg (av cB)) w:=run_build w _ _ _ Ov
end
section
def wI(x:UInt32):Int:=(x.toNat:Int)
def bI(b:UInt8):Int:=(b.toNat:Int)
section
variable (x y:UInt32) (b c:UInt8)
theorem oe:0≤bI b:=by unfold bI;omega
theorem od:bI b < 256:=by unfold bI;have:=b.toNat_lt;omega
@[go_sem] theorem RH:bits .xor .u32 (wI x) (wI y)=wI (x ^^^ y):=by
 unfold wI;rw[u32_xor_nat _ _ x.toNat_lt y.toNat_lt,UInt32.toNat_xor]
@[go_sem] theorem RG:bits .xor .u32 (if IntKind.u32.signed=true then -1 else IntKind.u32.max) (wI x)=wI (4294967295 ^^^ x):=by
 show bits .xor .u32 (wI 4294967295) (wI x)=_
 unfold wI;rw[u32_xor_nat _ _ (UInt32.toNat_lt _) x.toNat_lt,UInt32.toNat_xor]
@[go_sem] theorem RE:bits .and .u32 (wI x) (wI y)=wI (x &&& y):=by
 unfold wI;rw[u32_and_nat _ _ x.toNat_lt y.toNat_lt,UInt32.toNat_and]
@[go_sem] theorem RI:bits .or .u32 (wI x) (wI y)=wI (x ||| y):=by
 unfold wI;rw[u32_or_nat _ _ x.toNat_lt y.toNat_lt,UInt32.toNat_or]
@[go_sem] theorem RD:IntKind.u32.wrap (wI x+wI y)=wI (x+y):=by
 unfold wI;rw[IntKind.wrap_u32',UInt32.toNat_add];omega
theorem Au(n:Nat)(hn:n < 32):wI x / 2 ^ n=wI (x >>> UInt32.ofNat n):=by
 unfold wI;have e:(UInt32.ofNat n).toNat % 32=n:=by rw[UInt32.toNat_ofNat'];omega
 rw[UInt32.toNat_shiftRight,e,Nat.shiftRight_eq_div_pow];norm_cast
theorem MP(n:Nat)(hn:n < 32):IntKind.u32.wrap (wI x * 2 ^ n)=wI (x <<< UInt32.ofNat n):=by
 unfold wI;have e:(UInt32.ofNat n).toNat % 32=n:=by rw[UInt32.toNat_ofNat'];omega
 rw[UInt32.toNat_shiftLeft,e,Nat.shiftLeft_eq,IntKind.wrap_u32'];have h:((x.toNat * 2 ^ n:Nat):Int)=(x.toNat:Int) * 2 ^ n:=sm;rw[← h];generalize x.toNat * 2 ^ n=a;have:(2:Nat) ^ 32=4294967296:=dc;rw[this];omega
@[go_sem] theorem Rg:wI x / (8:Int)=wI (x >>> 3):=Au x 3 dc
@[go_sem] theorem QQ:wI x / (1024:Int)=wI (x >>> 10):=Au x 10 dc
@[go_sem] theorem Rf:IntKind.u32.wrap (wI x * (256:Int))=wI (x <<< 8):=MP x 8 dc
@[go_sem] theorem Re:IntKind.u32.wrap (bI b)=wI b.toUInt32:=by
 unfold wI bI;rw[IntKind.wrap_u32',UInt8.toNat_toUInt32];have:=b.toNat_lt;omega
@[go_sem] theorem Of:IntKind.u8.wrap (wI x)=bI x.toUInt8:=by
 unfold wI bI;rw[IntKind.wrap_u8',UInt32.toNat_toUInt8];omega
@[go_sem] theorem Kn:bits .xor .u8 (bI b) (bI c)=bI (b ^^^ c):=by
 unfold bI;rw[u8_xor_nat _ _ b.toNat_lt c.toNat_lt,UInt8.toNat_xor]
@[go_sem] theorem jk:B8 b = .int .u8 (bI b):=rfl
end
def oq(x:UInt32)(n:Nat):UInt32:=x <<< UInt32.ofNat (32 - n) ||| x >>> UInt32.ofNat n
theorem G4(x:UInt32)(n:Nat)(hn:n < 32)(h0:0 < n)(w:World):
  Calls prog 217 #[.int .u32 (wI x),.int .i64 (-(n:Int))] w fun e w'=>e = .returned (.int .u32 (wI (oq x n)))∧w=w':=by
 have e1:bits .and .u64 (IntKind.u64.wrap (-(n:Int))) 31=((32 - n:Nat):Int):=by
  have h1:IntKind.u64.wrap (-(n:Int))=((18446744073709551616 - n:Nat):Int):=wu;rw[h1,show (31:Int)=((31:Nat):Int) from rfl,u64_and_nat _ _ om dc,show (31:Nat)=2 ^ 5 - 1 from rfl,Nat.and_two_pow_sub_one_eq_mod]
  omega
 have e2:IntKind.u64.wrap (32 - ((32 - n:Nat):Int))=((n:Nat):Int):=wu;have h1:(0:Int)≤((32 - n:Nat):Int):=om;have h2:((32 - n:Nat):Int)≤32:=om;have h3:(0:Int)≤(n:Int):=om;have h4:(n:Int)≤32:=om;have e3:=MP x (32 - n) om;have e4:=Au x n hn
 go_in
 go_wp2
 go_ret
 exact⟨rfl,rfl⟩
theorem gr(x:UInt32)(n:Nat)(hn:n < 32)(h0:0 < n)(w:World):
  Calls prog 191 #[.int .u32 (wI x),.int .i64 (n:Int)] w fun e w'=>e = .returned (.int .u32 (wI (oq x n)))∧w=w':=by
 have e1:IntKind.i64.wrap (-(n:Int)) = -(n:Int):=wi
 go_in
 go_wp2_with fail
 refine (G4 x n hn h0 w).mono ?_;rintro _ _ ⟨rfl,rfl⟩
 go_wp2
 go_ret
 exact⟨rfl,rfl⟩
end
section
section
variable {P:Program} {ops:Array Oper} {C:World→Prop} {Q:Act→Prop} {a:Act} {o:Oper} {rest:List Oper}
theorem O9(hw:Region.wanted o (yielded ops a.tmps)=true)(v:Value)(h:∀ w,C w→(execOp a.eval o).run P w = .ok (.value v) w)
  (hn:wpQuiet P ops C Q rest (a.put o.dst v)):wpQuiet P ops C Q (o :: rest) a:=by
 unfold wpQuiet;rw[if_pos hw];exact⟨v,fun w hC=>by unfold Oper.quietAt;rw[h w hC];exact⟨rfl,rfl⟩,hn⟩
theorem Ru(hw:Region.wanted o (yielded ops a.tmps)=true)(h:∃ v,(∀ w,C w→(execOp a.eval o).run P w = .ok (.value v) w)∧wpQuiet P ops C Q rest (a.put o.dst v)):wpQuiet P ops C Q (o :: rest) a :=
 let ⟨v,h1,h2⟩:=h
 O9 hw v h1 h2
theorem Q9(hw:Region.wanted o (yielded ops a.tmps)=true)(h:∃ f args v,(∀ w,C w→(execOp a.eval o).run P w = .ok (.enter f args) w)∧(∀ w,C w→Calls P f args w fun e w'=>e = .returned v∧C w')∧wpQuiet P ops C Q rest (a.put o.dst v)):wpQuiet P ops C Q (o :: rest) a:=by
 obtain⟨f,args,v,h1,h2,h3⟩:=h;unfold wpQuiet;rw[if_pos hw];exact⟨v,fun w hC=>by unfold Oper.quietAt;rw[h1 w hC];exact⟨rfl,h2 w hC⟩,h3⟩
theorem O8(x:Operand)(ho:o.op = .move x)(hw:Region.wanted o (yielded ops a.tmps)=true)
  (hn:wpQuiet P ops C Q rest (a.put o.dst (a.eval x))):wpQuiet P ops C Q (o :: rest) a :=
 O9 hw _ (fun w _=>by rw[execOp,ho];rfl) hn
end
def Gt(init:List Oper)(last:Oper):Bool :=
 (List.range init.length).all (fun i=>last.after.any fun e=>Region.binds .any e && e.on == i) &&
 (List.range init.length).all (fun i=>((init[i]?).map fun o=>o.after.all (fun e=>decide (e.on < i)) && (match o.guard with | some (g,_)=>decide (g < init.length) | none=>true)).getD true) &&
 last.after.all (fun e=>decide (e.on < init.length))
section
variable {P:Program} {init:List Oper} {last:Oper} {Q:Exit→Act→World→Prop}
theorem qt(i:Nat)(h:i < init.length):((init ++ [last]).toArray)[i]? = (init.toArray)[i]?:=by
 simp[List.getElem?_append_left h]
theorem qu:((init ++ [last]).toArray)[init.length]? = some last:=sm
def PG(P:Program)(init:List Oper)(last:Oper)(Q:Exit→Act→World→Prop):Exit→Act→World→Prop
 | .normal,a,w=>wpOp P (init ++ [last]).toArray Q init.length (Q .normal) a w
 | e,a,w=>Q e a w
theorem wy{o:Oper}(hg:(match o.guard with | some (g,_)=>decide (g < init.length) | none=>true)=true)(tmps:Array Value):
  Region.wanted o (yielded (init ++ [last]).toArray tmps)=Region.wanted o (yielded init.toArray tmps):=by
 unfold Region.wanted;cases h:o.guard with
 | none=>rfl
 | some gw =>
  obtain⟨g,b⟩:=gw;simp only[h,decide_eq_true_eq] at hg;have e:yielded (init ++ [last]).toArray tmps g=yielded init.toArray tmps g:=by
   unfold yielded;rw[qt g hg]
  simp only[e]
theorem EM{i:Nat}(hi:i < init.length)(hg:∀ o,init[i]? = some o→(match o.guard with | some (g,_)=>decide (g < init.length) | none=>true)=true){K:Act→World→Prop}{a:Act}{w:World}
  (h:wpOp P init.toArray (PG P init last Q) i K a w):wpOp P (init ++ [last]).toArray Q i K a w:=by
 unfold wpOp at h ⊢;rw[qt i hi];have ho:(init.toArray)[i]? = some init[i]:=by simp[hi]
 simp only[ho] at h ⊢;have hgi:=hg init[i] (by simp[hi])
 rw[wy hgi]
 split
 ·rename_i hw
  rw[if_pos hw] at h
  rcases h with h | ⟨h1,h2⟩
  ·left
   unfold Oper.wp at *;generalize (execOp a.eval init[i]).run P w=r at *;cases r with
   | ok n w'=>cases n <;> first | exact h | (simp only[Oper.upon] at h ⊢;exact Calls.mono h (fun e w'' he=>by cases e <;> exact he))
   | halt x w'=>cases x <;> exact h
  ·exact .inr ⟨h1,h2⟩
 ·rename_i hw
  rw[if_neg hw] at h;exact h
theorem jH{listed:Array Bool}{m:Nat}(hs:listed.size=m+1)(i:Nat)(hi:i < m)(d:Bool):listed.pop.getD i d=listed.getD i d:=by
 have h1:i < listed.size:=om;have h2:i < listed.size - 1:=om;simp[Array.getD,h1,h2]
theorem Mj(listed:Array Bool)(i:Nat):(listed.setIfInBounds i true).pop=listed.pop.setIfInBounds i true:=by
 apply Array.ext
 ·simp
 ·intro j h1 h2;simp only[Array.getElem_pop];simp only[Array.size_pop,Array.size_setIfInBounds] at h1 h2
  by_cases e:i=j
  ·subst e;simp
  ·rw[Array.getElem_setIfInBounds_ne om e,Array.getElem_setIfInBounds_ne sO e,Array.getElem_pop]
theorem Ip(listed:Array Bool)(m:Nat)(hs:listed.size=m+1):(listed.setIfInBounds m true).pop=listed.pop:=by
 apply Array.ext
 ·simp
 ·intro j h1 h2;simp only[Array.size_pop,Array.size_setIfInBounds] at h1 h2;simp only[Array.getElem_pop];rw[Array.getElem_setIfInBounds_ne _ om]
theorem jY{listed:Array Bool}(hs:listed.size=init.length+1)(i:Nat)(hi:i < init.length)
  (hon:∀ o:Oper,init[i]? = some o→o.after.all (fun e=>decide (e.on < i))=true):i ∈ Region.ready .any (init ++ [last]).toArray listed↔i ∈ Region.ready .any init.toArray listed.pop:=by
 rw[mem_ready,mem_ready,qt i hi,jH hs i hi];constructor
 ·rintro ⟨h0,o,ho,hall⟩;refine⟨h0,o,ho,fun e he hb=>?_⟩;have h3:=(Array.all_eq_true_iff_forall_mem.1 (hon o (by simpa using ho))) e he
  simp only[decide_eq_true_eq] at h3;rw[jH hs _ om];exact hall e he hb
 ·rintro ⟨h0,o,ho,hall⟩;refine⟨h0,o,ho,fun e he hb=>?_⟩;have h3:=(Array.all_eq_true_iff_forall_mem.1 (hon o (by simpa using ho))) e he
  simp only[decide_eq_true_eq] at h3;have:=hall e he hb;rw[jH hs _ om] at this;exact this
theorem iC{L:Array Bool}{i:Nat}(hi:i < L.size)(d d':Bool):L.getD i d=L.getD i d':=by simp[Array.getD,hi]
theorem yq{L:Array Bool}(hs:L.size=init.length)(h:Region.ready .any init.toArray L=[])
  (hon:∀ (i:Nat) (o:Oper),init[i]? = some o→o.after.all (fun e=>decide (e.on < i))=true):∀ i,i < init.length→L.getD i false=true:=by
 intro i
 induction i using Nat.strongRecOn with
 | ind i ih =>
  intro hi;cases hq:L.getD i false with
  | true=>rfl
  | false =>
   have:i ∈ Region.ready .any init.toArray L:=by
    rw[mem_ready];refine⟨by rw[iC om true false];exact hq,init[i],by simp[hi],fun e he _=>?_⟩
    have h3:=(Array.all_eq_true_iff_forall_mem.1 (hon i init[i] (by simp[hi]))) e he
    simp only[decide_eq_true_eq] at h3;exact ih e.on h3 om
   rw[h] at this;cases this
theorem Az(hB:Gt init last=true):∀ (fuel:Nat) (listed:Array Bool) (a:Act) (w:World),listed.size=init.length+1→listed.getD init.length true=false →
  wpAny P .any init.toArray (PG P init last Q) fuel listed.pop a w→wpAny P .any (init ++ [last]).toArray Q (fuel+1) listed a w:=by
 simp only[Gt,Bool.and_eq_true,List.all_eq_true,List.mem_range] at hB;obtain⟨⟨hall,htop⟩,hlast⟩:=hB;have hon:∀ (i:Nat) (o:Oper),init[i]? = some o→o.after.all (fun e=>decide (e.on < i))=true:=fun i o ho=>by
  have hi:i < init.length:=(List.getElem?_eq_some_iff.1 ho).1;have:=htop i hi;rw[ho] at this;simp only[Option.map_some,Option.getD_some,Bool.and_eq_true] at this;exact this.1
 have hgd:∀ (i:Nat) (o:Oper),init[i]? = some o→(match o.guard with | some (g,_)=>decide (g < init.length) | none=>true)=true:=fun i o ho=>by
  have hi:i < init.length:=(List.getElem?_eq_some_iff.1 ho).1;have:=htop i hi;rw[ho] at this;simp only[Option.map_some,Option.getD_some,Bool.and_eq_true] at this;exact this.2
 have hle:∀ (listed:Array Bool) i,i ∈ Region.ready .any (init ++ [last]).toArray listed→i≤init.length:=fun listed i hi=>by
  obtain⟨_,o,ho,_⟩:=mem_ready.1 hi;have:=(Array.getElem?_eq_some_iff.1 ho).1;simp at this;omega
 have hdone:∀ (listed:Array Bool),listed.size=init.length+1→listed.getD init.length true=false→Region.ready .any init.toArray listed.pop=[]→init.length ∈ Region.ready .any (init ++ [last]).toArray listed:=fun listed hs hl hr=>by
  rw[mem_ready];refine⟨hl,last,qu,fun e he _=>?_⟩;have h3:=(Array.all_eq_true_iff_forall_mem.1 hlast) e he;simp only[decide_eq_true_eq] at h3;have:=yq (by simp[hs]) hr hon e.on h3
  rwa [jH hs _ h3] at this
 have hnone:∀ (listed:Array Bool),listed.size=init.length+1→Region.ready .any init.toArray listed.pop=[]→Region.ready .any (init ++ [last]).toArray (listed.setIfInBounds init.length true)=[]:=fun listed hs hr=>by
  rw[List.eq_nil_iff_forall_not_mem];intro i hi;have h1:=hle _ i hi
  rcases Nat.lt_or_eq_of_le h1 with h | h
  ·rw[jY (by simp[hs]) i h (hon i),Ip _ _ hs,hr] at hi;cases hi
  ·subst h;have:=(mem_ready.1 hi).1;simp[hs] at this
 have hfin:∀ (fuel:Nat) (listed:Array Bool) (a:Act) (w:World),listed.size=init.length+1→listed.getD init.length true=false→Region.ready .any init.toArray listed.pop=[] →
   PG P init last Q .normal a w→wpAny P .any (init ++ [last]).toArray Q (fuel+1) listed a w:=fun fuel listed a w hs hl hr hT=>by
  refine⟨fun h=>?_,fun i hi=>?_⟩
  ·have:=hdone listed hs hl hr;rw[h] at this;cases this
  ·rcases Nat.lt_or_eq_of_le (hle _ i hi) with h | h
   ·rw[jY hs i h (hon i),hr] at hi;cases hi
   ·subst h;refine wpOp_mono (fun a w hq=>?_) hT;have hn:=hnone listed hs hr;cases fuel with
    | zero=>exact⟨hn,hq⟩
    | succ fuel=>exact⟨fun _=>hq,fun j hj=>by rw[hn] at hj;cases hj⟩
 intro fuel
 induction fuel with
 | zero=>intro listed a w hs hl h;exact hfin 0 listed a w hs hl h.1 h.2
 | succ fuel ih =>
  intro listed a w hs hl h
  by_cases hr:Region.ready .any init.toArray listed.pop=[]
  ·exact hfin _ listed a w hs hl hr (h.1 hr)
  ·refine⟨fun h0=>?_,fun i hi=>?_⟩
   ·exfalso;apply hr
    rw[List.eq_nil_iff_forall_not_mem];intro i hi;have hlt:i < init.length:=by
     obtain⟨_,o,ho,_⟩:=mem_ready.1 hi
     simpa using (Array.getElem?_eq_some_iff.1 ho).1
    rw[← jY hs i hlt (hon i),h0] at hi;cases hi
   ·rcases Nat.lt_or_eq_of_le (hle _ i hi) with hlt | h1
    ·rw[jY hs i hlt (hon i)] at hi;refine EM hlt (hgd i) (wpOp_mono (fun a w hq=>?_) (h.2 i hi));refine ih _ a w (by simp[hs]) ?_ (by rw[Mj];exact hq)
     rw[getD_set_ne true om];exact hl
    ·exfalso;subst h1;apply hr
     obtain⟨_,o,ho,hal⟩:=mem_ready.1 hi;rw[qu] at ho;obtain rfl:=Option.some.inj ho;rw[List.eq_nil_iff_forall_not_mem];intro i hi2;obtain⟨h0,o,ho,_⟩:=mem_ready.1 hi2;have hlt:i < init.length:=by simpa using (Array.getElem?_eq_some_iff.1 ho).1
     have:=hall i hlt;simp only[Array.any_eq_true,Bool.and_eq_true,beq_iff_eq] at this;obtain⟨j,hj,hb,he⟩:=this;have:=hal last.after[j] sm hb;rw[he] at this;rw[jH hs i hlt,iC om true false,this] at h0;cases h0
theorem jf{C:World→Prop}{id:Nat}{a:Act}{w:World}(init:List Oper)(last:Oper){l:List Oper}(hl:l=init ++ [last])(hm:P.follows .mixedOrders=true)(hB:Region.lexB .any init.toArray=true)(hL:Gt init last=true)(hC:C w.drew)
  (h:wpQuiet P init.toArray C (fun a'=>∀ w',C w'→wpList P (init ++ [last]).toArray Q [last] a' w') init a):(Code.region id l.toArray true).wp P Q a w:=by
 subst hl;simp only[Region.lexB,Bool.and_eq_true] at hB;refine wp_region_any hm ?_;have hT:wpAny P .any init.toArray (PG P init last Q) init.length (Array.replicate init.length false) a w.drew:=by
  refine wpAny_of_quiet (Q:=fun a'=>∀ w',C w'→wpList P (init ++ [last]).toArray Q [last] a' w') (fun a' w' hw' h=>?_) _ _ _ _ hC ?_
  ·have h1:=h w' hw'
   show wpOp P _ Q init.length (Q .normal) a' w'
   unfold wpOp;rw[qu];exact h1
  ·exact wpAnyQ_lex (C:=C) (md:=.any) hB.1 init 0 (Array.replicate init.length false) a sm (by simpa using hB.2) h
 have:=Az (P:=P) (Q:=Q) hL init.length (Array.replicate (init.length+1) false) a w.drew sm sm (by
  have e:(Array.replicate (init.length+1) false).pop=Array.replicate init.length false:=by
   apply Array.ext <;> simp
  rw[e];exact hT)
 simpa using this
theorem jw{C:World→Prop}{id:Nat}{a:Act}{w:World}{l:List Oper}(hne:l≠[])(hm:P.follows .mixedOrders=true)(hB:Region.lexB .any l.dropLast.toArray=true)(hL:Gt l.dropLast (l.getLast hne)=true)(hC:C w.drew)
  (h:wpQuiet P l.dropLast.toArray C (fun a'=>∀ w',C w'→wpList P l.toArray Q [l.getLast hne] a' w') l.dropLast a):(Code.region id l.toArray true).wp P Q a w:=by
 refine jf l.dropLast (l.getLast hne) (List.dropLast_concat_getLast hne).symm hm hB hL hC ?_;rw[List.dropLast_concat_getLast hne];exact h
end
end
end Go.Proofs.YtlcfaaodmickbaaGreatDoor
