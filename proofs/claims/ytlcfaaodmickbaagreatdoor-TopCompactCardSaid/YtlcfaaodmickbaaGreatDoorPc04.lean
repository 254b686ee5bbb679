/- Part 4 of the proof: texts merged and shortened by a program. No conditions. -/
import Derived.Laws.BitsAll
import Derived.Laws.MakeOwn
import Derived.Laws.OwnMore
import Derived.Test.YtlcfaaodmickbaaGreatDoorPc03
set_option linter.unusedSimpArgs false
set_option linter.unusedVariables false
set_option maxRecDepth 100000
set_option maxHeartbeats 8000000
namespace Go.Proofs.YtlcfaaodmickbaaGreatDoor
open Go.RowKit Go.Proofs.Tryz
section
def O6:Nat:=2197175160
def vp(x:Nat):Nat:=if x % 2=1 then (x / 2) ^^^ O6 else x / 2
def fP:Nat→Nat→Nat
 | 0,x=>x
 | n+1,x=>fP n (vp x)
def fW(x:Nat):Nat:=fP 8 x
def lu(x:Nat)(l:List UInt8):Nat:=l.foldl (fun x c=>fW (x ^^^ c.toNat)) x
def t7(l:List UInt8):Nat:=4294967295 - lu 4294967295 l
theorem Ll{x:Nat}(h:x < 4294967296):vp x < 4294967296:=by
 unfold vp;split
 ·exact Nat.xor_lt_two_pow (n:=32) om dc
 ·omega
theorem MR(x y:Nat):(x ^^^ y) % 2=x % 2 ^^^ y % 2:=by
 have:=Nat.xor_mod_two_pow (a:=x) (b:=y) (n:=1)
 simpa using this
theorem GN(x y:Nat):vp (x ^^^ y)=vp x ^^^ vp y:=by
 unfold vp;have hp:=MR x y;rw[Nat.xor_div_two]
 rcases Nat.mod_two_eq_zero_or_one x with hx | hx <;> rcases Nat.mod_two_eq_zero_or_one y with hy | hy <;>
  rw[hp,hx,hy]
 ·simp
 ·simp[Nat.xor_assoc]
 ·simp only[Nat.xor_zero,if_true,show ¬ (0=1) by omega,if_false]
  rw[Nat.xor_assoc,Nat.xor_assoc,Nat.xor_comm (y / 2)]
 ·simp only[Nat.xor_self,if_true,show ¬ (0=1) by omega,if_false]
  rw[Nat.xor_assoc,← Nat.xor_assoc O6,Nat.xor_comm O6,Nat.xor_assoc,Nat.xor_self,Nat.xor_zero]
theorem GM(x:Nat):vp (2 * x)=x:=by
 unfold vp;rw[if_neg om];omega
theorem xZ{n x:Nat}(h:x < 4294967296):fP n x < 4294967296:=by
 induction n generalizing x with
 | zero=>exact h
 | succ n ih=>exact ih (Ll h)
theorem nG(n x y:Nat):fP n (x ^^^ y)=fP n x ^^^ fP n y:=by
 induction n generalizing x y with
 | zero=>rfl
 | succ n ih=>simp only[fP,GN,ih]
theorem En(n m x:Nat):fP (n+m) x=fP m (fP n x):=by
 induction n generalizing x with
 | zero=>simp[fP]
 | succ n ih=>rw[Nat.succ_add];simp only[fP];exact ih _
theorem Al(n x:Nat):fP (n+1) x=vp (fP n x):=by rw[En];rfl
theorem Eo(n x:Nat):fP n (2 ^ n * x)=x:=by
 induction n generalizing x with
 | zero=>simp[fP]
 | succ n ih =>
  simp only[fP];rw[show 2 ^ (n+1) * x=2 * (2 ^ n * x) by rw[Nat.pow_succ];ac_rfl,GM,ih]
theorem El(n x:Nat):x=(2 ^ n * (x / 2 ^ n)) ^^^ (x % 2 ^ n):=by
 apply Nat.eq_of_testBit_eq
 intro i;rw[Nat.testBit_xor,Nat.testBit_mod_two_pow,Nat.testBit_two_pow_mul,Nat.testBit_div_two_pow]
 by_cases h:i < n
 ·simp[h,show ¬ n≤i by omega]
 ·simp[h,show n≤i by omega,show i - n+n=i by omega]
theorem vY(n x:Nat):fP n x=(x / 2 ^ n) ^^^ fP n (x % 2 ^ n):=by
 have:=congrArg (fP n) (El n x);rw[nG,Eo] at this;exact this
theorem rW{x:Nat}(h:x < 4294967296):fW x < 4294967296:=xZ h
theorem rX(x c:Nat):fW (x ^^^ c)=(x / 256) ^^^ fW ((x % 256) ^^^ c):=by
 unfold fW;rw[nG,vY 8 x,nG,Nat.xor_assoc]
theorem ye{x:Nat}{l:List UInt8}(h:x < 4294967296):lu x l < 4294967296:=by
 induction l generalizing x with
 | nil=>exact h
 | cons c l ih=>exact ih (rW (Nat.xor_lt_two_pow (n:=32) h (by have:=c.toNat_lt;omega)))
theorem pA(x:Nat)(l m:List UInt8):lu x (l ++ m)=lu (lu x l) m:=List.foldl_append
theorem yf(x:Nat)(l:List UInt8)(c:UInt8):lu x (l ++ [c])=fW (lu x l ^^^ c.toNat):=by rw[pA];rfl
end
section
theorem Fl(x:Nat)(hx:x < 4294967296):bits .and .u32 (x:Int) 1=((x % 2:Nat):Int):=by
 have:=u32_and_nat x 1 hx om;rw[show ((1:Nat):Int)=1 by rfl] at this
 rw[this,Nat.and_one_is_mod]
theorem Lm(x:Nat)(w:World)(hx:x < 4294967296):
  Calls prog 233 #[.int .u32 x] w fun e w'=>e = .returned (.int .u32 (vp x:Nat))∧w=w':=by
 have e1:=Fl x hx;have e2:bits .xor .u32 ((x:Int) / 2) 2197175160=((x / 2 ^^^ O6:Nat):Int):=by
  have:=u32_xor_nat (x / 2) 2197175160 om om;rw[show ((2197175160:Nat):Int)=2197175160 by rfl] at this
  exact this
 by_cases h:x % 2=1
 ·have hf:vp x=(x / 2 ^^^ O6):=by unfold vp;rw[if_pos h]
  have Hf:=SM hf;clear hf
  go_in
  go_wp2
  go_ret
  exact⟨by rw[Hf.o];rfl,rfl⟩
 ·have hf:vp x=x / 2:=by unfold vp;rw[if_neg h]
  have Hf:=SM hf;have h0:x % 2=0:=om;clear hf h
  go_in
  go_wp2
  go_ret
  exact⟨by rw[Hf.o];rfl,rfl⟩
theorem rY(x:Nat)(w:World)(hx:x < 4294967296):
  Calls prog 229 #[.int .u32 x] w fun e w'=>e = .returned (.int .u32 (fW x:Nat))∧w=w':=by
 go_in
 go_wp2_with fail
 go_loop [0,3] (fun y i=>∃ k:Nat,k≤8∧i = .int .i64 k∧y = .int .u32 (fP k x:Nat)) (fun _ i=>8 - (intOf i).toNat)
 case atStart=>exact⟨0,om,rfl,rfl⟩
 case round =>
  obtain⟨k,hk,rfl,rfl⟩:=hrel
  by_cases hlt:k < 8
  ·have hy:fP k x < 4294967296:=xZ hx
   go_wp2_with fail
   refine (Lm _ _ hy).mono ?_;rintro _ _ ⟨rfl,rfl⟩;rw[← Al]
   go_wp2
   go_round
   case rel=>exact⟨k+1,om,by go_num,rfl⟩
   case measure=>simp[intOf];omega
  ·obtain rfl:k=8:=om;have hf:fW x=fP 8 x:=rfl;have Hf:=SM hf;clear hf
   go_wp2
   go_ret
   exact⟨by rw[Hf.o];rfl,rfl⟩
def gx(k:Nat):Array Value:=Array.ofFn (n:=256) fun i=>if i.val < k then .int .u32 (fW i.val:Nat) else .int .u32 0
def Tk:Array Value:=Array.ofFn (n:=256) fun i=>.int .u32 (fW i.val:Nat)
@[simp,go_sem] theorem Ai(k:Nat):(gx k).size=256:=by simp[gx]
@[simp,go_sem] theorem Qe:Tk.size=256:=by simp[Tk]
theorem tN:gx 256=Tk:=by
 apply Array.ext
 ·simp
 ·intro i h1 h2;simp[gx,Tk] at *
theorem Ap(k:Nat)(h:k < 256):bK (gx k) k #[.int .u32 (fW k:Nat)]=gx (k+1):=by
 apply Array.ext_getElem?
 intro i;rw[bU _ _ _ sO]
 by_cases hi:i < 256
 ·by_cases h2:i=k
  ·subst h2;rw[if_pos sm];simp[gx,h]
  ·rw[if_neg sO]
   by_cases h3:i < k
   ·simp[gx,hi,h3,show i < k+1 by omega]
   ·simp[gx,hi,h3,show ¬ i < k+1 by omega]
 ·rw[if_neg sO];simp[hi]
theorem Ex(k:Nat):∀ v ∈ gx k,v.oneCell'=true:=by
 intro v hv;simp only[gx,Array.mem_ofFn] at hv;obtain⟨i,rfl⟩:=hv
 split <;> rfl
theorem MD:∀ v ∈ Tk,v.oneCell'=true:=by rw[← tN];exact Ex _
theorem MA(k:Nat)(h:k < 256):Tk[k]? = some (.int .u32 (fW k:Nat)):=by simp[Tk,h]
@[go_sem] theorem Mz:Tk.extract 0 256=Tk:=by
 apply Array.ext';simp;exact List.take_of_length_le sm
@[go_sem] theorem IB(k:Nat):(gx k).extract 0 256=gx k:=by
 apply Array.ext';simp;exact List.take_of_length_le sm
theorem qC:(prog.info? 338).map (·.size)=some 256:=kr
theorem I3:(prog.info? 338).bind (·.zero)=some (.agg (gx 0)):=by
 have h:(prog.info? 338).bind (·.zero)=some (.agg (Array.replicate 256 (.int .u32 0))):=kr
 have e:Array.replicate 256 (Value.int .u32 0)=gx 0:=by
  apply Array.ext
  ·rw[Array.size_replicate,Ai]
  ·intro i h1 h2;rw[Array.getElem_replicate];simp only[gx,Array.getElem_ofFn,Nat.not_lt_zero,if_false]
 rw[← e];exact h
def uu(v:Value):Sem Value:=Instr.loadAt 338 v
def wU(v x:Value):Sem Unit:=Instr.storeAt 338 v x
def pI:Sem Value:=Instr.alloc 338 true (.tuple #[])
@[go_sem ↓] theorem Nl(v:Value):Instr.loadAt 338 v=uu v:=rfl
@[go_sem ↓] theorem Mt(v x:Value):Instr.storeAt 338 v x=wU v x:=rfl
@[go_sem ↓] theorem Oc:Instr.alloc 338 true (.tuple #[])=pI:=rfl
@[go_sem ↓] theorem LU(w:World)(b o:Nat)(h:(readAt w b o 256).isSome=true):
  (uu (.pointer (some ⟨b,o,none⟩))).run prog w = .ok (.agg ((readAt w b o 256).getD #[])) w:=by
 obtain⟨cs,hc⟩:=Option.isSome_iff_exists.1 h;unfold uu;rw[aJ w b o 256 338 _ cs hc underlying338 rfl qC,hc];rfl
@[go_sem ↓] theorem JQ(w:World)(b o:Nat)(h:canAt w b o 256=true):
  (wU (.pointer (some ⟨b,o,none⟩)) (.agg Tk)).run prog w = .ok () (setAt w b o Tk) :=
 aH w b o 256 338 Tk h sm qC MD
@[go_sem] theorem Jy(w:World):
  pI.run prog w = .ok (.pointer (some ⟨w.heap.size,0,none⟩)) (w.alloc (.cells (gx 0) 338)):=by
 obtain⟨i,hi,hz⟩:=Option.bind_eq_some_iff.1 I3;unfold pI;simp[Instr.alloc,zeroValue,typeInfo,hi,hz,newVar,newRow,Value.cells]
theorem vG{fn:Func}{p:Tmp}(h:fn.results=#[.cell p 338])(tmps:Array Value)(w:World)(b o:Nat)(cs:Array Value)
  (hp:tmps.getD p undef = .pointer (some ⟨b,o,none⟩)) (hg:readAt w b o 256=some cs):(results fn tmps).run prog w = .ok (.agg cs) w:=by
 have hp':tmps[p]?.getD undef = .pointer (some ⟨b,o,none⟩):=by simpa using hp
 simp[results,h,hp',asAddr,az w b o 256 338 _ cs hg underlying338 rfl qC]
attribute [irreducible] Tk gx
set_option maxRecDepth 10000 in
theorem Er(w:World):
  Calls prog 230 #[] w fun e w'=>e = .returned (.agg Tk)∧Below w.heap.size w w':=by
 go_in
 go_wp2
 go_loopw [3] (fun i wr=>∃ k:Nat,k≤256∧i = .int .i64 k∧readAt wr (w.heap.size+1) 0 256=some (gx k)∧canAt wr (w.heap.size+1) 0 256=true∧canAt wr w.heap.size 0 256=true∧Below w.heap.size w wr) (fun i _=>256 - (intOf i).toNat)
 case atStart=>exact⟨0,om,rfl,by simp[go_sem],by simp[go_sem],by simp[go_sem],ba _ (ba _ (Below.refl _ _))⟩
 case round =>
  obtain⟨k,hk,rfl,hr,hc,hc0,hb⟩:=hrel
  by_cases hlt:k < 256
  ·have hfr:=bq hc k;have hold:=ab hr k ((gx k)[k]'sO) sm;rw[Nat.zero_add] at hfr hold;have Hr:=SM hr;have Hc:=SM hc;have Hc0:=SM hc0;clear hr hc hc0;generalize (gx k)[k]'sO=old at *
   go_wp2_with fail
   refine (rY k _ om).mono ?_;rintro _ _ ⟨rfl,rfl⟩
   go_wp2
   go_roundw
   case rel =>
    refine⟨k+1,om,by go_num,?_⟩
    have hcan1:=aC Hc.o k 1 om;rw[aK hcan1];refine⟨?_,?_,?_,aa hb om _ _⟩
    ·rw[ae _ _ 0 256 _ Hr.o Hc.o k _ om sO,Nat.sub_zero];exact congrArg some (Ap k hlt)
    ·rw[ap _ _ _ _ _ _ _ (by simpa using hcan1)];exact Hc.o
    ·rw[ap _ _ _ _ _ _ _ (by simpa using hcan1)];exact Hc0.o
   case measure=>simp[intOf];omega
  ·obtain rfl:k=256:=om;rw[tN] at hr
   go_wp2
   refine bodyPost_ret (vG rfl _ _ (w.heap.size) 0 Tk rfl ?_) rfl ⟨rfl,aa hb (Nat.le_refl _) _ _⟩;exact am _ _ _ _ _ sm hc0
end
section
theorem toNat_lt(c:UInt8):c.toNat < 256:=c.toNat_lt
theorem EQ(x y:Nat)(hx:x < 4294967296)(hy:y < 4294967296):bits .xor .u32 (x:Int) (y:Int)=((x ^^^ y:Nat):Int):=u32_xor_nat x y hx hy
theorem PD(x y:Nat)(hx:x < 4294967296)(hy:y < 4294967296):x ^^^ y < 4294967296:=Nat.xor_lt_two_pow (n:=32) hx hy
theorem iU{α:Type}(l:List α)(k:Nat)(d:α)(h:k < l.length):l.take (k+1)=l.take k ++ [l.getD k d]:=by
 rw[List.take_succ_eq_append_getElem h,List.getD_eq_getElem?_getD,List.getElem?_eq_getElem h];rfl
def AK(B:Nat)(y:Nat)(w:World)(w':World):Prop:=∃ w1,Below w.heap.size w w1∧w'=w1.setCell ⟨B,0,none⟩ (.int .u32 (y:Nat))
theorem Fy(B:Nat)(ad:Option Addr)(n c:Nat)(l:List UInt8)(x:Nat)(w:World)(hx:x < 4294967296)(hB:B < w.heap.size)(hc:w.cell? ⟨B,0,none⟩=some (.int .u32 x))(hf:w.frozen? ⟨B,0,none⟩=false)(hl:Bs w ad n c l):
  Calls prog 222 #[.pointer (some ⟨B,0,none⟩),.slice ad n c] w fun e w'=>e = .returned (.tuple #[])∧AK B (lu x l) w w':=by
 have hn:=hl.1;have hmx:n≤9223372036854775807:=by have:=hl.2.1;have:=hl.2.2.1;omega
 have Hl:=SM hl;have Hn:=SM hn;clear hl hn
 by_cases hs:n < 64
 ·have d0:decide ((n:Int) < 64)=true:=sO
  go_in
  go_wp2_with fail
  go_loop [4,18] (fun y i=>∃ k:Nat,k≤n∧i = .int .i64 k∧y = .int .u32 (lu x (l.take k):Nat)) (fun _ i=>n - (intOf i).toNat)
  case atStart=>exact⟨0,om,rfl,rfl⟩
  case round =>
   obtain⟨k,hk,rfl,rfl⟩:=hrel
   by_cases hlt:k < n
   ·obtain⟨b,o,rfl,hcell⟩:=Hl.o.at k hlt;have hsn:=iU l k 0 (by rw[Hn.o];exact hlt)
    have hb:=toNat_lt (l.getD k 0);have hy:lu x (l.take k) < 4294967296:=ye hx;have hu:=yf x (l.take k) (l.getD k 0);rw[← hsn] at hu;have Hu:=SM hu;clear hsn hu;generalize lu x (l.take k)=y at *;generalize (l.getD k 0).toNat=z at *;have e1:=EQ y z hy om
    go_wp2_with fail
    refine (rY _ _ (PD y z hy om)).mono ?_;rintro _ _ ⟨rfl,rfl⟩
    go_wp2
    go_round
    case rel=>exact⟨k+1,om,by go_num,by rw[Hu.o]⟩
    case measure=>simp[intOf];omega
   ·obtain rfl:k=n:=om;have hf2:lu x (l.take k)=lu x l:=by rw[List.take_of_length_le (by rw[Hn.o];exact Nat.le_refl _)]
    rw[hf2];clear hf2
    go_wp2
    go_end0
    exact⟨rfl,w,Below.refl _ _,rfl⟩
 ·have d0:decide ((n:Int) < 64)=false:=sO
  go_in
  go_wp2_with fail
  refine (Er _).mono ?_;rintro _ w1 ⟨rfl,hb1⟩;have hc1:=(hb1.cell (p:=⟨B,0,none⟩) hB).trans hc;have hf1:=(hb1.frozen (p:=⟨B,0,none⟩) hB).trans hf;have hB1:B < w1.heap.size:=Nat.lt_of_lt_of_le hB hb1.size;clear hc hf
  go_wp2_with fail
  obtain⟨w2,hw2⟩:=eY (w1.alloc (.cells Tk 338));have hb2:Below w.heap.size w w2:=by rw[← hw2];exact ba _ hb1
  have ht:Hd (readAt w2 w1.heap.size 0 256=some Tk):=by show _=_;rw[← hw2];simp[go_sem]
  have hc2:w2.cell? ⟨B,0,none⟩=some (.int .u32 x):=by rw[← hw2];simp[go_sem,hB1,hc1]
  have hf2:w2.frozen? ⟨B,0,none⟩=false:=by rw[← hw2];simp[go_sem,hB1,hf1]
  have Hl2:=SM (Hl.o.below hb2);rw[hw2];clear hw2 hc1 hf1 Hl
  go_loop [4,31] (fun y i=>∃ k:Nat,k≤n∧i = .int .i64 k∧y = .int .u32 (lu x (l.take k):Nat)) (fun _ i=>n - (intOf i).toNat)
  case atStart=>exact⟨0,om,rfl,rfl⟩
  case round =>
   obtain⟨k,hk,rfl,rfl⟩:=hrel
   by_cases hlt:k < n
   ·obtain⟨b,o,rfl,hcell⟩:=Hl2.o.at k hlt;have hsn:=iU l k 0 (by rw[Hn.o];exact hlt)
    have hb:=toNat_lt (l.getD k 0);have hy:lu x (l.take k) < 4294967296:=ye hx;have hu:=yf x (l.take k) (l.getD k 0);rw[← hsn,rX] at hu;have Hu:=SM hu;clear hsn hu;generalize lu x (l.take k)=y at *;generalize (l.getD k 0).toNat=z at *;have hx8:y % 256 ^^^ z < 256:=Nat.xor_lt_two_pow (n:=8) om om;have e1:bits .xor .u8 ((y:Int) % 256) (z:Int)=((y % 256 ^^^ z:Nat):Int):=by
     have:=u8_xor_nat (y % 256) z om om;exact this
    have ht1:=ab ht.o _ _ (MA _ hx8);rw[Nat.zero_add] at ht1;have h8:fW (y % 256 ^^^ z) < 4294967296:=rW om;generalize fW (y % 256 ^^^ z)=q at *;generalize y % 256 ^^^ z=t at *;have e2:bits .xor .u32 ((y:Int) / 256) (q:Int)=((y / 256 ^^^ q:Nat):Int):=by
     have:=EQ (y / 256) q om om;exact this
    go_wp2
    go_round
    case rel=>exact⟨k+1,om,by go_num,by rw[Hu.o]⟩
    case measure=>simp[intOf];omega
   ·obtain rfl:k=n:=om;have hf2:lu x (l.take k)=lu x l:=by rw[List.take_of_length_le (by rw[Hn.o];exact Nat.le_refl _)]
    rw[hf2];clear hf2
    go_wp2
    go_end0
    exact⟨rfl,w2,hb2,rfl⟩
def gn(w:World)(B x:Nat):Prop:=readAt w B 0 1=some #[.int .u32 (x:Nat)]∧canAt w B 0 1=true
theorem gn.cell{w:World}{B x:Nat}(h:gn w B x):w.cell? ⟨B,0,none⟩=some (.int .u32 (x:Nat)):=ab h.1 0 _ rfl
theorem gn.free{w:World}{B x:Nat}(h:gn w B x):w.frozen? ⟨B,0,none⟩=false:=bq h.2 0
theorem gn.lt{w:World}{B x:Nat}(h:gn w B x):B < w.heap.size:=ac h.1
theorem gn.below{w w1:World}{B x:Nat}(h:gn w B x)(hb:Below w.heap.size w w1):gn w1 B x :=
 ⟨by rw[ak hb h.lt];exact h.1,by rw[ay hb h.lt];exact h.2⟩
theorem gn.new(w:World)(x:Nat)(t:TypeId):gn (w.alloc (.cells #[.int .u32 (x:Nat)] t)) w.heap.size x:=⟨by simp[go_sem],by simp[go_sem]⟩
theorem gn.set{w w':World}{B x y:Nat}(h:gn w B x)(ha:AK B y w w'):gn w' B y:=by
 obtain⟨w1,hb,rfl⟩:=ha;have h1:=h.below hb;rw[aK h1.2];exact⟨am _ _ _ _ _ rfl h1.2,by rw[ap _ _ _ _ _ _ _ (by exact h1.2)];exact h1.2⟩
theorem AK.below{w0 w w':World}{B x y:Nat}(hb0:Below w0.heap.size w0 w)(ha:AK B y w w')(hB:w0.heap.size≤B)(h:gn w B x):Below w0.heap.size w0 w':=by
 obtain⟨w1,hb,rfl⟩:=ha;have h1:=h.below hb;rw[aK h1.2];exact aa (bt hb0 hb) hB _ _
theorem Kj(B:Nat)(ad:Option Addr)(n c:Nat)(l:List UInt8)(x:Nat)(w:World)(hx:x < 4294967296)(h:gn w B x)(hl:Bs w ad n c l):
  Calls prog 222 #[.pointer (some ⟨B,0,none⟩),.slice ad n c] w fun e w'=>e = .returned (.tuple #[])∧AK B (lu x l) w w' :=
 Fy B ad n c l x w hx h.lt h.cell h.free hl
def Ps(w:World)(ad:Option Addr)(n c:Nat)(L:List (List UInt8)):Prop :=
 L.length=n∧n≤c∧c≤9223372036854775807∧∀ i,i < n→∃ b o ai ni ci,ad=some ⟨b,o,none⟩∧readAt w b (o+i) 1=some #[.slice ai ni ci]∧Bs w ai ni ci (L.getD i [])
theorem Ps.below{w w1:World}{ad:Option Addr}{n c:Nat}{L:List (List UInt8)}(h:Ps w ad n c L)(hb:Below w.heap.size w w1):Ps w1 ad n c L:=by
 obtain⟨h1,h2,h3,h4⟩:=h;refine⟨h1,h2,h3,fun i hi=>?_⟩;obtain⟨b,o,ai,ni,ci,e,hr,hbs⟩:=h4 i hi;exact⟨b,o,ai,ni,ci,e,by rw[ak hb (ac hr)];exact hr,hbs.below hb⟩
theorem Ps.at{w:World}{ad:Option Addr}{n c:Nat}{L:List (List UInt8)}(h:Ps w ad n c L)(i:Nat)(hi:i < n):
  ∃ b o ai ni ci,ad=some ⟨b,o,none⟩∧w.cell? ⟨b,o+i,none⟩=some (.slice ai ni ci)∧Bs w ai ni ci (L.getD i []):=by
 obtain⟨b,o,ai,ni,ci,e,hr,hbs⟩:=h.2.2.2 i hi;exact⟨b,o,ai,ni,ci,e,by have:=ab hr 0 _ rfl;simpa using this,hbs⟩
theorem eN{α:Type}(L:List (List α))(k:Nat)(h:k < L.length):(L.take (k+1)).flatten=(L.take k).flatten ++ L.getD k []:=by
 rw[iU L k [] h];simp
theorem BW(y:Nat)(hy:y < 4294967296):bits .xor .u32 IntKind.u32.max (y:Int)=((4294967295 - y:Nat):Int):=by
 have h:=u32_xor_nat 4294967295 y om hy;have e:4294967295 ^^^ y=4294967295 - y:=by
  apply Nat.eq_of_testBit_eq
  intro i;rw[show 4294967295=2 ^ 32 - 1 by rfl,Nat.testBit_xor,Nat.testBit_two_pow_sub_one,show 2 ^ 32 - 1 - y=2 ^ 32 - (y+1) by omega,Nat.testBit_two_pow_sub_succ hy]
  by_cases hi:i < 32
  ·simp[hi]
  ·have:y.testBit i=false:=Nat.testBit_lt_two_pow (Nat.lt_of_lt_of_le hy (by rw[show 4294967296=2 ^ 32 by rfl];exact Nat.pow_le_pow_right om om))
   simp[hi,this]
 rw[e] at h;exact h
theorem gn.ones(w:World)(t:TypeId):gn (w.alloc (.cells #[.int .u32 4294967295] t)) w.heap.size 4294967295:=gn.new w 4294967295 t
theorem Et(ad:Option Addr)(n c:Nat)(L:List (List UInt8))(w:World)(hL:Ps w ad n c L):
  Calls prog 204 #[.slice ad n c] w fun e w'=>e = .returned (.int .u32 (t7 L.flatten:Nat))∧Below w.heap.size w w':=by
 have hn:Hd (L.length=n):=hL.1;have hmx:n≤9223372036854775807:=by have:=hL.2.1;have:=hL.2.2.1;omega
 have HL:=SM hL;have hR:=SM (gn.ones w 326);have hB:=SM (ba (.cells #[.int .u32 4294967295] 326) (Sy w));clear hL
 go_in
 go_wp2_with fail
 generalize w.alloc (.cells #[.int .u32 4294967295] 326)=w0 at *
 go_loopw [10] (fun i wr=>∃ k:Nat,k≤n∧i = .int .i64 k∧gn wr w.heap.size (lu 4294967295 (L.take k).flatten)∧Below w.heap.size w wr) (fun i _=>n - (intOf i).toNat)
 case atStart=>exact⟨0,om,rfl,hR.o,hB.o⟩
 case round =>
  obtain⟨k,hk,rfl,hr,hb⟩:=hrel;have Hr:=SM hr;clear hr hR hB
  by_cases hlt:k < n
  ·obtain⟨b,o,ai,ni,ci,rfl,hcell,hbs⟩:=(HL.o.below hb).at k hlt;have hsn:=eN L k (by rw[hn.o];exact hlt)
   have hu:=pA 4294967295 (L.take k).flatten (L.getD k []);rw[← hsn] at hu;have Hu:=SM hu;clear hsn hu;have hy:lu 4294967295 (L.take k).flatten < 4294967296:=ye om;generalize lu 4294967295 (L.take k).flatten=y at *
   go_wp2_with fail
   refine (Kj w.heap.size ai ni ci (L.getD k []) y _ hy Hr.o hbs).mono ?_;rintro _ w2 ⟨rfl,ha⟩;have hr2:=SM (Hr.o.set ha);have hb2:=SM (ha.below hb (Nat.le_refl _) Hr.o);clear ha Hr hcell hbs
   go_wp2
   go_roundw
   case rel=>exact⟨k+1,om,by go_num,by rw[Hu.o];exact hr2.o,hb2.o⟩
   case measure=>simp[intOf];omega
  ·obtain rfl:k=n:=om;have hf:t7 L.flatten=4294967295 - lu 4294967295 (L.take k).flatten:=by rw[List.take_of_length_le (by rw[hn.o];exact Nat.le_refl _)];rfl
   have hcell:=Hr.o.cell;have hy:lu 4294967295 (L.take k).flatten < 4294967296:=ye om;have Hf:=SM hf;clear hf;generalize lu 4294967295 (L.take k).flatten=y at *;have hc1:=BW y hy
   go_wp2
   go_ret
   exact⟨by rw[Hf.o];rfl,hb⟩
end
section
open Go.RowKit
end
section
theorem info_parts{P:Program}{e:TypeId}{z:Value}{n b:Nat}(h:(P.info? e).map (fun i=>(i.zero,i.size,i.bytes))=some (some z,n,b)):∃ i,P.info? e=some i∧i.zero=some z∧i.size=n∧i.bytes=b:=by
 obtain⟨i,hi,h⟩:=Option.map_eq_some_iff.1 h;simp at h;exact⟨i,hi,h.1,h.2.1,h.2.2⟩
theorem fS:(prog.info? 5).map (fun i=>(i.zero,i.size,i.bytes))=some (some (.int .u8 0),1,1):=kr
theorem Bs.src{w:World}{ad:Option Addr}{n c:Nat}{l:List UInt8}(h:Bs w ad n c l):(ad=none∧n=0∧c=0∧l=[])∨∃ a,ad=some a∧∀ j u,(l.map B8)[j]? = some u→w.cell? (a.add j)=some u:=by
 obtain⟨h1,h2,h3,h4,h5⟩:=h;cases ad with
 | none =>
  have:=h4 rfl;exact .inl ⟨rfl,om,this,List.eq_nil_of_length_eq_zero om⟩
 | some a =>
  refine .inr ⟨a,rfl,fun j u hu=>?_⟩;have hj:j < l.length:=by
   have:=(List.getElem?_eq_some_iff.1 hu).1;simpa using this
  obtain⟨b,o,e,hr⟩:=h5 om;cases e;rw[Addr.add_lit];exact (cJ hr).1 j u (by simpa [bv] using hu)
theorem dZ(l:List UInt8):∀ u ∈ l.map B8,u.oneCell'=true:=by
 intro u hu;obtain⟨x,_,rfl⟩:=List.mem_map.1 hu;rfl
def ao(w:World)(base:Nat)(v:Value)(l:List UInt8):Prop:=w.ownsRow base 5 1 v l.length (l.map B8)
theorem ao.bs{w:World}{base:Nat}{v:Value}{l:List UInt8}(h:ao w base v l):∃ ad c,v = .slice ad l.length c∧Bs w ad l.length c l:=by
 by_cases h0:0 < l.length
 ·obtain⟨g,cap,hv,hb,hc,hm,hr,_⟩:=eP h h0;refine⟨_,cap,hv,rfl,hc,by simp only[maxLen] at hm;omega,fun h=>(by cases h),fun _=>⟨g,0,rfl,?_⟩⟩
  rw[Nat.mul_one] at hr;exact hr
 ·have hl:l=[]:=List.eq_nil_of_length_eq_zero om;subst hl
  rcases h.2 with ⟨rfl,_⟩ | ⟨g,cap,cur,rfl,_,_,hc,hm,_,_⟩
  ·exact⟨none,0,rfl,Bs.nil w⟩
  ·exact⟨_,cap,rfl,rfl,hc,by simp only[maxLen] at hm;simpa using hm,fun h=>(by cases h),fun h=>absurd h sm⟩
theorem ao.below{w w':World}{base:Nat}{v:Value}{l:List UInt8}(h:ao w base v l)(hb:Below w.heap.size w w'):ao w' base v l:=ah h hb
theorem fG{α:Type}(L:List (List α))(k:Nat):(L.take k).flatten.length≤L.flatten.length:=by
 have h:L.flatten=(L.take k).flatten ++ (L.drop k).flatten:=by rw[← List.flatten_append,List.take_append_drop]
 rw[h,List.length_append];omega
def dJ(v:Value):Prop:=v≠.slice none 0 0
theorem CK(L:List (List UInt8))(k:Nat)(h:k < L.length):(L.take (k+1)).flatten.length=(L.take k).flatten.length+(L.getD k []).length:=by
 rw[eN L k h,List.length_append]
theorem jL(ad:Option Addr)(n c:Nat)(L:List (List UInt8))(w:World)(hL:Ps w ad n c L)(hs:L.flatten.length≤1099511627776):
  Calls prog 141 #[.slice ad n c] w fun e w'=>(∃ v,e = .returned v∧dJ v∧ao w' w.heap.size v L.flatten)∧Below w.heap.size w w':=by
 obtain⟨i0,hi,hz,hsz,hby⟩:=info_parts fS;have hn:Hd (L.length=n):=hL.1;have hmx:n≤9223372036854775807:=by have:=hL.2.1;have:=hL.2.2.1;omega
 have HL:=SM hL;clear hL;obtain⟨w1,hmk,hown1,hgr1⟩:=run_make_own (P:=prog) w w.heap.size 39 5 i0 _ 1 underlying39 hi hz hsz   .i64 .i64 L.flatten.length (by rw[hby,Nat.one_mul];omega) (by simp only[maxLen];omega) (Nat.le_refl _)
 have hb1:Below w.heap.size w w1:=(Below.refl _ _).grown hgr1 (Nat.le_refl _) (fun _ h=>by cases h)
 have Hown1:Hd (ao w1 w.heap.size (.slice (some ⟨w.heap.size,0,none⟩) 0 L.flatten.length) (L.take 0).flatten):=hown1;clear hown1 hgr1;have hT:=fG L;have HT:=SM hT;clear hT;obtain⟨T,hT⟩:=eY L.flatten.length;rw[hT] at hs hmk Hown1 HT;have HTT:=SM hT;clear hT
 go_in
 go_wp2_with fail
 go_loop [3,11] (fun m i=>∃ k:Nat,k≤n∧i = .int .i64 k∧m = .int .i64 ((L.take k).flatten.length:Nat)) (fun _ i=>n - (intOf i).toNat)
 case atStart=>exact⟨0,om,rfl,rfl⟩
 case round =>
  obtain⟨k,hk,rfl,rfl⟩:=hrel
  by_cases hlt:k < n
  ·obtain⟨b,o,ai,ni,ci,rfl,hcell,hbs⟩:=HL.o.at k hlt;have hsn:=CK L k (by rw[hn.o];exact hlt)
   have hle:=HT.o (k+1);rw[hsn,hbs.1] at hle;have Hsn:Hd ((L.take (k+1)).flatten.length=(L.take k).flatten.length+ni):=by show _=_;rw[hsn,hbs.1]
   clear hsn hbs;generalize (L.take k).flatten.length=F at *
   go_wp2
   go_round
   case rel=>exact⟨k+1,om,by go_num,by rw[Hsn.o];go_num⟩
   case measure=>simp[intOf];omega
  ·obtain rfl:k=n:=om;have hf0:(L.take k).flatten.length=T:=by rw[List.take_of_length_le (by rw[hn.o];exact Nat.le_refl _),HTT.o]
   rw[hf0];clear hf0
   go_wp2
   go_loopw [6,24] (fun v i wr=>dJ v∧∃ k':Nat,k'≤k∧i = .int .i64 k'∧ao wr w.heap.size v (L.take k').flatten∧Below w.heap.size w wr) (fun _ i _=>k - (intOf i).toNat)
   case atStart=>exact⟨(by intro h;cases h),0,om,rfl,Hown1.o,hb1⟩
   case round =>
    obtain⟨hne,k',hk',rfl,hown,hb⟩:=hrel;have Hown:=SM hown;have Hne:=SM hne;clear hown hne
    by_cases hlt':k' < k
    ·obtain⟨b,o,ai,ni,ci,rfl,hcell,hbs⟩:=(HL.o.below hb).at k' hlt';have hsn:=eN L k' (by rw[hn.o];exact hlt')
     have hle:=HT.o (k'+1);rw[hsn,List.length_append] at hle;have hni:(L.getD k' []).length=ni:=hbs.1;have Hsn:=SM hsn;clear hsn;generalize (L.take k').flatten=F at *;generalize L.getD k' []=G at *
     rcases hbs.src with ⟨rfl,rfl,rfl,h0⟩ | ⟨a,rfl,hsrc⟩
     ·have hsame:(L.take (k'+1)).flatten=F:=by rw[Hsn.o,h0,List.append_nil]
      have Hs:=SM hsame;clear hsame h0 hni hbs hle
      go_wp2_with (at_builtin;refine wpList_append_own_none rfl _ _ 39 rfl w.heap.size 5 i0 1 underlying39 hi _ _ _ rfl Hown.o rfl ?_)
      go_roundw
      case rel=>exact⟨Hne.o,k'+1,om,by go_num,by rw[Hs.o];exact Hown.o,hb⟩
      case measure=>simp[intOf];omega
     ·have Hsrc:=SM hsrc;have Hni:=SM hni;clear hsrc hni hbs
      go_wp2_with (at_builtin;refine wpList_append_own _ rfl _ _ 39 rfl w.heap.size 5 i0 _ 1 1 underlying39 hi hz hsz hby rfl dc _ F.length _ rfl Hown.o a ni ci (G.map B8) rfl ?c1 Hsrc.o ?c3 ?c4 ?c5 ?c6 ?_)
      case c1=>rw[List.length_map,Hni.o];omega
      case c3=>exact dZ _
      case c4=>have:=Hni.o;simp only[maxLen];omega
      case c5=>have:=Hni.o;omega
      case c6=>exact hb.size
      intro v' w3 hown3 hgr hnil;have hne3:Hd (dJ v'):=by intro h;exact Hne.o (hnil.1 h).1
      have hb4:=SM (hb.grown hgr hb.size (fun b hbk=>(Hown.o.lt b hbk).1));have hown4:Hd (ao w3 w.heap.size v' (L.take (k'+1)).flatten):=by
       show ao _ _ _ _
       rw[Hsn.o];unfold ao;rw[List.length_append,List.map_append,Hni.o];exact hown3
      clear hown3 hgr Hown hnil Hne
      go_wp2
      go_roundw
      case rel=>exact⟨hne3.o,k'+1,om,by go_num,hown4.o,hb4.o⟩
      case measure=>simp[intOf];omega
    ·obtain rfl:k'=k:=om;have hf0:=Hown.o;rw[List.take_of_length_le (by rw[hn.o];exact Nat.le_refl _)] at hf0
     have hf:=SM hf0;clear hf0 Hown
     go_wp2
     go_ret
     exact⟨⟨_,rfl,Hne.o,hf.o⟩,hb⟩
end
section
theorem fA(a:Addr)(n c:Nat)(l:List UInt8)(w:World)(hl:Bs w (some a) n c l)(hs:n≤1099511627776):
  Calls prog 177 #[.slice (some a) n c] w fun e w'=>(∃ v,e = .returned v∧dJ v∧ao w' w.heap.size v l)∧Below w.heap.size w w':=by
 obtain⟨i0,hi,hz,hsz,hby⟩:=info_parts fS;have hown0:(w.alloc (.cells #[] 5)).ownsRow w.heap.size 5 1 (.slice (some ⟨w.heap.size,0,none⟩) 0 0) 0 [] :=
  World.ownsRow_made (size:=1) w #[] 0 (Nat.le_refl _) (by simp[maxLen]) sm
 have hbz:=dV (P:=prog) w 39 5 i0 underlying39 hi;have hb0:=ba (.cells #[] 5) (Sy w);have heq:=fun (w:World) (a:Addr) (n c:Nat)=>Lib.run_eql_slice_nil (P:=prog) w 39 5 (some a) n c 0 0 underlying39;obtain⟨a',ha',hsrc⟩ : ∃ a',some a=some a'∧∀ j u,(l.map B8)[j]? = some u→(w.alloc (.cells #[] 5)).cell? (a'.add j)=some u:=by
  rcases (hl.below hb0).src with ⟨h,_⟩ | h
  ·cases h
  ·exact h
 cases ha';have Hlen:=SM hl.1;have Hsrc:=SM hsrc;have Hown:=SM hown0;have Hb0:=SM hb0;clear hl hsrc hown0 hb0
 go_in
 go_wp2_with (at_builtin;refine wpList_append_own _ rfl _ _ 39 rfl w.heap.size 5 i0 _ 1 1 underlying39 hi hz hsz hby rfl dc _ 0 _ rfl Hown.o a n c (l.map B8) rfl ?c1 Hsrc.o ?c3 ?c4 ?c5 ?c6 ?_)
 case c1=>rw[List.length_map,Hlen.o];omega
 case c3=>exact dZ _
 case c4=>simp only[maxLen];omega
 case c5=>omega
 case c6=>exact Hb0.o.size
 intro v' w3 hown3 hgr hnil;have hne3:Hd (dJ v'):=hnil;have hb4:=SM (Hb0.o.grown hgr Hb0.o.size (fun b hbk=>(Hown.o.lt b hbk).1));have hown4:Hd (ao w3 w.heap.size v' l):=by
  show ao _ _ _ _
  unfold ao;rw[Hlen.o];exact hown3
 clear hown3 hgr Hown hnil
 go_wp2
 go_ret
 exact⟨⟨_,rfl,hne3.o,hown4.o⟩,hb4.o⟩
def Sf(w:World)(B:Nat)(l:List UInt8):Prop :=
 canAt w B 0 2=true∧∃ g o c,g≠B∧readAt w B 0 2=some #[.slice (some ⟨g,o,none⟩) l.length c,.bool false]∧Bs w (some ⟨g,o,none⟩) l.length c l
def fC(w:World)(B:Nat):Prop:=canAt w B 0 2=true∧readAt w B 0 2=some #[.slice none 0 0,.bool true]
structure cC (B:Nat) (w w':World):Prop where
 os:w'.os=w.os
 tape:w'.tape=w.tape
 output:w'.output=w.output
 size:w'.heap.size=w.heap.size
 block:∀ k,k≠B→w'.heap[k]? = w.heap[k]?
theorem cC.below{B base:Nat}{w0 w w':World}(h:cC B w w')(hb:Below base w0 w)(hB:base≤B):Below base w0 w' :=
 hb.trans ⟨h.os,h.tape,h.output,by rw[h.size];exact Nat.le_refl _,fun k hk=>h.block k om⟩
theorem cC.readAt{B:Nat}{w w':World}(h:cC B w w')(b o n:Nat)(hb:b≠B):readAt w' b o n=readAt w b o n:=by
 simp[Proofs.YtlcfaaodmickbaaGreatDoor.readAt,h.block b hb]
theorem cC.bs{B:Nat}{w w':World}(h:cC B w w'){g o n c:Nat}{l:List UInt8}(hg:g≠B)(hl:Bs w (some ⟨g,o,none⟩) n c l):Bs w' (some ⟨g,o,none⟩) n c l:=by
 obtain⟨h1,h2,h3,h4,h5⟩:=hl;refine⟨h1,h2,h3,h4,fun h0=>?_⟩;obtain⟨b,o',e,hr⟩:=h5 h0;cases e;exact⟨g,o,rfl,by rw[h.readAt _ _ _ hg];exact hr⟩
theorem cC.trans{B:Nat}{w w1 w2:World}(h:cC B w w1)(h2:cC B w1 w2):cC B w w2 :=
 ⟨h2.os.trans h.os,h2.tape.trans h.tape,h2.output.trans h.output,h2.size.trans h.size,fun k hk=>(h2.block k hk).trans (h.block k hk)⟩
theorem cC.setAt(w:World)(B o:Nat)(cs:Array Value):cC B w (setAt w B o cs):=by
 refine⟨?_,?_,?_,sm,fun k hk=>aw w B o cs k hk⟩ <;> (unfold Proofs.YtlcfaaodmickbaaGreatDoor.setAt;split <;> rfl)
theorem Sf.lt{w:World}{B:Nat}{l:List UInt8}(h:Sf w B l):B < w.heap.size:=bA h.1
theorem Sf.below{w w':World}{B:Nat}{l:List UInt8}(h:Sf w B l)(hb:Below w.heap.size w w'):Sf w' B l:=by
 have hlt:=h.lt;obtain⟨h1,g,o,c,h2,h3,h4⟩:=h;exact⟨by rw[ay hb hlt];exact h1,g,o,c,h2,by rw[ak hb hlt];exact h3,h4.below hb⟩
theorem C6(a:Addr)(n c:Nat)(l:List UInt8)(w:World)(hl:Bs w (some a) n c l)(hs:n≤1099511627776):
  Calls prog 124 #[.slice (some a) n c] w fun e w'=>(∃ B,w.heap.size≤B∧e = .returned (.pointer (some ⟨B,0,none⟩))∧Sf w' B l)∧Below w.heap.size w w':=by
 go_in
 go_wp2_with fail
 refine (fA a n c l _ hl hs).mono ?_;rintro _ w1 ⟨⟨v,rfl,hne,hown⟩,hb1⟩;obtain⟨ad,c1,rfl,hbs⟩:=hown.bs;have had:∃ g o,ad=some ⟨g,o,none⟩∧g < w1.heap.size:=by
  rcases hown.2 with ⟨h,_⟩ | ⟨g,cap,cur,hv,_,hg,_⟩
  ·exact absurd h hne
  ·simp only[Value.slice.injEq] at hv;exact⟨g,0,hv.1,(Array.getElem?_eq_some_iff.1 hg).1⟩
 obtain⟨g,o,rfl,hg⟩:=had;clear hne hown hl;have Hbs:=SM hbs;clear hbs
 go_wp2
 go_ret
 refine⟨⟨w1.heap.size,hb1.size,rfl,?_⟩,ba _ hb1⟩;exact⟨by simp[go_sem],g,o,c1,om,by simp[go_sem],Hbs.o.below (ba _ (Below.refl _ _))⟩
theorem Mk{w:World}{B:Nat}(v1 v2 x y:Value)(h:canAt w B 0 2=true)(hr:readAt w B 0 2=some #[v1,v2]):
  cC B w ((w.setCell ⟨B,1,none⟩ y).setCell ⟨B,0,none⟩ x)∧canAt ((w.setCell ⟨B,1,none⟩ y).setCell ⟨B,0,none⟩ x) B 0 2=true∧readAt ((w.setCell ⟨B,1,none⟩ y).setCell ⟨B,0,none⟩ x) B 0 2=some #[x,y]:=by
 have c1:=aC h 1 1 om;have c0:=aC h 0 1 om;rw[aK c1];have c0':canAt (setAt w B 1 #[y]) B 0 1=true:=by rw[ap _ _ _ _ _ _ _ (by exact c1)];exact c0
 have h':canAt (setAt w B 1 #[y]) B 0 2=true:=by rw[ap _ _ _ _ _ _ _ (by exact c1)];exact h
 rw[aK c0'];have r1:=ae w B 0 2 _ hr h 1 #[y] om sm;have r0:=ae _ B 0 2 _ r1 h' 0 #[x] om sm;refine⟨(cC.setAt _ _ _ _).trans (cC.setAt _ _ _ _),by rw[ap _ _ _ _ _ _ _ (by exact c0')];exact h',?_⟩
 rw[r0];simp[bK]
theorem qW{w:World}{B:Nat}(v1 v2 x:Value)(h:canAt w B 0 2=true)(hr:readAt w B 0 2=some #[v1,v2]):
  cC B w (w.setCell ⟨B,0,none⟩ x)∧canAt (w.setCell ⟨B,0,none⟩ x) B 0 2=true∧readAt (w.setCell ⟨B,0,none⟩ x) B 0 2=some #[x,v2]:=by
 have c0:=aC h 0 1 om;rw[aK c0];have r0:=ae w B 0 2 _ hr h 0 #[x] om sm;refine⟨cC.setAt _ _ _ _,by rw[ap _ _ _ _ _ _ _ (by exact c0)];exact h,?_⟩
 rw[r0];simp[bK]
theorem qp(B:Nat)(v1 v2:Value)(w:World)(hc:canAt w B 0 2=true)(hr:readAt w B 0 2=some #[v1,v2]):
  Calls prog 208 #[.pointer (some ⟨B,0,none⟩)] w fun e w'=>e = .returned (.tuple #[])∧fC w' B∧cC B w w':=by
 have f0:=bq hc 0;have f1:=bq hc 1;have g0:=ab hr 0 _ rfl;have g1:=ab hr 1 _ rfl;simp only[Nat.zero_add] at f0 f1 g0 g1;have h:=Mk v1 v2 (.slice none 0 0) (.bool true) hc hr;have H:=SM h;clear h hc hr
 go_in
 go_wp2
 go_end0
 exact⟨rfl,⟨H.o.2.1,H.o.2.2⟩,H.o.1⟩
def NX(B:Nat)(l:List UInt8)(n:Nat)(w:World)(e:Ending)(w':World):Prop :=
 ∃ g o,g≠B∧e = .returned (.tuple #[.slice (some ⟨g,o,none⟩) n n,.bool true])∧Bs w' (some ⟨g,o,none⟩) n n (l.take n)∧Sf w' B (l.drop n)∧cC B w w'
def rA(B:Nat)(w:World)(e:Ending)(w':World):Prop:=e = .returned (.tuple #[.slice none 0 0,.bool false])∧fC w' B∧cC B w w'
theorem C9(B:Nat)(l:List UInt8)(n:Nat)(w:World)(h:Sf w B l)(hn:n≤l.length):
  Calls prog 179 #[.pointer (some ⟨B,0,none⟩),.int .u64 n] w (NX B l n w):=by
 obtain⟨hc,g,o,c,hg,hr,hbs⟩:=h;have f0:=bq hc 0;have g0:=ab hr 0 _ rfl;have g1:=ab hr 1 _ rfl;simp only[Nat.zero_add] at f0 g0 g1;simp only[List.getElem_toArray,List.getElem_cons_zero,List.getElem_cons_succ] at g0 g1;have hlc:=hbs.2.1;have hmx:=hbs.2.2.1;have Hbs:=SM hbs;have Hcr:=SM (And.intro hc hr);clear hbs hc hr;generalize hN:l.length=N at *;have HN:=SM hN;clear hN;have d0:decide ((N:Int) < (n:Int))=false:=sO
 by_cases hcn:c=n
 ·obtain rfl:c=n:=hcn;obtain rfl:N=c:=om;have hset:=SM (qW _ _ (.slice (some ⟨g,o,none⟩) 0 0) Hcr.o.1 Hcr.o.2)
  go_in
  go_wp2
  go_ret2
  obtain⟨h1,h2,h3⟩:=hset.o;refine⟨g,o,hg,rfl,h1.bs hg (Hbs.o.take N N (Nat.le_refl _) (Nat.le_refl _) (Nat.le_refl _)),⟨h2,g,o,0,hg,?_,?_⟩,h1⟩
  ·rw[List.drop_of_length_le (by rw[HN.o];exact Nat.le_refl _)];exact h3
  ·rw[List.drop_of_length_le (by rw[HN.o];exact Nat.le_refl _)]
   exact⟨rfl,Nat.le_refl _,om,fun h=>(by cases h),fun h=>absurd h sm⟩
 ·have hset:=SM (qW _ _ (.slice (some ⟨g,o+n,none⟩) (N - n) (c - n)) Hcr.o.1 Hcr.o.2)
  go_in
  go_wp2
  go_ret2
  obtain⟨h1,h2,h3⟩:=hset.o;refine⟨g,o,hg,rfl,h1.bs hg (Hbs.o.take n n hn (Nat.le_refl _) om),⟨h2,g,o+n,c - n,hg,?_,?_⟩,h1⟩
  ·rw[List.length_drop,HN.o];exact h3
  ·rw[List.length_drop,HN.o];exact h1.bs hg (Hbs.o.drop n hn)
theorem vl(B:Nat)(l:List UInt8)(n:Int)(w:World)(h:Sf w B l)(hn:(l.length:Int) < n):
  Calls prog 179 #[.pointer (some ⟨B,0,none⟩),.int .u64 n] w (rA B w):=by
 obtain⟨hc,g,o,c,hg,hr,hbs⟩:=h;have g0:=ab hr 0 _ rfl;have g1:=ab hr 1 _ rfl;simp only[Nat.zero_add] at g0 g1;simp only[List.getElem_toArray,List.getElem_cons_zero,List.getElem_cons_succ] at g0 g1;have hlc:=hbs.2.1;have hmx:=hbs.2.2.1;have Hcr:=SM (And.intro hc hr);clear hbs hc hr;generalize l.length=N at *;have d0:decide ((N:Int) < n)=true:=sO
 go_in
 go_wp2_with fail
 refine (qp B _ _ _ Hcr.o.1 Hcr.o.2).mono ?_;rintro _ w1 ⟨rfl,hb,ho⟩
 go_wp2
 go_ret2
 exact⟨rfl,hb,ho⟩
theorem qG(B:Nat)(n:Int)(w:World)(h:fC w B):
  Calls prog 179 #[.pointer (some ⟨B,0,none⟩),.int .u64 n] w (rA B w):=by
 obtain⟨hc,hr⟩:=h;have g0:=ab hr 0 _ rfl;have g1:=ab hr 1 _ rfl;simp only[Nat.zero_add] at g0 g1;simp only[List.getElem_toArray,List.getElem_cons_zero,List.getElem_cons_succ] at g0 g1;have Hcr:=SM (And.intro hc hr);clear hc hr
 go_in
 go_wp2_with fail
 refine (qp B _ _ _ Hcr.o.1 Hcr.o.2).mono ?_;rintro _ w1 ⟨rfl,hb,ho⟩
 go_wp2
 go_ret2
 exact⟨rfl,hb,ho⟩
def nb(l:List UInt8):Nat:=l.foldl (fun x c=>x * 256+c.toNat) 0
theorem vj(l:List UInt8)(c:UInt8):nb (l ++ [c])=nb l * 256+c.toNat:=by simp[nb]
theorem nb_lt(l:List UInt8):nb l < 256 ^ l.length:=by
 suffices h:∀ (l:List UInt8) (x m:Nat),x < m→l.foldl (fun x c=>x * 256+c.toNat) x < m * 256 ^ l.length by
  have:=h l 0 1 om;rw[Nat.one_mul] at this;exact this
 intro l
 induction l with
 | nil=>intro x m h;simpa using h
 | cons c l ih =>
  intro x m h;have:=ih (x * 256+c.toNat) (m * 256) (by have:=c.toNat_lt;omega)
  rw[List.length_cons,Nat.pow_succ,Nat.mul_comm _ 256,← Nat.mul_assoc];exact this
theorem JS(x c:Nat)(hx:x < 72057594037927936)(hc:c < 256):bits .or .u64 ((x:Int) * 256) (c:Int)=((x * 256+c:Nat):Int):=by
 have e:((x:Int) * 256)=((x * 256:Nat):Int):=om;rw[e,u64_or_nat _ _ om om]
 congr 1
 have:=Nat.two_pow_add_eq_or_of_lt (i:=8) hc x;rw[Nat.mul_comm] at this;exact this.symm
def Qk(B:Nat)(l:List UInt8)(k:Nat)(w:World)(e:Ending)(w':World):Prop :=
 e = .returned (.tuple #[.int .u64 (nb (l.take k):Nat),.bool true])∧Sf w' B (l.drop k)∧cC B w w'
def NY(B:Nat)(w:World)(e:Ending)(w':World):Prop:=e = .returned (.tuple #[.int .u64 0,.bool false])∧fC w' B∧cC B w w'
theorem De(B:Nat)(l:List UInt8)(k:Nat)(w:World)(h:Sf w B l)(hk1:1≤k)(hk8:k≤8)(hk:k≤l.length):
  Calls prog 178 #[.pointer (some ⟨B,0,none⟩),.int .i64 k] w (Qk B l k w):=by
 have d1:decide ((k:Int) < 1)=false:=sO;have d2:decide ((8:Int) < (k:Int))=false:=sO;have d3:decide ((1:Int)≤(k:Int))=true:=sO;have H:=SM h;clear h
 go_in
 go_wp2_with fail
 refine (C9 B l k _ H.o hk).mono ?_;rintro _ w1 ⟨g,o,hg,rfl,hbs,hrd,ho⟩;have hlen:(l.take k).length=k:=hbs.1;have Hlen:=SM hlen;have Hbs:=SM hbs;have hfin:Hd (Sf w1 B (l.drop k)∧cC B w w1):=⟨hrd,ho⟩;clear hlen hbs hrd ho H;obtain⟨m,hm⟩:=eY (l.take k);rw[hm] at Hlen Hbs;have Hm:=SM hm;clear hm
 go_wp2_with fail
 go_loop [8,30] (fun x i=>∃ j:Nat,j≤k∧i = .int .i64 j∧x = .int .u64 (nb (m.take j):Nat)) (fun _ i=>k - (intOf i).toNat)
 case atStart=>exact⟨0,om,rfl,rfl⟩
 case round =>
  obtain⟨j,hj,rfl,rfl⟩:=hrel
  by_cases hlt:j < k
  ·obtain⟨b,o',e,hcell⟩:=Hbs.o.at j hlt;simp only[Option.some.injEq,Addr.mk.injEq,and_true] at e;obtain⟨rfl,rfl⟩:=e;have hsn:=iU m j 0 (by rw[Hlen.o];exact hlt)
   have hu:=vj (m.take j) (m.getD j 0);rw[← hsn] at hu;have Hu:=SM hu;have hx:nb (m.take j) < 72057594037927936:=by
    have h1:=nb_lt (m.take j);have h2:(256:Nat) ^ (m.take j).length≤256 ^ 7:=Nat.pow_le_pow_right om (by rw[List.length_take];omega)
    have h3:(256:Nat) ^ 7=72057594037927936:=dc;omega
   have hc:=toNat_lt (m.getD j 0);have hso:=JS (nb (m.take j)) (m.getD j 0).toNat hx hc;clear hsn hu;generalize nb (m.take j)=y at *;generalize (m.getD j 0).toNat=z at *
   go_wp2
   go_round
   case rel=>exact⟨j+1,om,by go_num,by rw[Hu.o];go_num⟩
   case measure=>simp[intOf];omega
  ·obtain rfl:j=k:=om;have hf:nb (m.take j)=nb (l.take j):=by rw[List.take_of_length_le (by rw[Hlen.o];exact Nat.le_refl _),Hm.o]
   rw[hf];clear hf
   go_wp2
   go_ret2
   exact⟨rfl,hfin.o.1,hfin.o.2⟩
theorem sL(B:Nat)(k:Nat)(w:World)(h:fC w B∨∃ l,Sf w B l∧l.length < k)(hk1:1≤k)(hk8:k≤8):
  Calls prog 178 #[.pointer (some ⟨B,0,none⟩),.int .i64 k] w (NY B w):=by
 have d1:decide ((k:Int) < 1)=false:=sO;have d2:decide ((8:Int) < (k:Int))=false:=sO;have d3:decide ((1:Int)≤(k:Int))=true:=sO;have hnx:Calls prog 179 #[.pointer (some ⟨B,0,none⟩),.int .u64 k] w (rA B w):=by
  rcases h with h | ⟨l,h,hl⟩
  ·exact qG B k w h
  ·exact vl B l k w h om
 have Hnx:=SM hnx;clear h hnx
 go_in
 go_wp2_with fail
 refine Hnx.o.mono ?_;rintro _ w1 ⟨rfl,hb,ho⟩
 go_wp2
 go_ret2
 exact⟨rfl,hb,ho⟩
theorem gz(B:Nat)(l:List UInt8)(k:Nat)(w:World)(h:Sf w B l)(hk1:1≤k)(hk8:k≤8)(hk:k≤l.length):
  Calls prog 126 #[.pointer (some ⟨B,0,none⟩),.int .i64 k] w fun e w'=>e = .returned (.int .u64 (nb (l.take k):Nat))∧Sf w' B (l.drop k)∧cC B w w':=by
 have H:=SM h;clear h
 go_in
 go_wp2_with fail
 refine (De B l k _ H.o hk1 hk8 hk).mono ?_;rintro _ w1 ⟨rfl,hb,ho⟩
 go_wp2
 go_ret
 exact⟨rfl,hb,ho⟩
theorem rB(B:Nat)(k:Nat)(w:World)(h:fC w B∨∃ l,Sf w B l∧l.length < k)(hk1:1≤k)(hk8:k≤8):
  Calls prog 126 #[.pointer (some ⟨B,0,none⟩),.int .i64 k] w fun e w'=>e = .returned (.int .u64 0)∧fC w' B∧cC B w w':=by
 have H:=SM h;clear h
 go_in
 go_wp2_with fail
 refine (sL B k _ H.o hk1 hk8).mono ?_;rintro _ w1 ⟨rfl,hb,ho⟩
 go_wp2
 go_ret
 exact⟨rfl,hb,ho⟩
end
section
def xc(k j x:Nat):List UInt8:=(List.range k).map fun p=>if k≤p+j then UInt8.ofNat (x / 256 ^ (k - 1 - p)) else 0
def be(k x:Nat):List UInt8:=(List.range k).map fun p=>UInt8.ofNat (x / 256 ^ (k - 1 - p))
@[simp] theorem aL(k x:Nat):(be k x).length=k:=by simp[be]
@[simp] theorem Ko(k j x:Nat):(xc k j x).length=k:=by simp[xc]
theorem Fs(k x:Nat):xc k k x=be k x:=by
 unfold xc be
 apply List.map_congr_left
 intro p hp;rw[if_pos om]
theorem Bu(k x:Nat):xc k 0 x=List.replicate k 0:=by
 apply List.ext_getElem
 ·simp
 ·intro i h1 h2;simp[xc] at h1 ⊢;intro h;omega
theorem Bt(k j x:Nat)(h:j < k):(xc k j x).set (k - 1 - j) (UInt8.ofNat (x / 256 ^ j))=xc k (j+1) x:=by
 apply List.ext_getElem
 ·simp
 ·intro i h1 h2;simp at h1 h2
  by_cases hi:i=k - 1 - j
  ·subst hi;simp[xc];rw[if_pos om]
   congr 3;omega
  ·rw[List.getElem_set_ne om];simp[xc]
   by_cases h3:k≤i+j
   ·rw[if_pos h3,if_pos om]
   ·rw[if_neg h3,if_neg om]
theorem Jd(l:List UInt8)(i:Nat)(hi:i < l.length)(c:UInt8):bK (bv l) i #[B8 c]=bv (l.set i c):=by
 apply Array.ext_getElem?
 intro p;rw[bU _ _ _ sO]
 by_cases h2:p=i
 ·subst h2;rw[if_pos sm];simp[bv,hi]
 ·rw[if_neg sO];simp[bv,List.getElem?_set,show ¬ i=p by omega]
theorem ii(k x:Nat)(w:World)(hk1:1≤k)(hk8:k≤8)(hx:x < 256 ^ k)(hx64:x < 18446744073709551616):
  Calls prog 143 #[.int .i64 k,.int .u64 x] w fun e w'=>(∃ B,w.heap.size≤B∧e = .returned (.tuple #[.slice (some ⟨B,0,none⟩) k k,.bool true])∧Bs w' (some ⟨B,0,none⟩) k k (be k x))∧Below w.heap.size w w':=by
 obtain⟨i0,hi,hz,hsz,hby⟩:=info_parts fS;have d1:decide ((k:Int) < 1)=false:=sO;have d2:decide ((8:Int) < (k:Int))=false:=sO;have d3:decide ((1:Int)≤(k:Int))=true:=sO;have hmk:=run_make (P:=prog) w 39 5 i0 _ underlying39 hi hz .i64 .i64 k k om (Int.le_refl _) (by rw[hby];omega) om
 simp only[Int.toNat_natCast,Value.cells] at hmk;rw[hsz,Nat.mul_one] at hmk;have hmc:madeCells #[Value.int .u8 0] k=bv (xc k 0 x):=by
  rw[Bu]
  apply Array.ext'
  rw[toList_madeCells_one];simp[bv,B8]
 rw[hmc] at hmk;have hnz:((x:Int) / 2 ^ (8 * k) != 0)=false:=by
  have e:x / 2 ^ (8 * k)=0:=Nat.div_eq_of_lt (by rw[Nat.pow_mul];exact hx)
  have e2:(x:Int) / 2 ^ (8 * k)=((x / 2 ^ (8 * k):Nat):Int):=by push_cast;rfl
  rw[e2,e];rfl
 have hx2:x / 256 ^ 0=x:=sm;clear hmc;have d4:decide ((k:Int) < 8)=true∨decide ((k:Int) < 8)=false:=by cases decide ((k:Int) < 8) <;> simp
 rcases d4 with d4 | d4
 all_goals
  go_in
  go_wp2
  go_loopw [1,7] (fun y i wr=>∃ (j:Nat) (q:Int),Hd (q+1+(j:Int)=k)∧-1≤q∧i = .int .i64 q∧y = .int .u64 (x / 256 ^ j:Nat)∧readAt wr w.heap.size 0 k=some (bv (xc k j x))∧canAt wr w.heap.size 0 k=true∧Below w.heap.size w wr) (fun _ i _=>(intOf i+1).toNat)
  case atStart=>exact⟨0,(k:Int) - 1,by show _=_;omega,om,rfl,by rw[hx2],by simp[go_sem],by simp[go_sem],ba _ (Below.refl _ _)⟩
  case round =>
   obtain⟨j,q,hq,hq1,rfl,rfl,hr,hc,hb⟩:=hrel
   by_cases hlt:0≤q
   ·obtain⟨p,rfl⟩ : ∃ p:Nat,q=p:=⟨q.toNat,om⟩;have hjk:j < k:=by have:=hq.o;omega
    have hpk:p < k:=by have:=hq.o;omega
    have hpj:p=k - 1 - j:=by have:=hq.o;omega
    have hfr:=bq hc p;have hold:=ab hr p (B8 ((xc k j x).getD p 0)) (by simp[bv,hpk])
    rw[Nat.zero_add] at hfr hold;have Hr:=SM hr;have Hc:=SM hc;have Hpj:=SM hpj;have hB:B8 (UInt8.ofNat (x / 256 ^ j)) = .int .u8 (((x / 256 ^ j:Nat):Int) % 256):=by
     simp only[B8,Value.int.injEq,true_and,UInt8.toNat_ofNat'];omega
    have HB:=SM hB;have hyx:x / 256 ^ j < 18446744073709551616:=Nat.lt_of_le_of_lt (Nat.div_le_self _ _) hx64;have hdd:x / 256 ^ (j+1)=x / 256 ^ j / 256:=by rw[Nat.pow_succ,Nat.div_div_eq_div_mul]
    have Hdd:=SM hdd;clear hr hc hpj hB hdd hx2;generalize B8 ((xc k j x).getD p 0)=old at *;generalize hY:x / 256 ^ j=Y at *;have HY:=SM hY;clear hY
    go_wp2
    go_roundw
    case rel =>
     refine⟨j+1,(p:Int) - 1,by have:=hq.o;show _=_;omega,om,rfl,by rw[Hdd.o];rfl,?_⟩
     have hcan1:=aC Hc.o p 1 om;rw[aK hcan1,← HB.o];refine⟨?_,?_,aa hb (Nat.le_refl _) _ _⟩
     ·rw[ae _ _ 0 k _ Hr.o Hc.o p _ om sO,Nat.sub_zero,Jd _ _ (by simpa using hpk),Hpj.o,← HY.o]
      exact congrArg (fun l=>some (bv l)) (Bt k j x hjk)
     ·rw[ap _ _ _ _ _ _ _ (by simpa using hcan1)];exact Hc.o
    case measure=>simp[intOf]
   ·obtain rfl:q = -1:=om;have hjk:j=k:=by have:=hq.o;omega
    have hfin:Hd (Bs wr (some ⟨w.heap.size,0,none⟩) k k (be k x)):=by
     subst hjk;rw[Fs] at hr;exact⟨aL _ _,Nat.le_refl _,om,fun h=>(by cases h),fun _=>⟨_,0,rfl,hr⟩⟩
    clear hr hc hjk hq
    go_wp2
    go_ret2
    exact⟨⟨_,Nat.le_refl _,rfl,hfin.o⟩,hb⟩
end
section
structure Wb (w:World) (b:Nat) (l:List UInt8):Prop where
 r:readAt w b 0 l.length=some (bv l)
 k:canAt w b 0 l.length=true
section
variable {w u:World} {b:Nat} {l:List UInt8}
theorem Wb.lt(h:Wb w b l):b < w.heap.size:=ac h.r
theorem Wb.same(h:Wb w b l)(hb:u.heap[b]? = w.heap[b]?):Wb u b l:=⟨by rw[← h.r];simp[readAt,hb],by rw[← h.k];simp[canAt,hb]⟩
theorem Wb.below(h:Wb w b l)(hb:Below w.heap.size w u):Wb u b l:=h.same (hb.block b h.lt)
theorem Wb.cell(h:Wb w b l)(i:Nat)(hi:i < l.length):w.cell? ⟨b,i,none⟩=some (B8 l[i]):=by
 have:=ab h.r i (B8 l[i]) (by simp[bv,hi])
 simpa using this
theorem Wb.free(h:Wb w b l)(i:Nat):w.frozen? ⟨b,i,none⟩=false:=by
 have:=bq h.k i
 simpa using this
theorem Wb.set(h:Wb w b l)(i:Nat)(hi:i < l.length)(a:UInt8):Wb (w.setCell ⟨b,i,none⟩ (B8 a)) b (l.set i a):=by
 rw[aK (aC h.k i 1 om)];refine⟨?_,?_⟩
 ·rw[List.length_set,ae w b 0 l.length _ h.r h.k i _ om sO,Nat.sub_zero,Jd l i hi]
 ·rw[List.length_set,ap _ _ _ _ _ _ _ (aC h.k i _ sO)];exact h.k
theorem Wb.other(h:Wb w b l)(p:Addr)(v:Value)(hp:p.block≠b):Wb (w.setCell p v) b l:=h.same (Below.heap_setCell _ _ _ _ (fun e=>hp e.symm))
theorem Wb.made(w:World)(t:TypeId)(l:List UInt8)(h0:0 < l.length):Wb (w.alloc (.cells (bv l) t)) w.heap.size l :=
 ⟨by rw[aj _ _ _ _ _ _ _ rfl sm];simp,aq _ _ _ _ _ _ rfl sm⟩
theorem Wb.bs(h:Wb w b l)(hm:l.length≤9223372036854775807):Bs w (some ⟨b,0,none⟩) l.length l.length l :=
 ⟨rfl,Nat.le_refl _,hm,fun e=>(by cases e),fun _=>⟨b,0,rfl,h.r⟩⟩
end
def iM(n j:Nat):List UInt8:=128 :: (List.replicate (fc n+8 - j) 0 ++ Sv j (8 * n))
theorem fu(k x:Nat):(Sv k x).length=k:=by
 induction k generalizing x with
 | zero=>rfl
 | succ k ih=>simp[Sv,ih]
theorem xb(k x:Nat):Sv (k+1) x=UInt8.ofNat (x / 256 ^ k) :: Sv k x:=by
 induction k generalizing x with
 | zero=>simp[Sv]
 | succ k ih =>
  rw[Sv,ih (x / 256),Nat.div_div_eq_div_mul]
  show _=_ :: (Sv k (x / 256) ++ _)
  rw[List.cons_append,Nat.pow_succ,Nat.mul_comm 256]
theorem sN(n j:Nat)(hj:j≤8):(iM n j).length=fc n+9:=by simp[iM,fu];omega
theorem sP(n j:Nat)(hj:j < 8):(iM n j).set (fc n+8 - j) (UInt8.ofNat (8 * n / 256 ^ j))=iM n (j+1):=by
 unfold iM;obtain⟨m,hm⟩ : ∃ m,fc n+8 - j=m+1:=⟨fc n+8 - j - 1,om⟩;rw[hm,show fc n+8 - (j+1)=m by omega,xb,List.set_cons_succ]
 congr 1
 rw[List.replicate_succ',List.append_assoc,List.set_append,if_neg sm,List.length_replicate,Nat.sub_self]
 rfl
theorem Do(n j:Nat)(hj:j≤8)(h:8 * n / 256 ^ j=0):iM n j=cW n:=by
 have hg:∀ k,iM n (j+k)=iM n j∨8 < j+k:=by
  intro k
  induction k with
  | zero=>exact .inl rfl
  | succ k ih =>
   rcases ih with ih | ih
   ·by_cases h8:j+k < 8
    ·left
     have e0:8 * n / 256 ^ (j+k)=0:=by rw[Nat.pow_add,← Nat.div_div_eq_div_mul,h,Nat.zero_div]
     rw[← ih,show j+(k+1)=j+k+1 by omega,← sP n (j+k) h8,e0]
     unfold iM;obtain⟨m,hm⟩ : ∃ m,fc n+8 - (j+k)=m+1:=⟨fc n+8 - (j+k) - 1,om⟩;rw[hm,List.set_cons_succ,List.set_append,if_pos sm]
     congr 2
     apply List.ext_getElem sm
     intro i h1 h2;simp[List.getElem_set]
    ·right;omega
   ·right;omega
 rcases hg (8 - j) with h1 | h1
 ·rw[← h1,show j+(8 - j)=8 by omega];simp[iM,cW]
 ·omega
theorem iE{k:IntKind}{a b:Int}(h:a=b):Value.int k a = .int k b:=by rw[h]
theorem zD(n:Nat):((List.replicate (fc n+9) (0:UInt8)).set 0 128)=iM n 0:=by
 rw[show fc n+9=fc n+8+1 by omega,List.replicate_succ,List.set_cons_zero];simp[iM,Sv]
theorem xd(m:Nat):madeCells #[Value.int .u8 0] m=bv (List.replicate m 0):=by
 apply Array.ext'
 rw[toList_madeCells_one];simp[bv,B8]
theorem Lo(n:Nat)(w:World)(hn:n < 1099511627776):
  Calls prog 148 #[.int .i64 n] w fun e w'=>(∃ B,w.heap.size≤B∧e = .returned (.slice (some ⟨B,0,none⟩) (cW n).length (cW n).length)∧Wb w' B (cW n))∧Below w.heap.size w w':=by
 obtain⟨i0,hi,hz,hsz,hby⟩:=info_parts fS;have d1:decide ((n:Int) < 0)=false:=sm;have hz1:fc n < 64:=by unfold fc;omega
 have e1:IntKind.i64.wrap ((119:Int) - (n:Int) % 64)=119 - (n:Int) % 64:=wi;have e2:(119 - (n:Int) % 64) % 64=((fc n:Nat):Int):=by unfold fc;omega
 have e3:IntKind.i64.wrap (1+((fc n:Nat):Int))=((fc n+1:Nat):Int):=wi;have e4:IntKind.i64.wrap (((fc n+1:Nat):Int)+8)=((fc n+9:Nat):Int):=wi;have e5:IntKind.u64.wrap (8 * (n:Int))=((8 * n:Nat):Int):=wu;have e6:IntKind.u64.wrap (n:Int)=(n:Int):=wu;have e7:IntKind.i64.wrap (((fc n+9:Nat):Int) - 1)=((fc n+8:Nat):Int):=wi;have hmk:=run_make (P:=prog) w 39 5 i0 _ underlying39 hi hz .i64 .i64 ((fc n+9:Nat):Int) ((fc n+9:Nat):Int) om (Int.le_refl _) (by rw[hby];omega) om
 simp only[Int.toNat_natCast,Value.cells] at hmk;rw[hsz,Nat.mul_one,xd,show ((fc n+9:Nat):Int)=(fc n:Int)+1+8 by omega] at hmk
 have hlen:(cW n).length=fc n+9:=by simp[cW,fu]
 have hx64:8 * n < 18446744073709551616:=om;have Hend:Hd (∀ j,j≤8→8 * n / 256 ^ j=0→iM n j=cW n):=fun j hj h=>Do n j hj h;have Hset:Hd (∀ j,j < 8→(iM n j).set (fc n+8 - j) (UInt8.ofNat (8 * n / 256 ^ j))=iM n (j+1)):=fun j hj=>sP n j hj;have Hlen:Hd (∀ j,j≤8→(iM n j).length=fc n+9):=fun j hj=>sN n j hj;have H0:=SM (zD n);have Hlp:=SM hlen;clear hlen;generalize hpz:fc n=z at *;generalize hpp:cW n=P at *
 generalize hps:iM n=f at *;clear hpz hpp hps
 go_in
 go_upto_region 5 with fail
 clear hmk;have hw:=Wb.made w 5 (List.replicate (z+9) 0) sm;have hb:Below w.heap.size w (w.alloc (.cells (bv (List.replicate (z+9) 0)) 5)):=ba _ (Below.refl _ _);generalize w.alloc (.cells (bv (List.replicate (z+9) 0)) 5)=w1 at *;have q1:=hw.cell 0 sm;have q2:=hw.free 0;have hs:=hw.set 0 sm 128;rw[H0.o] at hs;have hb1:Below w.heap.size w (w1.setCell ⟨w.heap.size,0,none⟩ (B8 128)):=hb.setCell (p:=⟨w.heap.size,0,none⟩) (Nat.le_refl _) _
 have Hs:=SM hs;have Hb:=SM hb1;clear hw hb hs hb1
 go_upto_region 6 with fail
 have hB:(Value.int .u8 128)=B8 128:=rfl;rw[hB];generalize w1.setCell ⟨w.heap.size,0,none⟩ (B8 128)=w2 at *;clear q1 q2 hB
 go_wp2
 go_loopw [5,6] (fun y i wr=>∃ (j q:Nat),Hd (q+j=z+8)∧j≤8∧i = .int .i64 q∧y = .int .u64 (8 * n / 256 ^ j:Nat)∧Wb wr w.heap.size (f j)∧Below w.heap.size w wr) (fun _ i _=>(intOf i+1).toNat)
 case atStart=>exact⟨0,z+8,rfl,om,iE om,sm,Hs.o,Hb.o⟩
 case round =>
  obtain⟨j,q,hq,hj,rfl,rfl,hr,hb⟩:=hrel;have Hr:=SM hr;have Hb:=SM hb;clear hr hb;have hll:=Hlen.o j hj;have hdd:8 * n / 256 ^ (j+1)=8 * n / 256 ^ j / 256:=by rw[Nat.pow_succ,Nat.div_div_eq_div_mul]
  have Hdd:=SM hdd;clear hdd;have h8:8 * n / 256 ^ 8=0:=Nat.div_eq_of_lt om;have hlt8:0 < 8 * n / 256 ^ j→j < 8:=fun h=>by
   rcases Nat.lt_or_ge j 8 with h1 | h1
   ·exact h1
   ·have:j=8:=om;subst this;omega
  have hyx:8 * n / 256 ^ j < 18446744073709551616:=Nat.lt_of_le_of_lt (Nat.div_le_self _ _) hx64;have hfin:=Hend.o j hj;have hset:=Hset.o j;generalize hY:8 * n / 256 ^ j=Y at *
  by_cases hlt:0 < Y
  ·have hj8:=hlt8 hlt;have hq1:q < z+9:=by have:=hq.o;omega
   have hqz:q=z+8 - j:=by have:=hq.o;omega
   have q1:=Hr.o.cell q om;have q2:=Hr.o.free q;have hst:=Hr.o.set q om (UInt8.ofNat Y);rw[hqz,hset hj8,← hqz] at hst;have HB:Hd (B8 (UInt8.ofNat Y) = .int .u8 ((Y:Int) % 256)):=by
    show _=_
    simp only[B8,Value.int.injEq,true_and,UInt8.toNat_ofNat'];omega
   rw[HB.o] at hst;have Hst:=SM hst;have hd:decide ((0:Int) < (Y:Int))=true:=dt;have Hjq:=SM hq.o;have Hbs:Hd (Below w.heap.size w (wr.setCell ⟨w.heap.size,q,none⟩ (.int .u8 ((Y:Int) % 256)))):=Hb.o.setCell (p:=⟨w.heap.size,q,none⟩) (Nat.le_refl _) _;clear hst hset hfin hlt8 h8;generalize B8 ((f j)[q]'om)=old at *;clear hqz hll
   go_wp2
   go_roundw
   case rel=>exact⟨j+1,q - 1,by have:=Hjq.o;show _=_;omega,om,(by have:=Hjq.o;exact iE om),by rw[Hdd.o];exact iE om,Hst.o,Hbs.o⟩
   case measure=>simp[intOf]
  ·have hY0:Y=0:=om;subst hY0;have HP:=SM (hfin rfl);have hd:decide ((0:Int) < ((0:Nat):Int))=false:=rfl;clear hset hfin hlt8 h8 hll
   go_wp2
   go_ret
   have hL:=Hlp.o;refine⟨⟨_,Nat.le_refl _,by rw[hL];rfl,?_⟩,Hb.o⟩
   rw[← HP.o];exact Hr.o
end
section
theorem KP:(#[.int .u32 1779033703,.int .u32 3144134277,.int .u32 1013904242,.int .u32 2773480762,.int .u32 1359893119,.int .u32 2600822924,.int .u32 528734635,.int .u32 1541459225] : Array Value)=fw W4 ou:=kr
@[go_sem ↓] theorem E7(w:World)(b o:Nat)(h:canAt w b o 8=true):
  (uz (.pointer (some ⟨b,o,none⟩)) (.agg #[.int .u32 1779033703,.int .u32 3144134277,.int .u32 1013904242,.int .u32 2773480762,.int .u32 1359893119,.int .u32 2600822924,.int .u32 528734635,.int .u32 1541459225])).run prog w = .ok () (setAt w b o (fw W4 ou)):=by
 rw[KP];exact vL w b o ou h
theorem tD(w:World):Calls prog 145 #[] w fun e w'=>e = .returned (.agg (fw W4 ou))∧Below w.heap.size w w':=by
 go_in
 go_upto_region 1 with fail
 have hr:=Row.made (f:=W4) w 248 Tt;have hb:=ba (.cells (fw W4 Tt) 248) (Sy w);generalize w.alloc (.cells (fw W4 Tt) 248)=w1 at *;have hk:=hr.k
 go_wp2
 refine bodyPost_ret (i8 rfl _ _ w.heap.size 0 (fw W4 ou) rfl (hr.all ou).r) rfl ⟨rfl,aa hb (Nat.le_refl _) _ _⟩
def y6(s:W8)(k:Nat):RU:=Vector.ofFn fun i=>if i.val < k then Ln s i.val else 0
theorem rT(s:W8):y6 s 0=bO:=by
 apply Vector.ext;intro i hi;simp[y6,bO]
theorem xj(s:W8):y6 s 32=pr s:=by
 apply Vector.ext;intro i hi;simp[y6,pr,hi]
theorem rS(s:W8)(k:Nat)(hk:k < 32):(y6 s k).set k (Ln s k)=y6 s (k+1):=by
 apply Vector.ext;intro i hi
 by_cases e:i=k
 ·subst e;simp[y6]
 ·rw[Vector.getElem_set_ne _ _ (Ne.symm e)];simp only[y6,Vector.getElem_ofFn]
  by_cases h1:i < k
  ·rw[if_pos h1,if_pos om]
  ·rw[if_neg h1,if_neg om]
theorem Dk(s:W8)(i j:Nat)(hi:i < 8)(hj:j < 4):Ln s (4 * i+j)=(s[i] >>> UInt32.ofNat (24 - 8 * j)).toUInt8:=by
 unfold Ln;rw[show (4 * i+j) / 4=i by omega,show (4 * i+j) % 4=j by omega]
 simp[Array.getD,hi]
theorem tC(L:List (List UInt8)):d9 L.flatten=pr (cV (cV ke L.flatten) (cW L.flatten.length)).st:=by
 rw[← fl];rfl
theorem KM(w2:World)(h0:0 < w2.heap.size):FM ((((w2.alloc (.cells (fw W4 ou) 248)).alloc (.cells (av cB) 201)).alloc (.cells #[.int .i64 0] 3)).alloc (.cells #[.int .i64 0] 3)) (w2.heap.size+1+1+1) (w2.heap.size+1) (w2.heap.size+1+1) w2.heap.size ke 0:=by
 have b1:=ba (.cells #[.int .i64 0] 3) (ba (.cells #[.int .i64 0] 3) (Below.refl _ ((w2.alloc (.cells (fw W4 ou) 248)).alloc (.cells (av cB) 201))));have b2:=ba (.cells (av cB) 201) (Below.refl _ (w2.alloc (.cells (fw W4 ou) 248)));have hS:=Row.made (f:=W4) w2 248 ou;have hB:=Row.made (f:=B8) (w2.alloc (.cells (fw W4 ou) 248)) 201 cB;refine⟨by simp[go_sem],by simp[go_sem],by simp[go_sem,ke],by simp[go_sem],?_,(hS.below b2).below b1,by simp[ke],by refine⟨?_,?_,?_,?_,?_,?_,?_,?_,?_,?_⟩ <;> omega,by simp[go_sem]⟩
 have h:=hB.below b1;have e:(w2.alloc (.cells (fw W4 ou) 248)).heap.size=w2.heap.size+1:=sm;rw[e] at h;exact h
theorem Ps.atW{w u:World}{ad:Option Addr}{n c:Nat}{L:List (List UInt8)}(h:Ps w ad n c L)(hb:Below w.heap.size w u)(hne:∀ l ∈ L,0 < l.length)(i:Nat)(hi:i < n):
  ∃ b o ai ni ci,ad=some ⟨b,o,none⟩∧u.cell? ⟨b,o+i,none⟩=some (.slice ai ni ci)∧Bs u ai ni ci (L.getD i [])∧0 < ni∧∀ g,(Value.slice ai ni ci).ownBlock=some g→g < w.heap.size:=by
 obtain⟨b,o,ai,ni,ci,h1,h2,h3⟩:=h.at i hi;obtain⟨b',o',ai',ni',ci',h1',h2',h3'⟩:=(h.below hb).at i hi;rw[h1] at h1';cases h1';have hl:b < w.heap.size:=by
  rcases Nat.lt_or_ge b w.heap.size with h | h
  ·exact h
  ·simp[World.cell?,h] at h2
 rw[hb.cell (p:=⟨b,o+i,none⟩) hl,h2] at h2';cases h2';have hpos:0 < ni:=by
  rw[← h3.1];have hil:i < L.length:=by rw[h.1];exact hi
  simpa [List.getD,hil] using hne L[i] (List.getElem_mem hil)
 refine⟨b,o,ai,ni,ci,h1,by rw[hb.cell (p:=⟨b,o+i,none⟩) hl];exact h2,h3',hpos,fun g hg=>?_⟩
 obtain⟨bb,oo,rfl,hr⟩:=h3.2.2.2.2 hpos;cases hg;exact ac hr
theorem pu(ad:Option Addr)(n c:Nat)(L:List (List UInt8))(w:World)(hg:GK w)(hL:Ps w ad n c L)(hne:∀ l ∈ L,0 < l.length)(ht:L.flatten.length < 1000000000000):
  Calls prog 93 #[.slice ad n c] w fun e w'=>e = .returned (.agg (fw B8 (d9 L.flatten)))∧Below w.heap.size w w':=by
 have hn:Hd (L.length=n):=hL.1;have hmx:n≤9223372036854775807:=by have:=hL.2.1;have:=hL.2.2.1;omega
 have HL:Hd (∀ u,Below w.heap.size w u→∀ i,i < n→_):=fun u hu i hi=>hL.atW hu hne i hi;have HT:=SM (fG L);have Hsn:Hd (∀ k,k < n→(L.take (k+1)).flatten=(L.take k).flatten ++ L.getD k []):=fun k hk=>eN L k (by rw[hn.o];exact hk)
 have HG:=SM hg;clear hL hg
 go_in
 go_upto_region 1 with fail
 have hr:=Row.made (f:=B8) w 35 bO;have hb:=ba (.cells (fw B8 bO) 35) (Sy w);generalize w.alloc (.cells (fw B8 bO) 35)=w1 at *;have Hr:=SM hr;have Hb:=SM hb;clear hr hb
 go_wp2_with fail
 refine (tD w1).mono ?_;rintro _ w2 ⟨rfl,hb⟩;have Hr2:=SM (Hr.o.below hb);have Hb2:=SM (bt Hb.o hb);clear Hr Hb hb;have hsz:=Hr2.o.lt;have hb3:=ba (.cells #[.int .i64 0] 3) (ba (.cells #[.int .i64 0] 3) (ba (.cells (av cB) 201) (ba (.cells (fw W4 ou) 248) (Below.refl _ w2))));have hF:=KM w2 om
 go_upto_region 5 with fail
 have Hr:=SM (Hr2.o.below hb3);have Hb:=SM (bt Hb2.o hb3);have HF:=SM hF;clear Hr2 Hb2 hF hb3;generalize (((w2.alloc (.cells (fw W4 ou) 248)).alloc (.cells (av cB) 201)).alloc (.cells #[.int .i64 0] 3)).alloc (.cells #[.int .i64 0] 3)=W at *;have HX:Hd (∀ g,FX (w2.heap.size+1+1+1) (w2.heap.size+1) (w2.heap.size+1+1) w2.heap.size g→w.heap.size < g):=fun g hg=>by
  rcases hg with h | h | h | h <;> omega
 generalize w2.heap.size+1+1+1=T at *;generalize w2.heap.size+1+1=U at *;generalize w2.heap.size+1=B at *;generalize w2.heap.size=S at *;clear hsz
 go_wp2
 go_loopw [18] (fun i wr=>∃ k:Nat,k≤n∧i = .int .i64 k∧FM wr T B U S (cV ke (L.take k).flatten) (((L.take k).flatten.length:Nat):Int)∧Row B8 wr w.heap.size bO∧Below w.heap.size w wr) (fun i _=>n - (intOf i).toNat)
 case atStart=>exact⟨0,om,rfl,HF.o,Hr.o,Hb.o⟩
 case round =>
  obtain⟨k,hk,rfl,hF,hr,hb⟩:=hrel;have HF':=SM hF;have Hr':=SM hr;have Hb':=SM hb;clear hF hr hb HF Hr Hb
  by_cases hlt:k < n
  ·obtain⟨b,o,ai,ni,ci,rfl,hcell,hbs,hpos,hown⟩:=HL.o wr Hb'.o k hlt;have hsn:=Hsn.o k hlt;have hle:=HT.o (k+1);have hl1:=hbs.1;rw[hsn,List.length_append,hl1] at hle;have Hsn2:=SM hsn;have Hbs:=SM hbs;have Hown:=SM hown;have Hle:=SM hle;have Hl1:=SM hl1;clear hsn hbs hown hle hl1
   go_wp2_with fail
   refine (xp T B U S _ _ ai ni ci _ wr HF'.o (mq _ _ (by simp[ke])) (HG.o.below HG.o.1 Hb'.o) Hbs.o (fun g hg hx=>by have h1:=Hown.o g hg;have h2:=HX.o g hx;omega) (by have:=Hle.o;omega)).mono ?_
   rintro _ w3 ⟨rfl,hF3,hk3⟩;have hF4:FM w3 T B U S (cV ke (L.take (k+1)).flatten) (((L.take (k+1)).flatten.length:Nat):Int):=by
    rw[Hsn2.o,fl,List.length_append,Hl1.o];have e:(((List.take k L).flatten.length+ni:Nat):Int)=((List.take k L).flatten.length:Int)+(ni:Int):=om;rw[e];exact hF3
   have HF4:=SM hF4;have HR4:Hd (Row B8 w3 w.heap.size bO):=Hr'.o.same (hk3.block _ Hr'.o.lt (fun hx=>by have:=HX.o _ hx;omega))
   have HB4:Hd (Below w.heap.size w w3):=Hb'.o.trans (hk3.below (fun g hx=>by have:=HX.o g hx;omega) Hb'.o.size)
   clear hF3 hk3 hF4 hcell
   go_wp2
   go_roundw
   case rel=>exact⟨k+1,om,by go_num,HF4.o,HR4.o,HB4.o⟩
   case measure=>simp[intOf];omega
  ·obtain rfl:k=n:=om;have hall:L.take k=L:=List.take_of_length_le (by rw[hn.o];exact Nat.le_refl _)
   rw[hall] at HF';obtain⟨tl,htl⟩:=eY L.flatten.length;rw[htl] at HF' ht;have Htl:=SM htl;clear htl;have q1:=HF'.o.t
   go_wp2_with fail
   clear q1;refine (Lo tl wr om).mono ?_;rintro _ w3 ⟨⟨Z,hZ,rfl,hwb⟩,hb3⟩;have hpl:(cW tl).length≤200:=by simp[cW,fu];unfold fc;omega
   have Hwb:=SM (hwb.bs om);have Hab:Hd (cV (cV ke L.flatten) (cW tl)=cV (cV ke L.flatten) (cW tl)):=rfl;have HZ:Hd (¬ FX T B U S Z):=fun hx=>by
    have h0:=HF'.o.d;have h1:=HF'.o.l;have h2:=HF'.o.b.lt;have h3:=HF'.o.s.lt
    rcases hx with h | h | h | h <;> omega
   have HF3:=SM (HF'.o.below hb3);have HR3:=SM (Hr'.o.below hb3);have HB3:=SM (bt Hb'.o hb3);clear hwb hb3 Hr' Hb' HF';obtain⟨pl,hpe⟩:=eY ((cW tl).length);rw[hpe] at Hwb hpl ⊢
   go_wp2_with fail
   refine (xp T B U S _ _ (some ⟨Z,0,none⟩) pl pl _ w3 HF3.o (mq _ _ (by simp[ke])) (HG.o.below HG.o.1 HB3.o) Hwb.o (fun g hg=>by cases hg;exact HZ.o) om).mono ?_
   rintro _ w4 ⟨rfl,hF4,hk4⟩;have HF4:=SM hF4;have HR4:Hd (Row B8 w4 w.heap.size bO):=HR3.o.same (hk4.block _ HR3.o.lt (fun hx=>by have:=HX.o _ hx;omega))
   have HB4:Hd (Below w.heap.size w w4):=HB3.o.trans (hk4.below (fun g hx=>by have:=HX.o g hx;omega) HB3.o.size)
   have Hsum:Hd (d9 L.flatten=pr (cV (cV ke L.flatten) (cW tl)).st):=by
    show _=_;rw[tC,Htl.o]
   clear hF4 hk4 HF3 HR3 HB3;generalize cV (cV ke L.flatten) (cW tl)=m at *
   go_upto_region 12 with fail
   have hD:=Row.made (f:=B8) w4 35 bO;have hb5:=ba (.cells (fw B8 bO) 35) (Below.refl _ w4);have HD:=SM hD;have HR5:=SM (HR4.o.below hb5);have HB5:=SM (bt HB4.o hb5);have hst:=(HF4.o.s.below hb5).r;have hgt:w.heap.size < w4.heap.size:=HR4.o.lt;clear hD hb5 HR4 HB4 HF4;generalize w4.alloc (.cells (fw B8 bO) 35)=w5 at *;generalize w4.heap.size=D at *
   go_wp2_with fail
   generalize m.st=s at *;clear hst
   go_loopw [31] (fun i wr=>∃ k:Nat,k≤8∧i = .int .i64 k∧Row B8 wr D (y6 s (4 * k))∧Row B8 wr w.heap.size bO∧Below w.heap.size w wr) (fun i _=>8 - (intOf i).toNat)
   case atStart=>exact⟨0,om,rfl,by rw[rT];exact HD.o,HR5.o,HB5.o⟩
   case round =>
    obtain⟨i,hi,rfl,hd,hr,hb⟩:=hrel;have Hd:=SM hd;have Hr:=SM hr;have Hb:=SM hb;clear hd hr hb HD HR5 HB5
    by_cases hlt:i < 8
    ·have hix:=iQ (P:=prog) W4 s 248 56 .i64 i underlying248 kr kr hlt;have hb5:(0:Int)≤(i:Int):=om;have hb6:(i:Int) < 8:=om
     go_wp2_with fail
     clear hix
     go_loopw [35] (fun j' wr=>∃ j:Nat,j≤4∧j' = .int .i64 j∧Row B8 wr D (y6 s (4 * i+j))∧Row B8 wr w.heap.size bO∧Below w.heap.size w wr) (fun j _=>4 - (intOf j).toNat)
     case atStart=>exact⟨0,om,rfl,Hd.o,Hr.o,Hb.o⟩
     case round =>
      obtain⟨j,hj,rfl,hd,hr,hb⟩:=hrel;have Hd2:=SM hd;have Hr2:=SM hr;have Hb2:=SM hb;clear hd hr hb Hd Hr Hb
      by_cases hlt2:j < 4
      ·have hw1:IntKind.i64.wrap (4 * (i:Int))=4 * (i:Int):=wi;have hw2:IntKind.i64.wrap (4 * (i:Int)+(j:Int))=4 * (i:Int)+(j:Int):=wi;have hw3:IntKind.i64.wrap (8 * (j:Int))=8 * (j:Int):=wi;have hw4:IntKind.i64.wrap (24 - 8 * (j:Int))=((24 - 8 * j:Nat):Int):=wi;have hc1:(0:Int)≤4 * (i:Int)+(j:Int):=om;have hc2:4 * (i:Int)+(j:Int) < 32:=om;have hc3:(4 * (i:Int)+(j:Int)).toNat=4 * i+j:=om;have hsh:=Au s[i] (24 - 8 * j) om
       have q1:=Hd2.o.cell (4 * i+j) om;have q2:=Hd2.o.free (4 * i+j);have hs:=Hd2.o.set (4 * i+j) om (Ln s (4 * i+j));rw[rS s (4 * i+j) om,Dk s i j hlt hlt2] at hs;have Hs:=SM hs;have HR:Hd (Row B8 (wr.setCell ⟨D,4 * i+j,none⟩ (B8 (s[i] >>> UInt32.ofNat (24 - 8 * j)).toUInt8)) w.heap.size bO):=Hr2.o.other _ _ (by show D≠_;omega)
       have HBB:Hd (Below w.heap.size w (wr.setCell ⟨D,4 * i+j,none⟩ (B8 (s[i] >>> UInt32.ofNat (24 - 8 * j)).toUInt8))):=Hb2.o.setCell (p:=⟨D,4 * i+j,none⟩) (by show _≤D;omega) _
       have HV:Hd (Value.int .u8 (wI s[i] / 2 ^ min (24 - 8 * j) 32 % 256)=B8 (s[i] >>> UInt32.ofNat (24 - 8 * j)).toUInt8):=by
        show _=_
        rw[Nat.min_eq_left om,hsh,jk,← Of,IntKind.wrap_u8']
       clear hs;generalize 24 - 8 * j=sh at *
       go_wp2_with fail
       rw[HV.o]
       go_roundw
       case rel=>exact⟨j+1,om,by go_num,Hs.o,HR.o,HBB.o⟩
       case measure=>simp[intOf];omega
      ·obtain rfl:j=4:=om
       go_wp2
       go_roundw
       case rel=>exact⟨i+1,om,by go_num,Hd2.o,Hr2.o,Hb2.o⟩
       case measure=>simp[intOf];omega
    ·obtain rfl:i=8:=om;have q1:=Hd.o.r;have q2:=Hr.o.k
     go_wp2
     refine bodyPost_ret (fK rfl _ _ w.heap.size 0 (fw B8 (y6 s 32)) rfl (Hr.o.all (y6 s 32)).r) rfl ⟨?_,?_⟩
     ·rw[Hsum.o,xj]
     ·exact aa Hb.o (Nat.le_refl _) _ _
end
end Go.Proofs.YtlcfaaodmickbaaGreatDoor
