/- The law TopCompact returns true for every input, and its arguments read afterwards as before: the row and its tied card. No conditions. -/
import Derived.WalkKit
import Derived.ProofKit
import Derived.OpenShut
import Derived.ShutString
import Derived.ChangeOld
import Derived.Below
import Derived.LaidMore
import Derived.Lay
import Derived.SevenTiedAt
import Derived.Stop.Joined
import Derived.Test.YtlcfaaodmickbaaGreatDoorPcLCompact
set_option linter.unusedSimpArgs false
set_option linter.unusedVariables false
set_option maxRecDepth 100000
set_option maxHeartbeats 8000000
namespace Go.Proofs.YtlcfaaodmickbaaGreatDoor.topCompact
open Go.Proofs.Tryz
open Go.Proofs.YtlcfaaodmickbaaGreatDoor
open Go.ChangeShapes Go.WideShapes Go.ChangeAt Go.RowKit
set_option maxRecDepth 100000 in
theorem mQ(os:Os)(started:os.Started)(H:Type)(enc:TypeId × Value→H):
  ReturnsInHanded {} Tryz.checked os 4 .any (fun w args=>(Rows.topCompactSpec.pre enc prog Tryz.f4 Rows.topCompactRow.domain false w args∧laidMetH prog iF w)∧sizedMet enc prog Tryz.f4 (OpenSpec.ofChange Rows.topCompactSpec) false w args)
   (Rows.topCompactSpec.post enc prog Tryz.f4 false true false false):=by
 refine returnsInHanded_of_change_and (C:=Tryz.checked) (X:=fun w _=>laidMetH prog iF w) (fun _ _ _ hh h=>h.of_heap hh) Qa started kr func4
  (ChangeSpec.witness_shaped (enc:=enc) (C:=Tryz.checked) (os:=os) (X:=fun w _=>laidMetH prog iF w) false (World.laidAll prog os iF) #[.agg ((List.replicate 16 (Value.int .u8 0)) ++ [Value.int .i64 0,Value.int .i64 0]).toArray,.slice none 0 0,.int .u8 0] 8 (World.laidAll_os _ _ _)
   (World.shaped_of_ZipB kr kr) kr kr kr
   (by rw[MakeChecks.laidMetH_plain _ _ _ kr];exact laidMet_laidAll _ kr kr)) ?_
 intro W base args ds gs before hval0 hW hc _ hL _;have hval:∀ (j:Nat) t v,Tryz.f4.params[j]? = some t→args[j]? = some v→Value.okWide prog W .any base t v:=hval0;have hW':=hW;obtain⟨p,q,hA0,hV,rfl,_,_⟩:=hW;have hA:DataW.TrodAll enc prog W 0 (fun _=>true) true Tryz.f4.params.toList args.toList ds p:=hA0;rw[Tryz.params4] at hA hval;obtain⟨v0,vs0,d0,ds0,p0,q0,hargs,rfl,rfl,h0,r0⟩:=trodAll_cons hA;obtain⟨v1,vs1,d1,ds1,p1,q1,rfl,rfl,rfl,h1,r1⟩:=trodAll_cons r0
 obtain⟨v2,vs2,d2,ds2,p2,q2,rfl,rfl,rfl,h2,r2⟩:=trodAll_cons r1;obtain⟨rfl,rfl,rfl⟩:=trodAll_nil r2;obtain rfl:args=#[v0,v1,v2]:=by cases args;simp_all
 obtain⟨rfl,rfl⟩:=trodVars_none hV;have k0:=h0;have lt0:∀ x ∈ p0,x.block < W.heap.size:=by obtain⟨m,hm⟩:=k0;exact DataW.trod_lt m _ _ _ hm
 obtain⟨key0,skew0,n0,rfl⟩:=jQ (hval 0 24 v0 rfl rfl) h0;have k1:=h1;have lt1:∀ x ∈ p1,x.block < W.heap.size:=by obtain⟨m,hm⟩:=k1;exact DataW.trod_lt m _ _ _ hm
 obtain⟨ad1,c1,L1,rfl,x1,l1⟩:=jR (hval 1 25 v1 rfl rfl) h1;obtain⟨a2,rfl,rfl,rfl,w2⟩:=open_int underlying5 (hval 2 5 v2 rfl rfl) h2;have b2:=bounds_u8 w2;clear hA0 hval0;refine (rP W key0 skew0 n0 ad1 L1.length c1 L1 a2 rfl x1 l1 b2 (Gd hL)).mono fun e W' ⟨he,bel⟩=>?_;subst he;exact⟨_,rfl,_,_,_,[],_,[],hW',trodAll_mk1 (shut_bool underlying4 _),(trodAll_cons_mk (Below.trod gX kr (of_decide_eq_true kr) k0 bel lt0) (trodAll_cons_mk (Below.trod gX kr (of_decide_eq_true kr) k1 bel lt1) (trodAll_cons_mk (shut_int underlying5 w2) trodAll_mk0))),rfl,bel.frame _,fun h=>by cases h⟩
theorem over:Rows.topCompactRow.holds Tryz.pinned (OpenSpec.ofChange Rows.topCompactSpec) :=
 OpenClaim.holds_of_wide 4 Tryz.f4 rfl rfl rfl rfl rfl rfl rfl ⟨rfl,rfl,rfl,rfl,rfl⟩ rfl rfl rfl rfl rfl kr func4 kr
  (of_decide_eq_true kr) (by unfold Func.isWrapper;first | (rw[if_pos (by decide +kernel)];kernel_rfl) | (rw[if_neg (by decide +kernel)];exact⟨rfl,rfl⟩))
  (fun os started H enc _=>mQ os started H enc)
theorem proved:Rows.TopCompactCardSaid :=
 Claim7.holds_tied_plain_at .later [] [.data] true (true, "c8eb1d76c801e3e29bccb731da9f61026041864cd8303f2112d1fa061012020b") true over (fun _ h => by cases h) (by kernel_rfl) (fun _ h => by cases h) topCompact_row_tie rfl ⟨rfl, rfl⟩ (by kernel_rfl) rfl
  (fun f fn hf hfn=>by
   obtain rfl : f = 4 := Option.some.inj ((show Tryz.prog.funcNamed "toll/tolltop.TopCompact" = some 4 by kernel_rfl).symm.trans hf) |>.symm
   obtain rfl:fn=Tryz.f4:=(Option.some.inj (func4.symm.trans hfn)).symm;exact⟨kr,fun j t ht=>by
    rw[Tryz.params4] at ht;have hm:t ∈ [24,25,5]:=by simpa using Array.mem_of_getElem? ht
    have hall:([24,25,5].all fun u => !prog.wantsStandIn u)=true:=kr;exact (show prog.wantsStandIn t=false by simpa using List.all_eq_true.1 hall t hm)⟩)
  kr
#print axioms proved
end Go.Proofs.YtlcfaaodmickbaaGreatDoor.topCompact
