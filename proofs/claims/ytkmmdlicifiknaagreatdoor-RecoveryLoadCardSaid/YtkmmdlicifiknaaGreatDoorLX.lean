/- RecoveryLoad: for a device with any regions, plan records, superblocks and changed bytes, Load agrees with the reference. No condition but the card's own: crc.table as the program lays it. Joined texts, each with what its own name promises; no condition beyond those stated. -/
import Derived.Test.YtkmmdlicifiknaaGreatDoorLE
import Derived.Test.YtkmmdlicifiknaaGreatDoorLU
set_option maxHeartbeats 0
set_option maxRecDepth 100000
set_option linter.all false
namespace Go.Proofs.YtkmmdlicifiknaaGreatDoor
open Go.Abs Go.RowKit Go.ChangeShapes Go.WideShapes
theorem recoveryLoadLifted(os:Os)(started:os.Started)(H:Type)(enc:TypeId × Value->H) :
  ReturnsInHanded {} Tryz.checked os 5 .any (fun w args=>(Rows.recoveryLoadSpec.pre enc Tryz.prog Tryz.f5 [] false w args ∧ laidMetH Tryz.prog [("flashcache/crc.table",Rows.laid_flashcache_crc_table)] w) ∧ sizedMet enc Tryz.prog Tryz.f5 (OpenSpec.ofChange Rows.recoveryLoadSpec) false w args)
   (Rows.recoveryLoadSpec.post enc Tryz.prog Tryz.f5 false Rows.recoveryLoadRow.fresh Rows.recoveryLoadRow.handsOn Rows.recoveryLoadRow.again):=by
 refine returnsInHanded_of_change_and (C:=Tryz.checked) (X:=fun w _=>laidMetH Tryz.prog [("flashcache/crc.table",Rows.laid_flashcache_crc_table)] w) (fun _ _ _ hh h=>h.of_heap hh) own0 started (by kernel_rfl) Tryz.func5
  (ChangeSpec.witness_shaped (enc:=enc) (C:=Tryz.checked) (os:=os) (X:=fun w _=>laidMetH Tryz.prog [("flashcache/crc.table",Rows.laid_flashcache_crc_table)] w) false (World.doorLaid Tryz.prog 400 os) #[.agg #[.int .i64 0,.int .i64 0,.int .i64 0,.int .i64 0,.int .i64 0,.int .i64 0,.int .i64 0,.int .i64 0,.int .i64 0,.int .i64 0,.int .i64 0,.int .i64 0,.int .i64 0,.slice none 0 0],.slice none 0 0,.int .i64 0] 8 rfl (World.shaped_of_RefB (by kernel_rfl) (by kernel_rfl)) (by kernel_rfl) (by kernel_rfl) (by kernel_rfl) (c0n os _)) ?_
 intro W base args ds gs before hval0 hW _ _ hL _
 have hval:∀(j:Nat) t v,Tryz.f5.params[j]?=some t->args[j]?=some v->Value.okWide Tryz.prog W .any base t v:=hval0
 have hW2:=hW
 obtain ⟨p,q,hA0,hV,_,_,_⟩:=hW2
 have hA:DataW.TrodAll enc Tryz.prog W 0 (fun _=>true) true [26,27,3] args.toList ds p:=hA0
 obtain ⟨rfl,rfl⟩:=trodVars_none hV
 obtain ⟨v0,v1,v2,d0,d1,d2,p0,p1,p2,rfl,rfl,rfl,t0,t1,t2⟩:=trodAll_three hA
 obtain ⟨x0,r0,c0⟩:=d0y (E:=E0 fun _=>False) (c3j _) (fun _ h=>h) (f:=4) rfl rfl (hval 0 26 v0 rfl rfl) t0
 obtain ⟨x1,r1,c1⟩:=c2j (E:=E0 fun _=>False) (c3j _) (fun _ h=>h) (f:=6) rfl rfl (hval 1 27 v1 rfl rfl) t1
 obtain ⟨x2,r2,c2⟩:=c2j (E:=E0 fun _=>False) (c3j _) (fun _ h=>h) (f:=1) rfl rfl (hval 2 3 v2 rfl rfl) t2
 obtain ⟨l0,rfl,h0⟩:=d0t c0
 obtain ⟨l1,rfl,h1⟩:=d0x c1
 obtain ⟨l2,rfl,g2,h2⟩:=c6G c2
 exact b7h (E:=E0 fun _=>False) (avs:=[sbA l0,.sl 33 (l1.map ptA),.int .i64 l2]) (tb:=4) (c3j _) (b0X hL) (by kernel_rfl) rfl (by kernel_rfl) (by kernel_rfl) (by kernel_rfl) rfl rfl rfl hW (fun _ h=>h)
  (RelL.cons r0 (RelL.cons r1 (RelL.cons r2 (by simp [Abs.RelL])))) (d0v _ l0 l1 h1.2 h1.1 l2)
theorem recoveryLoad_holds:Rows.RecoveryLoadSaid :=
 OpenClaim.holds_of_wide 5 Tryz.f5 rfl rfl rfl rfl rfl rfl rfl ⟨rfl,rfl,rfl,rfl,rfl⟩ rfl rfl rfl rfl rfl (by kernel_rfl) Tryz.func5 (by kernel_rfl)
  (of_decide_eq_true (by kernel_rfl)) (by unfold Func.isWrapper;rw [if_neg (of_decide_eq_false (by kernel_rfl))];exact ⟨rfl,rfl⟩)
  (fun os started H enc _=>recoveryLoadLifted os started H enc)
theorem recoveryLoad_card:Rows.RecoveryLoadCardSaid :=
 Claim7.holds_tied_plain_at .later [] [.data] true (true,"318a5a10ab542dae29572fd2e20a33e819e3a727377adc8eb894a6dfcaf7bbb1") false
  recoveryLoad_holds (fun _ h=>by cases h) (by kernel_rfl) (fun _ h=>by cases h) recoveryLoad_row_tie rfl ⟨rfl,rfl⟩ (by kernel_rfl) rfl
  (fun f fn hf hfn=>by
   obtain rfl:f=5:=Option.some.inj ((show Tryz.prog.funcNamed "flashcache/flashcachelaw23.RecoveryLoad"=some 5 by kernel_rfl).symm.trans hf) |>.symm
   obtain rfl:fn=Tryz.f5:=(Option.some.inj (Tryz.func5.symm.trans hfn)).symm
   exact ⟨by kernel_rfl,fun j t ht=>by
    have ht:(#[26,27,3]:Array TypeId)[j]?=some t:=ht
    have hm:t∈[26,27,3]:=by simpa using Array.mem_of_getElem? ht
    have hall:([26,27,3].all fun u=>!Tryz.prog.wantsStandIn u)=true:=by kernel_rfl
    exact (show Tryz.prog.wantsStandIn t=false by simpa using List.all_eq_true.1 hall t hm)⟩)
  (by kernel_rfl)
end Go.Proofs.YtkmmdlicifiknaaGreatDoor
