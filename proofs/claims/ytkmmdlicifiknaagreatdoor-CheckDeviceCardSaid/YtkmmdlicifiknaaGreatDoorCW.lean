/- CheckDevice: for a device with any regions, plan records and changed bytes, Device and Entries agree with the reference. No condition but the card's own: crc.table as the program lays it. Joined texts, each with what its own name promises; no condition beyond those stated. -/
import Derived.Test.YtkmmdlicifiknaaGreatDoorCE
import Derived.Test.YtkmmdlicifiknaaGreatDoorCR
import Derived.Test.YtkmmdlicifiknaaGreatDoorCV
set_option maxHeartbeats 0
set_option maxRecDepth 100000
set_option linter.all false
namespace Go.Proofs.YtkmmdlicifiknaaGreatDoor
open Go.Abs Go.RowKit Go.ChangeShapes Go.WideShapes
theorem checkDeviceLifted(os:Os)(started:os.Started)(H:Type)(enc:TypeId × Value->H) :
  ReturnsInHanded {} Tryz.checked os 3 .any (fun w args=>(Rows.checkDeviceSpec.pre enc Tryz.prog Tryz.f3 [] false w args ∧ laidMetH Tryz.prog [("flashcache/crc.table",Rows.laid_flashcache_crc_table)] w) ∧ sizedMet enc Tryz.prog Tryz.f3 (OpenSpec.ofChange Rows.checkDeviceSpec) false w args)
   (Rows.checkDeviceSpec.post enc Tryz.prog Tryz.f3 false Rows.checkDeviceRow.fresh Rows.checkDeviceRow.handsOn Rows.checkDeviceRow.again):=by
 refine returnsInHanded_of_change_and (C:=Tryz.checked) (X:=fun w _=>laidMetH Tryz.prog [("flashcache/crc.table",Rows.laid_flashcache_crc_table)] w) (fun _ _ _ hh h=>h.of_heap hh) own0 started (by kernel_rfl) Tryz.func3
  (ChangeSpec.witness_shaped (enc:=enc) (C:=Tryz.checked) (os:=os) (X:=fun w _=>laidMetH Tryz.prog [("flashcache/crc.table",Rows.laid_flashcache_crc_table)] w) false (World.doorLaid Tryz.prog 400 os) #[.agg #[.int .i64 0,.int .i64 0,.int .i64 0,.int .i64 0,.int .i64 0,.int .i64 0,.int .i64 0,.int .i64 0,.int .i64 0,.int .i64 0,.int .i64 0,.int .i64 0,.int .i64 0,.slice none 0 0],.slice none 0 0,.slice none 0 0] 8 rfl (World.shaped_of_RefB (by kernel_rfl) (by kernel_rfl)) (by kernel_rfl) (by kernel_rfl) (by kernel_rfl) (b8Y os _)) ?_
 intro W base args ds gs before hval0 hW _ _ hL _
 have hval:∀(j:Nat) t v,Tryz.f3.params[j]?=some t->args[j]?=some v->Value.okWide Tryz.prog W .any base t v:=hval0
 have hW2:=hW
 obtain ⟨p,q,hA0,hV,_,_,_⟩:=hW2
 have hA:DataW.TrodAll enc Tryz.prog W 0 (fun _=>true) true [26,27,28] args.toList ds p:=hA0
 obtain ⟨rfl,rfl⟩:=trodVars_none hV
 obtain ⟨v0,v1,v2,d0,d1,d2,p0,p1,p2,rfl,rfl,rfl,t0,t1,t2⟩:=trodAll_three hA
 obtain ⟨x0,r0,c0⟩:=c1m (E:=E0 fun _=>False) (b8A _) (fun _ h=>h) (f:=4) rfl rfl (hval 0 26 v0 rfl rfl) t0
 obtain ⟨x1,r1,c1⟩:=c0x (E:=E0 fun _=>False) (b8A _) (fun _ h=>h) (f:=6) rfl rfl (hval 1 27 v1 rfl rfl) t1
 obtain ⟨x2,r2,c2⟩:=c0x (E:=E0 fun _=>False) (b8A _) (fun _ h=>h) (f:=4) rfl rfl (hval 2 28 v2 rfl rfl) t2
 obtain ⟨l0,rfl,h0⟩:=b3W c0
 obtain ⟨l1,rfl,h1⟩:=b9D c1
 obtain ⟨l2,rfl,h2⟩:=c4D c2
 exact b6q (E:=E0 fun _=>False) (avs:=[sbA l0,.sl 33 (l1.map ptA),.sl 6 (l2.map prA)]) (tb:=4) (b8A _) (b0u hL) (by kernel_rfl) rfl (by kernel_rfl) (by kernel_rfl) (by kernel_rfl) rfl rfl rfl hW (fun _ h=>h)
  (RelL.cons r0 (RelL.cons r1 (RelL.cons r2 (by simp [Abs.RelL])))) (b4k _ l0 l1 h1.2 h1.1 l2 h2)
theorem checkDevice_holds:Rows.CheckDeviceSaid :=
 OpenClaim.holds_of_wide 3 Tryz.f3 rfl rfl rfl rfl rfl rfl rfl ⟨rfl,rfl,rfl,rfl,rfl⟩ rfl rfl rfl rfl rfl (by kernel_rfl) Tryz.func3 (by kernel_rfl)
  (of_decide_eq_true (by kernel_rfl)) (by unfold Func.isWrapper;rw [if_neg (of_decide_eq_false (by kernel_rfl))];exact ⟨rfl,rfl⟩)
  (fun os started H enc _=>checkDeviceLifted os started H enc)
theorem checkDevice_card:Rows.CheckDeviceCardSaid :=
 Claim7.holds_tied_plain_at .later [] [.data] true (true,"318a5a10ab542dae29572fd2e20a33e819e3a727377adc8eb894a6dfcaf7bbb1") false
  checkDevice_holds (fun _ h=>by cases h) (by kernel_rfl) (fun _ h=>by cases h) checkDevice_row_tie rfl ⟨rfl,rfl⟩ (by kernel_rfl) rfl
  (fun f fn hf hfn=>by
   obtain rfl:f=3:=Option.some.inj ((show Tryz.prog.funcNamed "flashcache/flashcachelaw29.CheckDevice"=some 3 by kernel_rfl).symm.trans hf) |>.symm
   obtain rfl:fn=Tryz.f3:=(Option.some.inj (Tryz.func3.symm.trans hfn)).symm
   exact ⟨by kernel_rfl,fun j t ht=>by
    have ht:(#[26,27,28]:Array TypeId)[j]?=some t:=ht
    have hm:t∈[26,27,28]:=by simpa using Array.mem_of_getElem? ht
    have hall:([26,27,28].all fun u=>!Tryz.prog.wantsStandIn u)=true:=by kernel_rfl
    exact (show Tryz.prog.wantsStandIn t=false by simpa using List.all_eq_true.1 hall t hm)⟩)
  (by kernel_rfl)
end Go.Proofs.YtkmmdlicifiknaaGreatDoor
