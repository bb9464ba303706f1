/- RecoveryRaw: for any contents of a device of up to 100 sectors, Load returns without a panic what the reference finds. No condition but the card's own: crc.table as the program lays it. Joined texts, each with what its own name promises; no condition beyond those stated. -/
import Derived.Test.YtkmmdlicifiknaaGreatDoorVE
import Derived.Test.YtkmmdlicifiknaaGreatDoorVS
set_option maxHeartbeats 0
set_option maxRecDepth 100000
set_option linter.all false
namespace Go.Proofs.YtkmmdlicifiknaaGreatDoor
open Go.Abs Go.RowKit Go.ChangeShapes Go.WideShapes
theorem recoveryRawLifted(os:Os)(started:os.Started)(H:Type)(enc:TypeId × Value->H) :
  ReturnsInHanded {} Tryz.checked os 4 .any (fun w args=>(Rows.recoveryRawSpec.pre enc Tryz.prog Tryz.f4 [] false w args ∧ laidMetH Tryz.prog [("flashcache/crc.table",Rows.laid_flashcache_crc_table)] w) ∧ sizedMet enc Tryz.prog Tryz.f4 (OpenSpec.ofChange Rows.recoveryRawSpec) false w args)
   (Rows.recoveryRawSpec.post enc Tryz.prog Tryz.f4 false Rows.recoveryRawRow.fresh Rows.recoveryRawRow.handsOn Rows.recoveryRawRow.again):=by
 refine returnsInHanded_of_change_and (C:=Tryz.checked) (X:=fun w _=>laidMetH Tryz.prog [("flashcache/crc.table",Rows.laid_flashcache_crc_table)] w) (fun _ _ _ hh h=>h.of_heap hh) own0 started (by kernel_rfl) Tryz.func4
  (ChangeSpec.witness_shaped (enc:=enc) (C:=Tryz.checked) (os:=os) (X:=fun w _=>laidMetH Tryz.prog [("flashcache/crc.table",Rows.laid_flashcache_crc_table)] w) false (World.doorLaid Tryz.prog 400 os) #[.slice none 0 0,.int .i64 0] 8 rfl (World.shaped_of_RefB (by kernel_rfl) (by kernel_rfl)) (by kernel_rfl) (by kernel_rfl) (by kernel_rfl) (c0n os _)) ?_
 intro W base args ds gs before hval0 hW _ _ hL _
 have hval:∀ (j:Nat) t v,Tryz.f4.params[j]?=some t->args[j]?=some v->Value.okWide Tryz.prog W .any base t v:=hval0
 have hW2:=hW
 obtain ⟨p,q,hA0,hV,_,_,_⟩:=hW2
 have hA:DataW.TrodAll enc Tryz.prog W 0 (fun _=>true) true [29,3] args.toList ds p:=hA0
 obtain ⟨rfl,rfl⟩:=trodVars_none hV
 obtain ⟨v0,v1,d0,d1,p0,p1,rfl,rfl,rfl,t0,t1⟩:=trodAll_two hA
 obtain ⟨x0,r0,c0⟩:=c2j (E:=E0 fun _=>False) (c3j _) (fun _ h=>h) (f:=2) rfl rfl (hval 0 29 v0 rfl rfl) t0
 obtain ⟨x1,r1,c1⟩:=c2j (E:=E0 fun _=>False) (c3j _) (fun _ h=>h) (f:=1) rfl rfl (hval 1 3 v1 rfl rfl) t1
 obtain ⟨l0,rfl,h0⟩:=b9Z c0
 obtain ⟨l1,rfl,g1,h1⟩:=c6G c1
 exact b7h (E:=E0 fun _=>False) (avs:=[.sl 1 (l0.map u8A),.int .i64 l1]) (tb:=4) (c3j _) (b0X hL) (by kernel_rfl) rfl (by kernel_rfl) (by kernel_rfl) (by kernel_rfl) rfl rfl rfl hW (fun _ h=>h)
  (RelL.cons r0 (RelL.cons r1 (by simp [Abs.RelL]))) (c1i _ l0 h0 l1)
theorem recoveryRaw_holds:Rows.RecoveryRawSaid :=
 OpenClaim.holds_of_wide 4 Tryz.f4 rfl rfl rfl rfl rfl rfl rfl ⟨rfl,rfl,rfl,rfl,rfl⟩ rfl rfl rfl rfl rfl (by kernel_rfl) Tryz.func4 (by kernel_rfl)
  (of_decide_eq_true (by kernel_rfl)) (by unfold Func.isWrapper;rw [if_neg (of_decide_eq_false (by kernel_rfl))];exact ⟨rfl,rfl⟩)
  (fun os started H enc _=>recoveryRawLifted os started H enc)
theorem recoveryRaw_card:Rows.RecoveryRawCardSaid :=
 Claim7.holds_tied_plain_at .later [] [.data] true (true,"318a5a10ab542dae29572fd2e20a33e819e3a727377adc8eb894a6dfcaf7bbb1") false
  recoveryRaw_holds (fun _ h=>by cases h) (by kernel_rfl) (fun _ h=>by cases h) recoveryRaw_row_tie rfl ⟨rfl,rfl⟩ (by kernel_rfl) rfl
  (fun f fn hf hfn=>by
   obtain rfl:f=4:=Option.some.inj ((show Tryz.prog.funcNamed "flashcache/flashcachelaw23.RecoveryRaw"=some 4 by kernel_rfl).symm.trans hf) |>.symm
   obtain rfl:fn=Tryz.f4:=(Option.some.inj (Tryz.func4.symm.trans hfn)).symm
   exact ⟨by kernel_rfl,fun j t ht=>by
    have ht:(#[29,3]:Array TypeId)[j]?=some t:=ht
    have hm:t ∈ [29,3]:=by simpa using Array.mem_of_getElem? ht
    have hall:([29,3].all fun u=>!Tryz.prog.wantsStandIn u)=true:=by kernel_rfl
    exact (show Tryz.prog.wantsStandIn t=false by simpa using List.all_eq_true.1 hall t hm)⟩)
  (by kernel_rfl)
end Go.Proofs.YtkmmdlicifiknaaGreatDoor
