/- ScanOther: the walk. Joined texts, each with what its own name promises; no condition beyond those stated. -/
import Derived.Test.YtlndakkehobnpaaDoorPH
namespace Go.Abs
theorem written_nil (X : Nat → Prop) (ver log : Int) (l : La) (R : Nat) (hl : LyOk l R) (hlay : ∀ X, ACalls (E0 X) 47 [.int .i64 ver, .int .i64 log] [] (fun r H' => r = laA l ∧ H' = []))
    (rs : List Rec) (pads : List Bool) (hrs : rs.length ≤ maxLen) (hkey : ∀ r ∈ rs, r.key.length ≤ maxLen ∧ r.val.length ≤ maxLen) (H : Hp) :
    ACalls (E0 X) 40 [.int .i64 ver, .int .i64 log, .sl 4 (rs.map recA), .sl 1 (pads.map boA), .nils] H (fun q H' => (∃ img, WrI l [] img ∧ q = .tup [.sl 1 (img.map u8A), laA l, .int .i64 9]) ∧ H' = H) :=
  ACalls.weak (written_at X ver log l R hl hlay rs pads [] hrs (by simp) hkey H) fun m w vs h => by
    obtain ⟨u0, r0, rfl, a0, h1⟩ := relL_cons.1 h
    obtain ⟨u1, r1, rfl, a1, h2⟩ := relL_cons.1 h1
    obtain ⟨u2, r2, rfl, a2, h3⟩ := relL_cons.1 h2
    obtain ⟨u3, r3, rfl, a3, h4⟩ := relL_cons.1 h3
    obtain ⟨u4, r4, rfl, a4, h5⟩ := relL_cons.1 h4
    exact RelL.cons a0 (RelL.cons a1 (RelL.cons a2 (RelL.cons a3 (RelL.cons (rel_nils 2 a4) h5))))
attribute [local irreducible] AStep aops AWp Nx awM
set_option maxHeartbeats 0 in
set_option maxRecDepth 100000 in
theorem scanOther_c (X : Nat → Prop) (c : Cs) (hc : CsOk c) (s : Int) : ACalls (E0 X) 11 [.agg (csL c), .int .i64 s] [] (fun r H' => r = .bool true ∧ H' = []) := by
  refine ACalls.cut0 ?_ trivial
  obtain ⟨l, R, hl, hlay⟩ := lay_ok c.ver c.log
  have hwr := written_nil X c.ver c.log l R hl hlay c.rs c.pads hc.rs hc.key
  have hR2 := hl.two
  have hRn : l.rs.toNat = R := by rw [hl.rs]; exact Int.toNat_natCast R
  obtain ⟨m, hm, hms⟩ := and_le s 4294967295 (by decide)
  have hms : ibits .and .i64 s 4294967295 = (m : Int) := hms
  show ACalls (E0 X) _ [.agg [.int .i64 c.ver, .int .i64 c.log, .sl 4 (c.rs.map recA), .sl 1 (c.pads.map boA), .sl 2 (c.sp.map spA), .int .i64 c.more], .int .i64 s] [] _
  refine acalls_of Proofs.Tryd.func11 rfl Proofs.Tryd.ntmps11 (by kernel_rfl) rfl ?_
  intro hH hargs
  clear hH hargs
  repeat' (refine Ql ?_)
  refine Qo rfl ?_
  repeat' (first | ((refine Qa rfl ?_); (first | refine Q1 ?_ | refine QK rfl ?_); (refine QX rfl rfl ?_)) | refine Qh ?_ | refine Ql ?_)
  refine awp_pre (Imp.trans (imp_freezeP (id := 0) (cs := csL c) rfl) (imp_cutk 0 (Nat.zero_le _) hok_nil rfl (Nat.zero_le _) (sl' := [(1, .int .i64 s), (2, .fp [.int .i64 c.ver, .int .i64 c.log, .sl 4 (c.rs.map recA), .sl 1 (c.pads.map boA), .sl 2 (c.sp.map spA), .int .i64 c.more])]) ?_)) ?_
  · exact fa_cons ⟨rfl, trivial⟩ (fa_cons ⟨rfl, csA_ids⟩ fa_nil)
  repeat' (first | ((refine Qa rfl ?_); (first | refine Q3 rfl rfl rfl ?_ | refine Q4 rfl rfl rfl rfl rfl ?_); (refine QX rfl rfl ?_)) | refine Qa rfl ?_ | refine Qo rfl ?_)
  refine st_call (fun _ => rfl) rfl ?_
  refine ACalls.mono (hwr _) ?_
  rintro r H' ⟨⟨img, hwi, rfl⟩, rfl⟩
  first | refine nx rfl rfl ?_ | refine nx0 ?_
  repeat' (first | ((refine Qa rfl ?_); (first | refine Q0 ?_ | refine Q1 ?_ | refine QC rfl rfl ?_ | refine QJ rfl rfl ?_); (refine QX rfl rfl ?_)) | (refine Qb rfl ?_; try (refine QS rfl rfl rfl rfl rfl rfl rfl ?_; (refine QX rfl rfl ?_))) | refine Qh ?_ | refine Ql ?_)
  refine awp_pre (Imp.trans (imp_freezeP (id := 0) (cs := [.int .i64 l.id, .int .i64 l.ver, .int .i64 l.rs, .int .i64 l.regs]) rfl) (imp_cutk 0 (Nat.zero_le _) hok_nil rfl (Nat.zero_le _) (sl' := [(1, .int .i64 s), (5, .sl 1 (img.map u8A)), (6, .fp [.int .i64 l.id, .int .i64 l.ver, .int .i64 l.rs, .int .i64 l.regs]), (7, .int .i64 9)]) ?_)) ?_
  · exact fa_cons ⟨rfl, trivial⟩ (fa_cons ⟨rfl, idsL_map fun _ => u8A_ids⟩ (fa_cons ⟨rfl, ⟨trivial, trivial, trivial, trivial, trivial⟩⟩ (fa_cons ⟨rfl, trivial⟩ fa_nil)))
  have hil : img.length = (74 + 4 * R) * 64 := by have := hwi.1; rw [hRn] at this; exact this
  have hlo : LoadOk img.length := ⟨by omega, by omega, by omega⟩
  have hld : ACalls (E0 X) 30 [.sl 1 (img.map u8A)] [] (fun r H' => r = .ptr 0 0 ∧ H' = devH (Dv.fresh img)) := (load_at X [] (.sl 1 (img.map u8A)) img (by omega) rfl).mono fun r H' h => by
    rcases h with ⟨_, h1, h2⟩ | ⟨h1, _⟩
    · exact ⟨h1, h2⟩
    · exact absurd hlo h1
  have hlv : Lv ((74 + 4 * R) * 64) (Dv.fresh img) := ⟨inv_fresh hlo, rfl, rfl, hil⟩
  have hvi : (Dv.fresh img).image = img := rfl
  have haw := fun X => sawake_c X
  repeat' (first | ((refine Qa rfl ?_); (first | refine Q0 ?_ | refine Q1 ?_ | refine Q2 rfl ?_); (refine QX rfl rfl ?_)) | refine Qh ?_ | refine Ql ?_ | refine Qo rfl ?_)
  rw [hms]
  by_cases h0 : m = 0
  · subst h0
    repeat' (first | ((refine Qa rfl ?_); (refine Q5 rfl ?_); (refine QX rfl rfl ?_)) | refine Qa rfl ?_ | refine Qh ?_ | refine Qi rfl ?_ | refine Ql ?_ | refine Qo rfl ?_ | refine Qp rfl ?_)
    refine st_call (fun _ => rfl) rfl ?_
    refine ACalls.mono (acalls_pure (E := E0 X) (fun X => haw X) (by simp [IdsLtL, IdsLt]) _) ?_
    rintro r H' ⟨rfl, rfl⟩
    first | refine nx rfl rfl ?_ | refine nx0 ?_
    repeat' (first | ((refine Qa rfl ?_); (refine Q1 ?_); (refine QX rfl rfl ?_)) | refine Qh ?_ | refine Qs ?_)
    refine awp_ret ?_
    exact ⟨_, rfl, rfl⟩
  rw [decide_eq_false (show ¬ (m : Int) = 0 by omega)]
  repeat' (first | ((refine Qa rfl ?_); (first | refine Q0 ?_ | refine Q2 rfl ?_ | refine Q5 rfl ?_); (refine QX rfl rfl ?_)) | refine Qh ?_ | refine Qs ?_)
  by_cases h9 : m = 9
  · subst h9
    repeat' (first | refine Qa rfl ?_ | refine Ql ?_ | refine Qo rfl ?_ | refine Qp rfl ?_)
    refine st_call (fun _ => rfl) rfl ?_
    refine ACalls.mono (acalls_pure (E := E0 X) (fun X => haw X) (by simp [IdsLtL, IdsLt]) _) ?_
    rintro r H' ⟨rfl, rfl⟩
    first | refine nx rfl rfl ?_ | refine nx0 ?_
    repeat' (first | ((refine Qa rfl ?_); (refine Q1 ?_); (refine QX rfl rfl ?_)) | refine Qh ?_ | refine Qs ?_)
    refine awp_ret ?_
    exact ⟨_, rfl, rfl⟩
  rw [decide_eq_false (show ¬ (m : Int) = 9 by omega)]
  have hrg := dev_l (fun X => sregion_c X (Dv.fresh img) hlv.inv l 1 m (hl.slot (by decide) (by decide)) (by omega) (by omega)) ⟨laA_ids, trivial, trivial, trivial⟩ (by exact idsL_map fun _ => foA_ids) [] (X := X)
  have hnone : recs l.ver m (strF (Dv.fresh img) m (l.rs.toNat - 1) ((74 + 1 * l.rs).toNat + 1)) = [] := by
    obtain ⟨h, st, t, hg, _, _⟩ := hwi.2 rfl
    rw [hRn] at hg
    rw [strF_strR hlv, hvi, show (74 + 1 * l.rs).toNat + 1 = 74 + R + 1 by rw [hl.rs]; omega, hRn, strR_none hg (by decide) (by omega) (by omega) (by omega)]
    rfl
  rw [hnone] at hrg
  generalize Dv.fresh img = v at *
  repeat' (first | refine Ql ?_ | refine Qm ?_ | refine Qq rfl ?_)
  refine awp_region_any [3] [1, 2, 4, 5, 7, 8, 9, 10] (by exact rfl) ?_
  refine any_lin (fuel := 0) [0, 1, 2, 4, 5, 3, 6, 7, 8, 9, 10] (by exact rfl) (by kernel_rfl) (by kernel_rfl) ?_
  skip
  apply ds rfl rfl rfl rfl
  · refine st_call (fun _ => rfl) rfl ?_
    refine ACalls.mono (acalls_pure (E := E0 X) haw (by simp [IdsLtL, IdsLt]) _) ?_
    rintro r H' ⟨rfl, rfl⟩
    first
    | exact nx rfl rfl ⟨rfl, rfl⟩
    | exact nx0 ⟨rfl, rfl⟩
  repeat' ((first | refine Qc rfl rfl rfl ?_ | (apply Qe rfl rfl rfl rfl; intro H9)); (first | refine Q0 ?_ | refine Q3 rfl rfl rfl ?_); (exact QY rfl ⟨rfl, rfl⟩))
  refine ds_ef rfl rfl rfl ?_
  refine st_call (fun _ => rfl) rfl ?_
  refine ACalls.mono (hld) ?_
  rintro r H' ⟨rfl, rfl⟩
  first | refine nx rfl rfl ?_ | refine nx0 ?_
  skip
  apply ds rfl rfl rfl rfl
  · refine st_call (fun _ => rfl) rfl ?_
    refine ACalls.mono (hrg) ?_
    rintro r H' ⟨rfl, rfl⟩
    first
    | exact nx rfl rfl ⟨rfl, rfl⟩
    | exact nx0 ⟨rfl, rfl⟩
  repeat' (first | ((apply Qe rfl rfl rfl rfl; intro H9); (first | refine Q1 ?_ | refine Q2 rfl ?_ | refine Q5 rfl ?_ | refine Q7 rfl rfl rfl ?_); (exact QY rfl ⟨rfl, rfl⟩)) | refine Qk ?_ | refine Qs ?_ | refine Qw (by kernel_rfl) ?_)
  refine awp_ret ?_
  exact ⟨_, rfl, rfl⟩
end Go.Abs
namespace Go.Proofs.YtlndakkehobnpaaDoor
open Go.Abs Go.RowKit Go.ChangeShapes Go.WideShapes
set_option maxRecDepth 100000 in
theorem scanOtherLifted (os : Os) (started : os.Started) (H : Type) (enc : TypeId × Value → H) :
    ReturnsInHanded {} Tryd.checked os 11 .any (fun w args => (Rows.scanOtherSpec.pre enc Tryd.prog Tryd.f11 [] false w args ∧ laidMetH Tryd.prog [("flashcache/crc.table", Rows.laid_flashcache_crc_table)] w) ∧ sizedMet enc Tryd.prog Tryd.f11 (OpenSpec.ofChange Rows.scanOtherSpec) false w args)
      (Rows.scanOtherSpec.post enc Tryd.prog Tryd.f11 false Rows.scanOtherRow.fresh Rows.scanOtherRow.handsOn Rows.scanOtherRow.again) := by
  refine returnsInHanded_of_change_and (C := Tryd.checked) (X := fun w _ => laidMetH Tryd.prog [("flashcache/crc.table", Rows.laid_flashcache_crc_table)] w) (fun _ _ _ hh h => h.of_heap hh) own0 started (by kernel_rfl) Tryd.func11
    (ChangeSpec.witness_shaped (enc := enc) (C := Tryd.checked) (os := os) (X := fun w _ => laidMetH Tryd.prog [("flashcache/crc.table", Rows.laid_flashcache_crc_table)] w) false (World.doorLaid Tryd.prog 400 os) #[.agg #[.int .i64 0, .int .i64 0, .slice none 0 0, .slice none 0 0, .slice none 0 0, .int .i64 0], .int .i64 0] 8 rfl (World.shaped_of_RefB (by kernel_rfl) (by kernel_rfl)) (by kernel_rfl) (by kernel_rfl) (by kernel_rfl) (door_met os _)) ?_
  intro W base args ds gs before hval0 hW _ _ hL _
  have hval : ∀ (j : Nat) t v, Tryd.f11.params[j]? = some t → args[j]? = some v → Value.okWide Tryd.prog W .any base t v := hval0
  have hW2 := hW
  obtain ⟨p, q, hA0, hV, _, _, _⟩ := hW2
  have hA : DataW.TrodAll enc Tryd.prog W 0 (fun _ => true) true [65, 3] args.toList ds p := hA0
  obtain ⟨rfl, rfl⟩ := trodVars_none hV
  obtain ⟨v0, v1, d0, d1, p0, p1, rfl, rfl, rfl, t0, t1⟩ := trodAll_two hA
  obtain ⟨x0, r0, c0⟩ := arg_avS (E := E0 fun _ => False) (E0_ok _) (fun _ h => h) (f := 5) rfl rfl (hval 0 65 v0 rfl rfl) t0
  obtain ⟨x1, r1, c1⟩ := arg_av (E := E0 fun _ => False) (E0_ok _) (fun _ h => h) (f := 1) rfl rfl (hval 1 3 v1 rfl rfl) t1
  obtain ⟨l0, rfl, h0⟩ := case_of c0
  obtain ⟨l1, rfl, g1, h1⟩ := int_of c1
  exact law_trueG (E := E0 fun _ => False) (avs := [.agg (csL l0), .int .i64 l1]) (tb := 4) (E0_ok _) (glob_of_laid hL) (by kernel_rfl) rfl (by kernel_rfl) (by kernel_rfl) (by kernel_rfl) rfl rfl rfl hW (fun _ h => h)
    (RelL.cons r0 (RelL.cons r1 (by simp [Abs.RelL]))) (scanOther_c _ l0 h0 l1)
theorem scanOther_holds : Rows.ScanOtherSaid :=
  OpenClaim.holds_of_wide 11 Tryd.f11 rfl rfl rfl rfl rfl rfl rfl ⟨rfl, rfl, rfl, rfl, rfl⟩ rfl rfl rfl rfl rfl (by kernel_rfl) Tryd.func11 (by kernel_rfl)
    (of_decide_eq_true (by kernel_rfl)) (by unfold Func.isWrapper; rw [if_neg (of_decide_eq_false (by kernel_rfl))]; exact ⟨rfl, rfl⟩)
    (fun os started H enc _ => scanOtherLifted os started H enc)
theorem scanOther_card : Rows.ScanOtherCardSaid :=
  Claim7.holds_tied_plain_at .later [] [.data] true (true, "ef1fa8f3014c6e3fe2b1907d4f734f2c932dc2d5fe76d3eb980f0835b0714608") false
    scanOther_holds (fun _ h => by cases h) (by kernel_rfl) (fun _ h => by cases h) scanOther_row_tie rfl ⟨rfl, rfl⟩ (by kernel_rfl) rfl
    (fun f fn hf hfn => by
      obtain rfl : f = 11 := Option.some.inj ((show Tryd.prog.funcNamed "flashcache/flashcachelaw15.ScanOther" = some 11 by kernel_rfl).symm.trans hf) |>.symm
      obtain rfl : fn = Tryd.f11 := (Option.some.inj (Tryd.func11.symm.trans hfn)).symm
      exact ⟨by kernel_rfl, fun j t ht => by
        have ht : (#[65, 3] : Array TypeId)[j]? = some t := ht
        have hm : t ∈ [65, 3] := by simpa using Array.mem_of_getElem? ht
        have hall : ([65, 3].all fun u => !Tryd.prog.wantsStandIn u) = true := by kernel_rfl
        exact (show Tryd.prog.wantsStandIn t = false by simpa using List.all_eq_true.1 hall t hm)⟩)
    (by kernel_rfl)
end Go.Proofs.YtlndakkehobnpaaDoor

