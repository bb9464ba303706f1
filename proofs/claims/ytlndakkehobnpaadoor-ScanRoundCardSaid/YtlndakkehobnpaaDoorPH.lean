/- ScanRegion: the walk. Joined texts, each with what its own name promises; no condition beyond those stated. -/
import Derived.Test.YtlndakkehobnpaaDoorPG
namespace Go.Abs
/-- The layouts of the scan laws. -/
structure LyOk (l : La) (R : Nat) : Prop where
  rs : l.rs = (R : Int)
  two : 2 ≤ R ∧ R ≤ 16
  id : l.id = 3
  ver : l.ver = 1 ∨ l.ver = 2
  form : formB l = true
  regs : l.regs = 4
theorem lay_ok (ver log : Int) : ∃ l R, LyOk l R ∧ ∀ X, ACalls (E0 X) 47 [.int .i64 ver, .int .i64 log] [] (fun r H' => r = laA l ∧ H' = []) := by
  obtain ⟨a, b, ha, hb, h⟩ := lay14_c ver log
  refine ⟨la14 a b, 2 ^ (b + 1), ⟨rfl, ?_, rfl, ?_, la14_form ha hb, rfl⟩, h⟩
  · rcases (show b = 0 ∨ b = 1 ∨ b = 2 ∨ b = 3 by omega) with rfl | rfl | rfl | rfl <;> decide
  · rcases (show a = 0 ∨ a = 1 by omega) with rfl | rfl
    · exact .inl rfl
    · exact .inr rfl
theorem LyOk.slot {l : La} {R : Nat} (h : LyOk l R) {k : Int} (h0 : 0 ≤ k) (h1 : k < 4) : slotOk l k := ⟨h.form, h0, by rw [h.regs]; exact h1⟩
theorem written_at (X : Nat → Prop) (ver log : Int) (l : La) (R : Nat) (hl : LyOk l R) (hlay : ∀ X, ACalls (E0 X) 47 [.int .i64 ver, .int .i64 log] [] (fun r H' => r = laA l ∧ H' = []))
    (rs : List Rec) (pads : List Bool) (sp : List Sp) (hrs : rs.length ≤ maxLen) (hsp : sp.length ≤ maxLen) (hkey : ∀ r ∈ rs, r.key.length ≤ maxLen ∧ r.val.length ≤ maxLen) (H : Hp) :
    ACalls (E0 X) 40 [.int .i64 ver, .int .i64 log, .sl 4 (rs.map recA), .sl 1 (pads.map boA), .sl 2 (sp.map spA)] H (fun q H' => (∃ img, WrI l sp img ∧ q = .tup [.sl 1 (img.map u8A), laA l, .int .i64 9]) ∧ H' = H) :=
  acalls_pureE (E := E0 X) (P := fun q => ∃ img, WrI l sp img ∧ q = .tup [.sl 1 (img.map u8A), laA l, .int .i64 9]) (fun X => written_x X ver log l R hlay hl.rs hl.two hl.id hl.ver rs pads sp hrs hsp hkey)
    (by rintro r ⟨img, -, rfl⟩; exact ⟨idsL_map fun _ => u8A_ids, laA_ids, trivial, trivial⟩) ⟨trivial, trivial, idsL_map fun _ => recA_ids, idsL_map fun _ => boA_ids, idsL_map fun _ => spA_ids, trivial⟩ H
theorem csA_ids {c : Cs} {n : Nat} : IdsLtL n (csL c) := ⟨trivial, trivial, idsL_map fun _ => recA_ids, idsL_map fun _ => boA_ids, idsL_map fun _ => spA_ids, trivial, trivial⟩
attribute [local irreducible] AStep aops AWp Nx awM
set_option maxHeartbeats 0 in
set_option maxRecDepth 100000 in
theorem scanRegion_c (X : Nat → Prop) (c : Cs) (hc : CsOk c) : ACalls (E0 X) 9 [.agg (csL c)] [] (fun r H' => r = .bool true ∧ H' = []) := by
  refine ACalls.cut0 ?_ trivial
  obtain ⟨l, R, hl, hlay⟩ := lay_ok c.ver c.log
  have hwr := written_at X c.ver c.log l R hl hlay c.rs c.pads c.sp hc.rs hc.sp hc.key
  have hR2 := hl.two
  have hRn : l.rs.toNat = R := by rw [hl.rs]; exact Int.toNat_natCast R
  show ACalls (E0 X) _ [.agg [.int .i64 c.ver, .int .i64 c.log, .sl 4 (c.rs.map recA), .sl 1 (c.pads.map boA), .sl 2 (c.sp.map spA), .int .i64 c.more]] [] _
  refine acalls_of Proofs.Tryd.func9 rfl Proofs.Tryd.ntmps9 (by kernel_rfl) rfl ?_
  intro hH hargs
  clear hH hargs
  repeat' (refine Ql ?_)
  refine Qo rfl ?_
  repeat' (first | ((refine Qa rfl ?_); (first | refine Q1 ?_ | refine QK rfl ?_); (refine QX rfl rfl ?_)) | refine Qh ?_ | refine Ql ?_)
  refine awp_pre (Imp.trans (imp_freezeP (id := 0) (cs := csL c) rfl) (imp_cutk 0 (Nat.zero_le _) hok_nil rfl (Nat.zero_le _) (sl' := [(1, .fp [.int .i64 c.ver, .int .i64 c.log, .sl 4 (c.rs.map recA), .sl 1 (c.pads.map boA), .sl 2 (c.sp.map spA), .int .i64 c.more])]) ?_)) ?_
  · exact fa_cons ⟨rfl, csA_ids⟩ fa_nil
  repeat' (first | ((refine Qa rfl ?_); (first | refine Q3 rfl rfl rfl ?_ | refine Q4 rfl rfl rfl rfl rfl ?_); (refine QX rfl rfl ?_)) | refine Qa rfl ?_ | refine Qo rfl ?_)
  refine st_call (fun _ => rfl) rfl ?_
  refine ACalls.mono (hwr _) ?_
  rintro r H' ⟨⟨img, hwi, rfl⟩, rfl⟩
  first | refine nx rfl rfl ?_ | refine nx0 ?_
  repeat' (first | ((refine Qa rfl ?_); (first | refine Q0 ?_ | refine Q1 ?_ | refine QC rfl rfl ?_ | refine QJ rfl rfl ?_); (refine QX rfl rfl ?_)) | (refine Qb rfl ?_; try (refine QS rfl rfl rfl rfl rfl rfl rfl ?_; (refine QX rfl rfl ?_))) | refine Qh ?_ | refine Ql ?_)
  refine awp_pre (Imp.trans (imp_freezeP (id := 0) (cs := [.int .i64 l.id, .int .i64 l.ver, .int .i64 l.rs, .int .i64 l.regs]) rfl) (imp_cutk 0 (Nat.zero_le _) hok_nil rfl (Nat.zero_le _) (sl' := [(1, .fp [.int .i64 c.ver, .int .i64 c.log, .sl 4 (c.rs.map recA), .sl 1 (c.pads.map boA), .sl 2 (c.sp.map spA), .int .i64 c.more]), (3, .sl 1 (img.map u8A)), (4, .fp [.int .i64 l.id, .int .i64 l.ver, .int .i64 l.rs, .int .i64 l.regs]), (5, .int .i64 9)]) ?_)) ?_
  · exact fa_cons ⟨rfl, csA_ids⟩ (fa_cons ⟨rfl, idsL_map fun _ => u8A_ids⟩ (fa_cons ⟨rfl, ⟨trivial, trivial, trivial, trivial, trivial⟩⟩ (fa_cons ⟨rfl, trivial⟩ fa_nil)))
  have hil : img.length = (74 + 4 * R) * 64 := by have := hwi.1; rw [hRn] at this; exact this
  have hlo : LoadOk img.length := ⟨by omega, by omega, by omega⟩
  have hld : ACalls (E0 X) 30 [.sl 1 (img.map u8A)] [] (fun r H' => r = .ptr 0 0 ∧ H' = devH (Dv.fresh img)) := (load_at X [] (.sl 1 (img.map u8A)) img (by omega) rfl).mono fun r H' h => by
    rcases h with ⟨_, h1, h2⟩ | ⟨h1, _⟩
    · exact ⟨h1, h2⟩
    · exact absurd hlo h1
  have hlv : Lv ((74 + 4 * R) * 64) (Dv.fresh img) := ⟨inv_fresh hlo, rfl, rfl, hil⟩
  have hvi : (Dv.fresh img).image = img := rfl
  have hhd := fun slot R => dev_l (fun X => scanH_c X (Dv.fresh img) hlv.inv l slot) ⟨laA_ids, trivial, trivial⟩ (by exact ⟨hdA_ids, trivial, trivial⟩) R (X := X)
  have hrh := fun slot X => hdrR_c X img (by omega) l slot
  have hhe := fun slot => scanH_eq hlv l slot
  rw [hvi] at hhe
  have hok := hok_dev (Dv.fresh img)
  repeat' (first | ((refine Qa rfl ?_); (refine Q0 ?_); (refine QX rfl rfl ?_)) | refine Qa rfl ?_ | refine Qo rfl ?_)
  refine st_call (fun _ => rfl) rfl ?_
  refine ACalls.mono (hld) ?_
  rintro r H' ⟨rfl, rfl⟩
  first | refine nx rfl rfl ?_ | refine nx0 ?_
  repeat' (first | ((refine Qa rfl ?_); (refine Q1 ?_); (refine QX rfl rfl ?_)) | refine Qh ?_ | refine Ql ?_ | refine Qn ?_ | refine Qo rfl ?_)
  have hmo : ∃ n : Nat, IntKind.i64.wrap (9 + c.more.tmod 3) = (n : Int) ∧ 7 ≤ n ∧ n ≤ 11 := by
    have h1 : c.more.tmod 3 < 3 := Int.tmod_lt_of_pos _ (by decide)
    have h2 : -3 < c.more.tmod 3 := by
      have h0 := Int.tmod_lt_of_pos (-c.more) (b := 3) (by decide)
      rw [Int.neg_tmod] at h0
      omega
    exact ⟨(9 + c.more.tmod 3).toNat, by rw [wrap_in (by omega) (by omega)]; omega, by omega, by omega⟩
  obtain ⟨n, hn, hn7, hn11⟩ := hmo
  have hrg := fun q (h1 : 1 ≤ q) (h2 : q ≤ 281474976710655) R => dev_l (fun X => sregion_c X (Dv.fresh img) hlv.inv l 1 q (hl.slot (by decide) (by decide)) h1 h2) ⟨laA_ids, trivial, trivial, trivial⟩ (by exact idsL_map fun _ => foA_ids) R (X := X)
  have hrr := fun q (h1 : 1 ≤ q) (h2 : q ≤ 281474976710655) X => rregion_c X img (by omega) l 1 q (hl.slot (by decide) (by decide)) hl.ver h1 h2
  have hst := fun q => strF_strR hlv q (l.rs.toNat - 1) ((74 + 1 * l.rs).toNat + 1)
  rw [hvi] at hst
  have hfe : ∀ q X, ACalls (E0 X) 44 _ _ _ := fun q X => feq_c X (recs l.ver q (strR img q (l.rs.toNat - 1) ((74 + 1 * l.rs).toNat + 1))) (by
    have h1 := recs_len (ver := l.ver) (seq := q) (b := strR img q (l.rs.toNat - 1) ((74 + 1 * l.rs).toNat + 1))
    have h2 := strR_len img q (l.rs.toNat - 1) ((74 + 1 * l.rs).toNat + 1)
    omega) recs_ok
  have h9 := hrg 9 (by decide) (by decide)
  have hn9 := hrg n (by omega) (by omega)
  have r9 := hrr 9 (by decide) (by decide)
  have rn9 := hrr n (by omega) (by omega)
  rw [hst] at h9 hn9
  have e9 := hfe 9
  have en := hfe n
  clear hrg hrr hfe hst
  generalize recs l.ver 9 (strR img 9 (l.rs.toNat - 1) ((74 + 1 * l.rs).toNat + 1)) = q9 at *
  generalize recs l.ver n (strR img n (l.rs.toNat - 1) ((74 + 1 * l.rs).toNat + 1)) = qn at *
  generalize Dv.fresh img = v at *
  refine awp_loop2 (fun k : Nat => ⟨[(1, .fp [.int .i64 c.ver, .int .i64 c.log, .sl 4 (c.rs.map recA), .sl 1 (c.pads.map boA), .sl 2 (c.sp.map spA), .int .i64 c.more]), (3, .sl 1 (img.map u8A)), (4, .fp [.int .i64 l.id, .int .i64 l.ver, .int .i64 l.rs, .int .i64 l.regs]), (5, .int .i64 9), (6, .ptr 0 0), (7, .int .i64 ((k : Int) - 1))], devH v⟩) (fun k => k ≤ 6) (fun k => 6 - k) 0 (Nat.zero_le _) ?_ ?_
  · refine imp_cutk 3 (Nat.zero_le _) hok rfl (by simp) ?_
    refine fa_cons ⟨rfl, csA_ids⟩ (fa_cons ⟨rfl, idsL_map fun _ => u8A_ids⟩ (fa_cons ⟨rfl, ⟨trivial, trivial, trivial, trivial, trivial⟩⟩ (fa_cons ⟨rfl, trivial⟩ (fa_cons ⟨rfl, by simp [IdsLt]⟩ (fa_cons ⟨rfl, trivial⟩ fa_nil)))))
  rintro k hk0
  have hk : k ≤ 6 := hk0
  clear hk0
  have hkw : IntKind.i64.wrap ((k : Int) - 1 + 1) = ((k + 1 : Nat) : Int) - 1 := wrap_eq (by omega) (by omega) (by omega)
  repeat' (first | ((refine Qa rfl ?_); (first | refine Q0 ?_ | refine Q2 rfl ?_); (refine QX rfl rfl ?_)) | refine Qh ?_ | refine Ql ?_ | refine Qo rfl ?_ | refine Qs ?_)
  by_cases h5 : k ≤ 5
  · rw [decide_eq_true (show ((k : Int) - 1) ≤ 4 by omega)]
    have hmu : 6 - (k + 1) < 6 - k := by omega
    have hs1 := hhd ((k : Int) - 1)
    have hs2 := hrh ((k : Int) - 1)
    rw [hhe] at hs1
    generalize hdrR img l ((k : Int) - 1) = o at *
    repeat' (first | ((refine Qa rfl ?_); (first | refine Q0 ?_ | refine Q3 rfl rfl rfl ?_); (refine QX rfl rfl ?_)) | refine Qa rfl ?_ | refine Ql ?_ | refine Qm ?_ | refine Qn ?_ | refine Qo rfl ?_ | refine Qp rfl ?_)
    refine st_call (fun _ => rfl) rfl ?_
    refine ACalls.mono (hs1 _) ?_
    rintro r H' ⟨rfl, rfl⟩
    first | refine nx rfl rfl ?_ | refine nx0 ?_
    repeat' (first | ((refine Qa rfl ?_); (first | refine Q0 ?_ | refine Q1 ?_ | refine Q3 rfl rfl rfl ?_ | refine QC rfl rfl ?_ | refine QJ rfl rfl ?_); (refine QX rfl rfl ?_)) | refine Qa rfl ?_ | (refine Qb rfl ?_; try (refine QS rfl rfl rfl rfl rfl rfl rfl ?_; (refine QX rfl rfl ?_))) | refine Qh ?_ | refine Ql ?_ | refine Qo rfl ?_)
    refine st_call (fun _ => rfl) rfl ?_
    refine ACalls.mono (acalls_pure (E := E0 X) (fun X => hs2 X) (by simp [IdsLtL, IdsLt]) _) ?_
    rintro r H' ⟨rfl, rfl⟩
    first | refine nx rfl rfl ?_ | refine nx0 ?_
    repeat' (first | ((refine Qa rfl ?_); (first | refine Q0 ?_ | refine Q1 ?_ | refine QC rfl rfl ?_ | refine QI rfl rfl rfl ?_ | refine QJ rfl rfl ?_); (refine QX rfl rfl ?_)) | (refine Qb rfl ?_; try (refine QS rfl rfl rfl rfl rfl rfl rfl ?_; (refine QX rfl rfl ?_))) | refine Qh ?_ | refine Ql ?_ | refine Qo rfl ?_)
    rw [show (!(o.isSome == o.isSome)) = false by cases o.isSome <;> rfl]
    repeat' (first | ((refine Qa rfl ?_); (first | refine Q3 rfl rfl rfl ?_ | refine Q5 rfl ?_ | refine QI rfl rfl rfl ?_); (refine QX rfl rfl ?_)) | refine Qh ?_ | refine Qs ?_)
    refine awp_cond rfl (fun hb => ?_) (fun _ => ?_)
    · exfalso
      revert hb
      simp
    repeat' (first | ((refine Qa rfl ?_); (first | refine Q0 ?_ | refine Q1 ?_ | refine Q2 rfl ?_); (refine QX rfl rfl ?_)) | refine Qh ?_ | refine Qm ?_ | refine Qo rfl ?_ | refine Qs ?_)
    rw [hkw]
    refine ⟨k + 1, by omega, hmu, ?_⟩
    refine imp_cutk 3 (Nat.zero_le _) hok rfl (by simp) ?_
    refine fa_cons ⟨rfl, csA_ids⟩ (fa_cons ⟨rfl, idsL_map fun _ => u8A_ids⟩ (fa_cons ⟨rfl, ⟨trivial, trivial, trivial, trivial, trivial⟩⟩ (fa_cons ⟨rfl, trivial⟩ (fa_cons ⟨rfl, by simp [IdsLt]⟩ (fa_cons ⟨rfl, trivial⟩ fa_nil)))))
  · rw [decide_eq_false (show ¬ ((k : Int) - 1) ≤ 4 by omega)]
    repeat' (first | ((refine Qa rfl ?_); (first | refine Q0 ?_ | refine Q1 ?_ | refine Q2 rfl ?_ | refine Q3 rfl rfl rfl ?_ | refine Q4 rfl rfl rfl rfl rfl ?_ | refine QB rfl rfl (by decide) ?_); (refine QX rfl rfl ?_)) | refine Qh ?_ | refine Ql ?_ | refine Qo rfl ?_ | refine Qq rfl ?_ | refine Qr ?_)
    rw [hn]
    refine awp_region_auto2 [] [] (by exact rfl) (by kernel_rfl) ?_
    skip
    apply ds rfl rfl rfl rfl
    · refine st_call (fun _ => rfl) rfl ?_
      refine ACalls.mono (acalls_pure (E := E0 X) (fun X => sawake_c X) (by simp [IdsLtL]) _) ?_
      rintro r H' ⟨rfl, rfl⟩
      first
      | exact nx rfl rfl ⟨rfl, rfl⟩
      | exact nx0 ⟨rfl, rfl⟩
    repeat' ((apply Qd rfl rfl rfl rfl); (first | refine Q0 ?_ | refine Q3 rfl rfl rfl ?_); (exact QX rfl rfl ⟨rfl, rfl⟩))
    apply ds rfl rfl rfl rfl
    · refine st_call (fun _ => rfl) rfl ?_
      refine ACalls.mono (h9 []) ?_
      rintro r H' ⟨rfl, rfl⟩
      first
      | exact nx rfl rfl ⟨rfl, rfl⟩
      | exact nx0 ⟨rfl, rfl⟩
    repeat' ((apply Qd rfl rfl rfl rfl); (first | refine Q0 ?_ | refine Q3 rfl rfl rfl ?_); (exact QX rfl rfl ⟨rfl, rfl⟩))
    apply ds rfl rfl rfl rfl
    · refine st_call (fun _ => rfl) rfl ?_
      refine ACalls.mono (acalls_pure (E := E0 X) r9 ⟨idsL_map fun _ => u8A_ids, laA_ids, trivial, trivial, trivial⟩ _) ?_
      rintro r H' ⟨rfl, rfl⟩
      first
      | exact nx rfl rfl ⟨rfl, rfl⟩
      | exact nx0 ⟨rfl, rfl⟩
    skip
    apply ds rfl rfl rfl rfl
    · refine st_call (fun _ => rfl) rfl ?_
      refine ACalls.mono (acalls_pure (E := E0 X) e9 ⟨idsL_map fun _ => foA_ids, idsL_map fun _ => foA_ids, trivial⟩ _) ?_
      rintro r H' ⟨rfl, rfl⟩
      first
      | exact nx rfl rfl ⟨rfl, rfl⟩
      | exact nx0 ⟨rfl, rfl⟩
    repeat' ((apply Qd rfl rfl rfl rfl); (first | refine Q0 ?_ | refine Q3 rfl rfl rfl ?_ | refine Q5 rfl ?_); (exact QX rfl rfl ⟨rfl, rfl⟩))
    apply ds rfl rfl rfl rfl
    · refine st_call (fun _ => rfl) rfl ?_
      refine ACalls.mono (hn9 []) ?_
      rintro r H' ⟨rfl, rfl⟩
      first
      | exact nx rfl rfl ⟨rfl, rfl⟩
      | exact nx0 ⟨rfl, rfl⟩
    repeat' ((apply Qd rfl rfl rfl rfl); (first | refine Q0 ?_ | refine Q3 rfl rfl rfl ?_); (exact QX rfl rfl ⟨rfl, rfl⟩))
    apply ds rfl rfl rfl rfl
    · refine st_call (fun _ => rfl) rfl ?_
      refine ACalls.mono (acalls_pure (E := E0 X) rn9 ⟨idsL_map fun _ => u8A_ids, laA_ids, trivial, trivial, trivial⟩ _) ?_
      rintro r H' ⟨rfl, rfl⟩
      first
      | exact nx rfl rfl ⟨rfl, rfl⟩
      | exact nx0 ⟨rfl, rfl⟩
    skip
    apply ds rfl rfl rfl rfl
    · refine st_call (fun _ => rfl) rfl ?_
      refine ACalls.mono (acalls_pure (E := E0 X) en ⟨idsL_map fun _ => foA_ids, idsL_map fun _ => foA_ids, trivial⟩ _) ?_
      rintro r H' ⟨rfl, rfl⟩
      first
      | exact nx rfl rfl ⟨rfl, rfl⟩
      | exact nx0 ⟨rfl, rfl⟩
    repeat' (first | ((apply Qd rfl rfl rfl rfl); (first | refine Q1 ?_ | refine Q5 rfl ?_); (exact QX rfl rfl ⟨rfl, rfl⟩)) | refine Qk ?_ | refine Qs ?_)
    refine awp_ret ?_
    exact ⟨_, rfl, rfl⟩
end Go.Abs
namespace Go.Proofs.YtlndakkehobnpaaDoor
open Go.Abs Go.RowKit Go.ChangeShapes Go.WideShapes
set_option maxRecDepth 100000 in
theorem scanRegionLifted (os : Os) (started : os.Started) (H : Type) (enc : TypeId × Value → H) :
    ReturnsInHanded {} Tryd.checked os 9 .any (fun w args => (Rows.scanRegionSpec.pre enc Tryd.prog Tryd.f9 [] false w args ∧ laidMetH Tryd.prog [("flashcache/crc.table", Rows.laid_flashcache_crc_table)] w) ∧ sizedMet enc Tryd.prog Tryd.f9 (OpenSpec.ofChange Rows.scanRegionSpec) false w args)
      (Rows.scanRegionSpec.post enc Tryd.prog Tryd.f9 false Rows.scanRegionRow.fresh Rows.scanRegionRow.handsOn Rows.scanRegionRow.again) := by
  refine returnsInHanded_of_change_and (C := Tryd.checked) (X := fun w _ => laidMetH Tryd.prog [("flashcache/crc.table", Rows.laid_flashcache_crc_table)] w) (fun _ _ _ hh h => h.of_heap hh) own0 started (by kernel_rfl) Tryd.func9
    (ChangeSpec.witness_shaped (enc := enc) (C := Tryd.checked) (os := os) (X := fun w _ => laidMetH Tryd.prog [("flashcache/crc.table", Rows.laid_flashcache_crc_table)] w) false (World.doorLaid Tryd.prog 400 os) #[.agg #[.int .i64 0, .int .i64 0, .slice none 0 0, .slice none 0 0, .slice none 0 0, .int .i64 0]] 8 rfl (World.shaped_of_RefB (by kernel_rfl) (by kernel_rfl)) (by kernel_rfl) (by kernel_rfl) (by kernel_rfl) (door_met os _)) ?_
  intro W base args ds gs before hval0 hW _ _ hL _
  have hval : ∀ (j : Nat) t v, Tryd.f9.params[j]? = some t → args[j]? = some v → Value.okWide Tryd.prog W .any base t v := hval0
  have hW2 := hW
  obtain ⟨p, q, hA0, hV, _, _, _⟩ := hW2
  have hA : DataW.TrodAll enc Tryd.prog W 0 (fun _ => true) true [65] args.toList ds p := hA0
  obtain ⟨rfl, rfl⟩ := trodVars_none hV
  obtain ⟨v0, d0, rfl, rfl, t0⟩ := trodAll_one hA
  obtain ⟨x0, r0, c0⟩ := arg_avS (E := E0 fun _ => False) (E0_ok _) (fun _ h => h) (f := 5) rfl rfl (hval 0 65 v0 rfl rfl) t0
  obtain ⟨l0, rfl, h0⟩ := case_of c0
  exact law_trueG (E := E0 fun _ => False) (avs := [.agg (csL l0)]) (tb := 4) (E0_ok _) (glob_of_laid hL) (by kernel_rfl) rfl (by kernel_rfl) (by kernel_rfl) (by kernel_rfl) rfl rfl rfl hW (fun _ h => h)
    (RelL.cons r0 (by simp [Abs.RelL])) (scanRegion_c _ l0 h0)
theorem scanRegion_holds : Rows.ScanRegionSaid :=
  OpenClaim.holds_of_wide 9 Tryd.f9 rfl rfl rfl rfl rfl rfl rfl ⟨rfl, rfl, rfl, rfl, rfl⟩ rfl rfl rfl rfl rfl (by kernel_rfl) Tryd.func9 (by kernel_rfl)
    (of_decide_eq_true (by kernel_rfl)) (by unfold Func.isWrapper; rw [if_neg (of_decide_eq_false (by kernel_rfl))]; exact ⟨rfl, rfl⟩)
    (fun os started H enc _ => scanRegionLifted os started H enc)
theorem scanRegion_card : Rows.ScanRegionCardSaid :=
  Claim7.holds_tied_plain_at .later [] [.data] true (true, "ef1fa8f3014c6e3fe2b1907d4f734f2c932dc2d5fe76d3eb980f0835b0714608") false
    scanRegion_holds (fun _ h => by cases h) (by kernel_rfl) (fun _ h => by cases h) scanRegion_row_tie rfl ⟨rfl, rfl⟩ (by kernel_rfl) rfl
    (fun f fn hf hfn => by
      obtain rfl : f = 9 := Option.some.inj ((show Tryd.prog.funcNamed "flashcache/flashcachelaw15.ScanRegion" = some 9 by kernel_rfl).symm.trans hf) |>.symm
      obtain rfl : fn = Tryd.f9 := (Option.some.inj (Tryd.func9.symm.trans hfn)).symm
      exact ⟨by kernel_rfl, fun j t ht => by
        have ht : (#[65] : Array TypeId)[j]? = some t := ht
        have hm : t ∈ [65] := by simpa using Array.mem_of_getElem? ht
        have hall : ([65].all fun u => !Tryd.prog.wantsStandIn u) = true := by kernel_rfl
        exact (show Tryd.prog.wantsStandIn t = false by simpa using List.all_eq_true.1 hall t hm)⟩)
    (by kernel_rfl)
end Go.Proofs.YtlndakkehobnpaaDoor

