/- ScanPrefix: the walk. Joined texts, each with what its own name promises; no condition beyond those stated. -/
import Derived.Test.YtlndakkehobnpaaDoorPK
namespace Go.Abs
attribute [local irreducible] AStep aops AWp Nx awM
set_option maxHeartbeats 0 in
set_option maxRecDepth 100000 in
theorem scanPrefix_c (X : Nat → Prop) (c : Cs) (hc : CsOk c) (keep : List Bool) (hke : keep.length ≤ maxLen) : ACalls (E0 X) 15 [.agg (csL c), .sl 1 (keep.map boA)] [] (fun r H' => r = .bool true ∧ H' = []) := by
  refine ACalls.cut0 ?_ trivial
  obtain ⟨l, R, hl, hlay⟩ := lay_ok c.ver c.log
  have hR2 := hl.two
  have hR := hl.rs
  have hRn : l.rs.toNat = R := by rw [hl.rs]; exact Int.toNat_natCast R
  have wr : ∀ x : Int, 0 ≤ x → x ≤ 1000000 → IntKind.i64.wrap x = x := fun x a b => wrap_in (by omega) (by omega)
  have w1 : IntKind.i64.wrap (74 + IntKind.i64.wrap (4 * l.rs)) = ((74 + 4 * R : Nat) : Int) := by rw [hR, wr (4 * (R : Int)) (by omega) (by omega), wr _ (by omega) (by omega)]; omega
  have hlz := lv_new2 (74 + 4 * R) (by omega) (by omega)
  have hhd : hdB (h3 l) = true := by
    unfold h3
    rw [hl.id]
    rcases hl.ver with h | h <;> rw [h] <;> kernel_rfl
  have hsl : slotOk l (h3 l).slot := hl.slot (k := 3) (by decide) (by decide)
  have hF : 74 + (h3 l).slot * l.rs = ((74 + 3 * R : Nat) : Int) := by
    show 74 + 3 * l.rs = _
    rw [hR]; omega
  have hop := ropen_c X _ _ hlz l (h3 l) (74 + 3 * R) 4 hsl hhd rfl rfl rfl hF (by omega) (by omega)
  have hlv1 := (hlz.put (k := 74 + 3 * R) (by omega) (b := encH (h3 l) (74 + 3 * R)) (by rw [encH_len]; decide)).clean
  have hrg1 : RgI ({ (Dv.fresh (List.replicate ((74 + 4 * R) * 64) 0)).put (74 + 3 * R) (encH (h3 l) (74 + 3 * R)) with old := [] } : Dv).image ((74 + 4 * R) * 64) (h3 l) (74 + 3 * R) 4 [] 0 := by
    show RgI ((Dv.fresh (List.replicate ((74 + 4 * R) * 64) 0)).put (74 + 3 * R) (encH (h3 l) (74 + 3 * R))).image _ _ _ _ _ _
    rw [put_image _ _ (encH_len _ _)]
    exact RgI.open (by omega)
  have hnw := new_at2 X (74 + 4 * R) (by omega) (by omega)
  have hk0 := hok_dev (Dv.fresh (List.replicate ((74 + 4 * R) * 64) 0))
  have hold : ({ (Dv.fresh (List.replicate ((74 + 4 * R) * 64) 0)).put (74 + 3 * R) (encH (h3 l) (74 + 3 * R)) with old := [] } : Dv).old = [] := rfl
  generalize ({ (Dv.fresh (List.replicate ((74 + 4 * R) * 64) 0)).put (74 + 3 * R) (encH (h3 l) (74 + 3 * R)) with old := [] } : Dv) = v1 at *
  generalize Dv.fresh (List.replicate ((74 + 4 * R) * 64) 0) = v0 at *
  have hrm : (c.rs.map recA).length = c.rs.length := List.length_map _
  have hpm : (c.pads.map boA).length = c.pads.length := List.length_map _
  show ACalls (E0 X) _ [.agg [.int .i64 c.ver, .int .i64 c.log, .sl 4 (c.rs.map recA), .sl 1 (c.pads.map boA), .sl 2 (c.sp.map spA), .int .i64 c.more], .sl 1 (keep.map boA)] [] _
  refine acalls_of Proofs.Tryd.func15 rfl Proofs.Tryd.ntmps15 (by kernel_rfl) rfl ?_
  intro hH hargs
  clear hH hargs
  repeat' (refine Ql ?_)
  refine Qo rfl ?_
  repeat' (first | ((refine Qa rfl ?_); (first | refine Q1 ?_ | refine QK rfl ?_); (refine QX rfl rfl ?_)) | refine Qh ?_ | refine Ql ?_)
  refine awp_pre (Imp.trans (imp_freezeP (id := 0) (cs := csL c) rfl) (imp_cutk 0 (Nat.zero_le _) hok_nil rfl (Nat.zero_le _) (sl' := [(1, .sl 1 (keep.map boA)), (2, .fp [.int .i64 c.ver, .int .i64 c.log, .sl 4 (c.rs.map recA), .sl 1 (c.pads.map boA), .sl 2 (c.sp.map spA), .int .i64 c.more])]) ?_)) ?_
  · exact fa_cons ⟨rfl, idsL_map fun _ => boA_ids⟩ (fa_cons ⟨rfl, csA_ids⟩ fa_nil)
  refine awp_region_auto2 [] [] (by exact rfl) (by kernel_rfl) ?_
  repeat' (first | ((first | refine Qa rfl ?_ | apply Qd rfl rfl rfl rfl); (first | refine Q1 ?_ | refine Q3 rfl rfl rfl ?_ | refine Q4 rfl rfl rfl rfl rfl ?_); (first | exact QX rfl rfl ⟨rfl, rfl⟩ | refine QX rfl rfl ?_)) | refine Qa rfl ?_ | refine Qk ?_ | refine Ql ?_ | refine Qo rfl ?_)
  refine st_call (fun _ => rfl) rfl ?_
  refine ACalls.mono (acalls_pure (E := E0 X) (fun X => hlay X) (by simp [IdsLtL, IdsLt]) _) ?_
  rintro r H' ⟨rfl, rfl⟩
  first | refine nx rfl rfl ?_ | refine nx0 ?_
  repeat' (first | ((refine Qa rfl ?_); (refine QJ rfl rfl ?_); (refine QX rfl rfl ?_)) | (refine Qb rfl ?_; try (refine QS rfl rfl rfl rfl rfl rfl rfl ?_; (refine QX rfl rfl ?_))) | refine Qh ?_ | refine Ql ?_)
  refine awp_pre (Imp.trans (imp_freezeP (id := 0) (cs := [.int .i64 l.id, .int .i64 l.ver, .int .i64 l.rs, .int .i64 l.regs]) rfl) (imp_cutk 0 (Nat.zero_le _) hok_nil rfl (Nat.zero_le _) (sl' := [(1, .sl 1 (keep.map boA)), (5, .sl 4 (c.rs.map recA)), (6, .sl 1 (c.pads.map boA)), (7, .fp [.int .i64 l.id, .int .i64 l.ver, .int .i64 l.rs, .int .i64 l.regs])]) ?_)) ?_
  · refine fa_cons ⟨rfl, idsL_map fun _ => boA_ids⟩ ?_
    exact fa_cons ⟨rfl, idsL_map fun _ => recA_ids⟩ (fa_cons ⟨rfl, idsL_map fun _ => boA_ids⟩ (fa_cons ⟨rfl, ⟨trivial, trivial, trivial, trivial, trivial⟩⟩ fa_nil))
  repeat' (first | ((refine Qa rfl ?_); (first | refine Q2 rfl ?_ | refine Q3 rfl rfl rfl ?_ | refine Q4 rfl rfl rfl rfl rfl ?_); (refine QX rfl rfl ?_)) | refine Qa rfl ?_ | refine Qo rfl ?_)
  rw [w1]
  refine st_call (fun _ => rfl) rfl ?_
  refine ACalls.mono (hnw) ?_
  rintro r H' ⟨rfl, rfl⟩
  first | refine nx rfl rfl ?_ | refine nx0 ?_
  repeat' (first | ((refine Qa rfl ?_); (first | refine Q0 ?_ | refine Q1 ?_ | refine Q3 rfl rfl rfl ?_ | refine Q4 rfl rfl rfl rfl rfl ?_ | refine QP rfl rfl rfl rfl rfl rfl ?_); (refine QX rfl rfl ?_)) | refine Qa rfl ?_ | refine Qh ?_ | refine Ql ?_ | refine Qo rfl ?_)
  refine st_call (fun _ => rfl) rfl ?_
  refine ACalls.mono (hop) ?_
  rintro r H' ⟨rfl, rfl⟩
  first | refine nx rfl rfl ?_ | refine nx0 ?_
  repeat' (first | ((refine Qa rfl ?_); (first | refine Q0 ?_ | refine Q1 ?_ | refine QC rfl rfl ?_); (refine QX rfl rfl ?_)) | refine Qh ?_ | refine Ql ?_)
  refine Qo rfl ?_
  repeat' (first | ((refine Qa rfl ?_); (first | refine Q0 ?_ | refine Q2 rfl ?_); (refine QX rfl rfl ?_)) | refine Qh ?_ | refine Ql ?_ | refine Qm ?_ | refine Qq rfl ?_)
  refine Qo rfl ?_
  repeat' (first | ((refine Qa rfl ?_); (refine Q1 ?_); (refine QX rfl rfl ?_)) | refine Qh ?_ | refine Ql ?_)
  refine Qo rfl ?_
  repeat' (first | ((refine Qa rfl ?_); (refine Q1 ?_); (refine QX rfl rfl ?_)) | refine Qh ?_ | refine Qs ?_)
  refine Ql ?_
  refine awp_midE (ι := Dv × List UInt8 × Nat × List (Nat × Rec) × Nat) (fun p => ⟨[(1, .sl 1 (keep.map boA)), (7, .fp [.int .i64 l.id, .int .i64 l.ver, .int .i64 l.rs, .int .i64 l.regs]), (8, .ptr 0 0), (9, .ptr 3 0), (11, .own 6 0 p.2.2.2.1.length), (12, .int .i64 (p.2.2.2.2 : Int))], rgH p.1 (h3 l) l (74 + 3 * R) 4 p.2.1 p.2.2.1 ++ [some (foR p.2.2.2.1)]⟩) (fun p => p.2.2.2.1.length ≤ 12 ∧ PX ((74 + 4 * R) * 64) (h3 l) l (74 + 3 * R) 4 p.1 p.2.1 p.2.2.1 p.2.2.2.1 p.2.2.2.2) ?_ ?_
  rotate_left
  · rintro ⟨v, s, t, ls, su⟩ ⟨hls0, hw0⟩
    have hls : ls.length ≤ 12 := hls0
    have hw : PX ((74 + 4 * R) * 64) (h3 l) l (74 + 3 * R) 4 v s t ls su := hw0
    clear hls0 hw0
    obtain ⟨k, hk1, hk2, hk3⟩ := hw.crash hR (by omega) hR2.1 (keep.take (min keep.length 20))
    have hky := strm_keys hw.pi.st
    have hcr := crash_kn2 X v hw.pi.lv.inv (keep.take (min keep.length 20)) [] [some (foR ls)] 0 rfl
    have hci := inv_crash hw.pi.lv.inv (keep.take (min keep.length 20)) []
    generalize v.crash (keep.take (min keep.length 20)) [] = vc at *
    have hrg := fun A Q hA => dev_at (fun X => sregion_c X vc hci l 3 4 (hl.slot (by decide) (by decide)) (by decide) (by decide)) ⟨laA_ids, trivial, trivial, trivial⟩ (by exact idsL_map fun _ => foA_ids) A Q 4 hA (X := X)
    rw [show (74 + 3 * l.rs).toNat + 1 = 74 + 3 * R + 1 by omega, hk3] at hrg
    have hgl : ((ls.take k).map foA).length = k := by simp; omega
    have hwl : (ls.map foA).length = ls.length := List.length_map _
    have haw := fun X => sawake_c X
    have heq : ∀ H y, srcA (E0 X) H 6 y = some ((ls.take k).map foA) → ACalls (E0 X) 44 [.sl 6 ((ls.take k).map foA), y] H (fun r H' => r = .bool true ∧ H' = H) := fun H y hy =>
      acalls_borrow (E := E0 X) (fun X => feq_c X (ls.take k) (by simp; omega) fun p hp => hky p (List.mem_of_mem_take hp)) rfl (Bor.same (idsL_map fun _ => foA_ids) (Bor.sl (idsL_map fun _ => foA_ids) hy .nil))
    show AWp _ _ _ _ _ ⟨[(1, .sl 1 (keep.map boA)), (7, .fp [.int .i64 l.id, .int .i64 l.ver, .int .i64 l.rs, .int .i64 l.regs]), (8, .ptr 0 0), (9, .ptr 3 0), (11, .own 6 0 ls.length), (12, .int .i64 (su : Int))], rgH v (h3 l) l (74 + 3 * R) 4 s t ++ [some (foR ls)]⟩
    refine awp_pre (imp_tid 3 [6] (H' := devH v ++ [some (foR ls)]) (sl' := [(1, .sl 1 (keep.map boA)), (7, .fp [.int .i64 l.id, .int .i64 l.ver, .int .i64 l.rs, .int .i64 l.regs]), (8, .ptr 0 0), (11, .own 3 0 ls.length), (12, .int .i64 (su : Int))]) (os := [foR ls]) (Nat.zero_le _) ?_ ?_ ?_ ?_ rfl ?_ ?_ ?_) ?_
    · simp [rgH, devH]
    · simp
    · simp
    · exact hok_dev v
    · rfl
    · refine fa_cons (ren_lt rfl (idsL_map fun _ => boA_ids)) ?_
      refine fa_cons (ren_lt rfl ⟨trivial, trivial, trivial, trivial, trivial⟩) ?_
      repeat' (first
        | exact fa_nil
        | exact os_nil
        | exact RenL.nil
        | refine fa_cons ?_ ?_
        | refine os_cons rfl (renO_cells ?_) ?_
        | refine os_cons rfl (renO_old 0 (fun i h => absurd h (Nat.not_lt_zero i)) (by simp [IdsLtO, IdsLtL, IdsLt])) ?_
        | refine RenL.cons ?_ ?_
        | exact ren_own rfl
        | exact ren_ptr rfl
        | exact ren_mp rfl
        | exact ren_lt rfl (by first | trivial | (simp [IdsLt, IdsLtL]; done)))
    · exact os_cons rfl (renO_old 0 (fun i h => absurd h (Nat.not_lt_zero i)) (idsL_map fun _ => foA_ids)) os_nil
    repeat' (refine Ql ?_)
    refine awp_region_any [6] [0, 1, 2, 3, 4, 5, 7, 9] (by exact rfl) ?_
    refine any_lin (fuel := 0) [0, 1, 2, 3, 4, 5, 7, 6, 8, 9] (by exact rfl) (by kernel_rfl) (by kernel_rfl) ?_
    repeat' ((apply Qe rfl rfl rfl rfl; intro H9); (first | refine Q0 ?_ | refine Q7 rfl rfl rfl ?_ | refine QE rfl rfl ?_); (exact QY rfl ⟨rfl, rfl⟩))
    apply ds_soN rfl rfl rfl rfl
    · intro H9
      refine st_sls (l := 0) (h := min keep.length 20) (ys := keep.take (min keep.length 20)) (bnd_none) (bnd_some rfl (by rw [List.length_map]; omega)) (by omega) (by omega) (by rw [List.drop_zero]) rfl rfl rfl rfl rfl ?_
      exact nx0 ⟨rfl, rfl⟩
    repeat' ((first | refine Qc rfl rfl rfl ?_ | (apply Qe rfl rfl rfl rfl; intro H9)); (refine Q3 rfl rfl rfl ?_); (exact QY rfl ⟨rfl, rfl⟩))
    refine ds_ef rfl rfl rfl ?_
    refine st_call (fun _ => rfl) rfl ?_
    refine ACalls.mono (hcr) ?_
    rintro r H' ⟨rfl, rfl⟩
    first | refine nx rfl rfl ?_ | refine nx0 ?_
    skip
    apply ds rfl rfl rfl rfl
    · refine st_call (fun _ => rfl) rfl ?_
      refine ACalls.mono (hrg (devH v ++ [some (foR ls)]) [] rfl) ?_
      rintro r H' ⟨rfl, rfl⟩
      first
      | exact nx rfl rfl ⟨rfl, rfl⟩
      | exact nx0 ⟨rfl, rfl⟩
    repeat' (first | ((first | refine Qa rfl ?_ | (apply Qe rfl rfl rfl rfl; intro H9)); (refine Q1 ?_); (exact QY rfl ⟨rfl, rfl⟩)) | refine Qa rfl ?_ | refine Qk ?_ | refine Ql ?_ | refine Qo rfl ?_ | refine Qw (by kernel_rfl) ?_)
    refine st_call (fun _ => rfl) rfl ?_
    refine ACalls.mono (acalls_pure (E := E0 X) (fun X => haw X) (by simp [IdsLtL, IdsLt]) _) ?_
    rintro r H' ⟨rfl, rfl⟩
    first | refine nx rfl rfl ?_ | refine nx0 ?_
    repeat' ((refine Qa rfl ?_); (first | refine Q0 ?_ | refine Q2 rfl ?_ | refine Q5 rfl ?_ | refine Q7 rfl rfl rfl ?_); (refine QX rfl rfl ?_))
    rw [decide_eq_true (show (su : Int) ≤ (((ls.take k).map foA).length : Int) by rw [hgl]; omega)]
    repeat' ((refine Qa rfl ?_); (first | refine Q0 ?_ | refine Q2 rfl ?_ | refine Q5 rfl ?_ | refine Q7 rfl rfl rfl ?_); (refine QX rfl rfl ?_))
    rw [decide_eq_true (show (((ls.take k).map foA).length : Int) ≤ (ls.length : Int) by rw [hgl]; omega)]
    repeat' (first | ((refine Qa rfl ?_); (first | refine Q0 ?_ | refine Q7 rfl rfl rfl ?_ | refine QE rfl rfl ?_); (refine QX rfl rfl ?_)) | refine Qa rfl ?_)
    refine st_slo (l := 0) (h := k) (lo' := 0) (n' := k) (bnd_none) (bnd_some rfl (by rw [hgl]; omega)) (by omega) (by first | omega | (simp; omega)) (by omega) (by omega) rfl rfl rfl rfl rfl rfl rfl ?_
    first | refine nx rfl rfl ?_ | refine nx0 ?_
    repeat' (refine Qa rfl ?_)
    refine st_call (fun _ => rfl) rfl ?_
    refine ACalls.mono (heq _ _ (src_ownm' rfl rfl rfl (by omega) (by rw [List.drop_zero]))) ?_
    rintro r H' ⟨rfl, rfl⟩
    first | refine nx rfl rfl ?_ | refine nx0 ?_
    repeat' (first | ((refine Qa rfl ?_); (first | refine Q1 ?_ | refine Q5 rfl ?_); (refine QX rfl rfl ?_)) | refine Qh ?_ | refine Qs ?_)
    refine awp_ret ?_
    exact ⟨_, rfl, rfl⟩
  repeat' (first | ((refine Qa rfl ?_); (refine Q1 ?_); (refine QX rfl rfl ?_)) | refine Qh ?_ | refine Ql ?_ | refine Qn ?_ | refine Qo rfl ?_)
  refine awp_loop2 (ι := Nat × Dv × List UInt8 × Nat × List (Nat × Rec) × Nat) (fun p => ⟨[(1, .sl 1 (keep.map boA)), (5, .sl 4 (c.rs.map recA)), (6, .sl 1 (c.pads.map boA)), (7, .fp [.int .i64 l.id, .int .i64 l.ver, .int .i64 l.rs, .int .i64 l.regs]), (8, .ptr 0 0), (9, .ptr 3 0), (11, .own 6 0 p.2.2.2.2.1.length), (12, .int .i64 (p.2.2.2.2.2 : Int)), (13, .int .i64 (p.1 : Int))], rgH p.2.1 (h3 l) l (74 + 3 * R) 4 p.2.2.1 p.2.2.2.1 ++ [some (foR p.2.2.2.2.1)]⟩)
    (fun p => p.1 ≤ 12 ∧ p.2.2.2.2.1.length ≤ p.1 ∧ PX ((74 + 4 * R) * 64) (h3 l) l (74 + 3 * R) 4 p.2.1 p.2.2.1 p.2.2.2.1 p.2.2.2.2.1 p.2.2.2.2.2) (fun p => 12 - p.1) (0, v1, [], 0, [], 0) ⟨Nat.zero_le _, Nat.le_refl _, ⟨⟨hlv1, hrg1, by show 0 = 0 / 59; rfl, by show ((0 : Nat) : Int) ≤ _; omega, Strm.nil⟩, ⟨v1.image, 0, gh_clean hold, hrg1, Nat.le_refl _, fun i q hi _ => absurd hi (Nat.not_lt_zero i)⟩, Nat.le_refl _⟩⟩ ?_ ?_
  · refine Imp.trans (imp_nil 11 88 rfl) ?_
    refine imp_cutk 7 (Nat.zero_le _) (hok_rgw _ _ _ _ _ _ _ _) rfl (by simp [rgH, devH]) ?_
    repeat' (first | exact fa_nil | refine fa_cons ⟨?_, ?_⟩ ?_)
    all_goals (try first | exact rfl | exact trivial | (simp [IdsLt, IdsLtL]; done) | (simp [get_cons]; done) | (simp [get_cons, *]; done) | (refine congrArg (AV.int .i64) (wrap_eq ?_ ?_ ?_) <;> (first | omega | (simp; omega))))
    all_goals first | exact idsL_map fun _ => recA_ids | exact idsL_map fun _ => boA_ids | exact ⟨trivial, trivial, trivial, trivial, trivial⟩ | simp [IdsLt]
  rintro ⟨i, v, s, t, ls, su⟩ ⟨hi0, hls0, hw0⟩
  have hi12 : i ≤ 12 := hi0
  have hls : ls.length ≤ i := hls0
  have hw : PX ((74 + 4 * R) * 64) (h3 l) l (74 + 3 * R) 4 v s t ls su := hw0
  clear hi0 hls0 hw0
  have hiw : IntKind.i64.wrap ((i : Int) + 1) = ((i + 1 : Nat) : Int) := wrap_eq (by omega) (by omega) (by omega)
  have hcI : capI l = (l.rs - 1) * 59 := if_pos hl.form
  show AWp _ _ _ _ _ ⟨[(1, .sl 1 (keep.map boA)), (5, .sl 4 (c.rs.map recA)), (6, .sl 1 (c.pads.map boA)), (7, .fp [.int .i64 l.id, .int .i64 l.ver, .int .i64 l.rs, .int .i64 l.regs]), (8, .ptr 0 0), (9, .ptr 3 0), (11, .own 6 0 ls.length), (12, .int .i64 (su : Int)), (13, .int .i64 (i : Int))], rgH v (h3 l) l (74 + 3 * R) 4 s t ++ [some (foR ls)]⟩
  repeat' (first | ((refine Qa rfl ?_); (first | refine Q0 ?_ | refine Q2 rfl ?_ | refine Q7 rfl rfl rfl ?_); (refine QX rfl rfl ?_)) | refine Ql ?_ | refine Qo rfl ?_)
  by_cases hlt : i < c.rs.length
  · rw [decide_eq_true (show (i : Int) < ((c.rs.map recA).length : Int) by rw [hrm]; omega)]
    repeat' (first | ((refine Qa rfl ?_); (first | refine Q0 ?_ | refine Q2 rfl ?_ | refine Q5 rfl ?_); (refine QX rfl rfl ?_)) | refine Qh ?_ | refine Qs ?_)
    by_cases h12 : i < 12
    · rw [decide_eq_true (show (i : Int) < 12 by omega)]
      obtain ⟨r, hx⟩ : ∃ r, c.rs[i]? = some r := ⟨_, List.getElem?_eq_getElem hlt⟩
      have hk := hc.key r (List.mem_of_getElem? hx)
      have hsh := fun X => rshort_c X r hk.1 hk.2
      generalize r.short = r2 at *
      repeat' (first | refine Ql ?_ | refine Qm ?_ | refine Qn ?_ | refine Qp rfl ?_)
      refine Qo rfl ?_
      repeat' (first | ((refine Qa rfl ?_); (refine Q0 ?_); (refine QX rfl rfl ?_)) | refine Qa rfl ?_)
      refine st_ixm hx rfl rfl rfl rfl rfl rfl rfl (by first | rfl | omega) rfl ?_
      first | refine nx rfl rfl ?_ | refine nx0 ?_
      repeat' (first | ((refine Qa rfl ?_); (refine Q3 rfl rfl rfl ?_); (refine QX rfl rfl ?_)) | refine Qa rfl ?_)
      refine st_call (fun _ => rfl) rfl ?_
      refine ACalls.mono (acalls_pure (E := E0 X) (fun X => hsh X) (by simp [IdsLtL, IdsLt]) _) ?_
      rintro r H' ⟨rfl, rfl⟩
      first | refine nx rfl rfl ?_ | refine nx0 ?_
      repeat' (first | ((refine Qa rfl ?_); (refine QJ rfl rfl ?_); (refine QX rfl rfl ?_)) | (refine Qb rfl ?_; try (refine QS rfl rfl rfl rfl rfl rfl rfl ?_; (refine QX rfl rfl ?_))) | refine Qh ?_ | refine Qs ?_)
      refine Ql ?_
      refine awp_midE (ι := Dv × List UInt8 × Nat × List (Nat × Rec) × Nat) (fun p => ⟨[(1, .sl 1 (keep.map boA)), (5, .sl 4 (c.rs.map recA)), (6, .sl 1 (c.pads.map boA)), (7, .fp [.int .i64 l.id, .int .i64 l.ver, .int .i64 l.rs, .int .i64 l.regs]), (8, .ptr 0 0), (9, .ptr 3 0), (11, .own 6 0 p.2.2.2.1.length), (12, .int .i64 (p.2.2.2.2 : Int)), (13, .int .i64 (i : Int))], rgH p.1 (h3 l) l (74 + 3 * R) 4 p.2.1 p.2.2.1 ++ [some (foR p.2.2.2.1)]⟩) (fun p => p.2.2.2.1.length ≤ i + 1 ∧ PX ((74 + 4 * R) * 64) (h3 l) l (74 + 3 * R) 4 p.1 p.2.1 p.2.2.1 p.2.2.2.1 p.2.2.2.2) ?_ ?_
      · refine awp_pre (Imp.trans (imp_freezeP (id := 7) (cs := [.int .i64 r2.kind, .sl 1 (r2.key.map u8A), .sl 1 (r2.val.map u8A), .int .i64 r2.exp]) rfl) (imp_cutk 7 (Nat.zero_le _) (hok_rgw v (h3 l) l (74 + 3 * R) 4 s t ls) rfl (by simp [rgH, devH]) (sl' := (14, .fp [.int .i64 r2.kind, .sl 1 (r2.key.map u8A), .sl 1 (r2.val.map u8A), .int .i64 r2.exp]) :: [(1, .sl 1 (keep.map boA)), (5, .sl 4 (c.rs.map recA)), (6, .sl 1 (c.pads.map boA)), (7, .fp [.int .i64 l.id, .int .i64 l.ver, .int .i64 l.rs, .int .i64 l.regs]), (8, .ptr 0 0), (9, .ptr 3 0), (11, .own 6 0 ls.length), (12, .int .i64 (su : Int)), (13, .int .i64 (i : Int))]) ?_)) ?_
        · repeat' (first | exact fa_nil | refine fa_cons ⟨?_, ?_⟩ ?_)
          all_goals (try first | exact rfl | exact trivial | (simp [IdsLt, IdsLtL]; done) | (simp [get_cons]; done) | (simp [get_cons, *]; done) | (refine congrArg (AV.int .i64) (wrap_eq ?_ ?_ ?_) <;> (first | omega | (simp; omega))))
          all_goals first | exact recA_ids | exact idsL_map fun _ => recA_ids | exact idsL_map fun _ => boA_ids | exact ⟨trivial, trivial, trivial, trivial, trivial⟩ | simp [IdsLt]
        show AWp _ _ _ _ _ ⟨(14, .fp [.int .i64 r2.kind, .sl 1 (r2.key.map u8A), .sl 1 (r2.val.map u8A), .int .i64 r2.exp]) :: [(1, .sl 1 (keep.map boA)), (5, .sl 4 (c.rs.map recA)), (6, .sl 1 (c.pads.map boA)), (7, .fp [.int .i64 l.id, .int .i64 l.ver, .int .i64 l.rs, .int .i64 l.regs]), (8, .ptr 0 0), (9, .ptr 3 0), (11, .own 6 0 ls.length), (12, .int .i64 (su : Int)), (13, .int .i64 (i : Int))], rgH v (h3 l) l (74 + 3 * R) 4 s t ++ [some (foR ls)]⟩
        have hsl2 := hw.pi.cap
        have htt := hw.pi.tt
        repeat' (first | ((refine Qa rfl ?_); (first | refine Q0 ?_ | refine Q3 rfl rfl rfl ?_); (refine QX rfl rfl ?_)) | refine Qa rfl ?_ | refine Ql ?_ | refine Qo rfl ?_)
        by_cases hck : chkR l.ver r2 = 0
        · by_cases hfit : (s.length : Int) + (lenR r2 : Int) ≤ (l.rs - 1) * 59
          · have hel : (s ++ encR l.ver 4 s.length r2).length = s.length + lenR r2 := by rw [List.length_append, encR_len]
            obtain ⟨n, hn⟩ : ∃ n, t + n = (s ++ encR l.ver 4 s.length r2).length / 59 := ⟨(s ++ encR l.ver 4 s.length r2).length / 59 - t, by omega⟩
            have hfl : (74 + 3 * R + 1 + (s ++ encR l.ver 4 s.length r2).length / 59) * 64 ≤ (74 + 4 * R) * 64 := by omega
            have hap := rg_RM (X := X) (fun X => app_ok X v l (h3 l) (74 + 3 * R) 4 s t r2 _ hw.pi.lv (by omega) n hck (by decide) (by omega) (by omega) (by omega) hn hfl) (by exact ⟨recA_ids, trivial⟩) (by exact ⟨trivial, trivial, trivial, trivial⟩) [some (foR ls)]
            have hw3 := hw.app hck hfit hn hfl
            generalize s ++ encR l.ver 4 s.length r2 = s3 at *
            generalize dfN v (74 + 3 * R) 4 s3 t n = v3 at *
            generalize t + n = t3 at *
            refine st_call (fun _ => rfl) rfl ?_
            refine ACalls.mono (hap) ?_
            rintro r H' ⟨rfl, rfl⟩
            first | refine nx rfl rfl ?_ | refine nx0 ?_
            repeat' (first | ((refine Qa rfl ?_); (first | refine Q0 ?_ | refine Q1 ?_ | refine Q2 rfl ?_ | refine Q3 rfl rfl rfl ?_ | refine QC rfl rfl ?_ | refine QP rfl rfl rfl rfl rfl rfl ?_ | refine QQ rfl rfl rfl rfl rfl rfl rfl rfl rfl rfl rfl ?_); (refine QX rfl rfl ?_)) | refine Qa rfl ?_ | refine Qh ?_ | refine Ql ?_ | refine Qo rfl ?_ | refine Qp rfl ?_)
            have hl1 : (ls ++ [(s.length, r2)]).length = ls.length + 1 := by simp
            refine st_app (oid := some 6) (es := ls.map foA) (out := (ls ++ [(s.length, r2)]).map foA) (n := (ls ++ [(s.length, r2)]).length) (dst_own rfl (List.length_map _).symm) (rfl) (oneEs_fo [(s.length, r2)]) (by rw [List.map_append]; rfl) (by simp) (by show _ ≤ 9223372036854775807; omega) (by show _ * 80 ≤ _; omega) rfl rfl rfl rfl rfl rfl rfl rfl ?_
            first | refine nx rfl rfl ?_ | refine nx0 ?_
            repeat' (first | ((refine Qa rfl ?_); (refine Q1 ?_); (refine QX rfl rfl ?_)) | refine Qh ?_)
            generalize ls ++ [(s.length, r2)] = ls3 at *
            refine ⟨rfl, (v3, s3, t3, ls3, su), ⟨by show ls3.length ≤ i + 1; omega, hw3⟩, ?_⟩
            refine imp_tid 3 [3, 4, 7, 8] (H' := rgH v3 (h3 l) l (74 + 3 * R) 4 s3 t3 ++ [some (foR ls3)]) (os := [rgC (h3 l), pkC l (74 + 3 * R) 4 s3.length t3 5, arB s3, foR ls3]) (Nat.zero_le _) ?_ ?_ ?_ ?_ rfl ?_ ?_ ?_
            · simp [devH]
            · simp
            · simp
            · exact hok_dev v3
            · rfl
            · repeat' (first
                | exact fa_nil
                | exact os_nil
                | exact RenL.nil
                | refine fa_cons ?_ ?_
                | refine os_cons rfl (renO_cells ?_) ?_
                | refine os_cons rfl (renO_old 0 (fun i h => absurd h (Nat.not_lt_zero i)) (by simp [IdsLtO, IdsLtL, IdsLt])) ?_
                | refine RenL.cons ?_ ?_
                | exact ren_own rfl
                | exact ren_ptr rfl
                | exact ren_mp rfl
                | exact ren_lt rfl (by first | trivial | (simp [IdsLt, IdsLtL]; done)))
            · repeat' (first
                | exact fa_nil
                | exact os_nil
                | exact RenL.nil
                | refine fa_cons ?_ ?_
                | refine os_cons rfl (renO_cells ?_) ?_
                | refine os_cons rfl (renO_old 0 (fun i h => absurd h (Nat.not_lt_zero i)) (by simp [IdsLtO, IdsLtL, IdsLt])) ?_
                | refine RenL.cons ?_ ?_
                | exact ren_own rfl
                | exact ren_ptr rfl
                | exact ren_mp rfl
                | exact ren_lt rfl (by first | trivial | (simp [IdsLt, IdsLtL]; done)))
          · have hap := rg_R (X := X) (fun X => app_full X v l (h3 l) (74 + 3 * R) 4 s t r2 hck (by decide) (by omega) (by omega)) (by exact ⟨recA_ids, trivial⟩) (by exact ⟨trivial, trivial, trivial, trivial⟩) [some (foR ls)]
            refine st_call (fun _ => rfl) rfl ?_
            refine ACalls.mono (hap) ?_
            rintro r H' ⟨rfl, rfl⟩
            first | refine nx rfl rfl ?_ | refine nx0 ?_
            repeat' (first | ((refine Qa rfl ?_); (first | refine Q0 ?_ | refine Q1 ?_ | refine Q2 rfl ?_ | refine QC rfl rfl ?_); (refine QX rfl rfl ?_)) | refine Qh ?_ | refine Ql ?_ | refine Qm ?_ | refine Qo rfl ?_ | refine Qq rfl ?_)
            refine ⟨rfl, (v, s, t, ls, su), ⟨by show ls.length ≤ i + 1; omega, hw⟩, ?_⟩
            refine imp_cutk 7 (Nat.zero_le _) (hok_rgw _ _ _ _ _ _ _ _) rfl (by simp [rgH, devH]) ?_
            repeat' (first | exact fa_nil | refine fa_cons ⟨?_, ?_⟩ ?_)
            all_goals (try first | exact rfl | exact trivial | (simp [IdsLt, IdsLtL]; done) | (simp [get_cons]; done) | (simp [get_cons, *]; done) | (refine congrArg (AV.int .i64) (wrap_eq ?_ ?_ ?_) <;> (first | omega | (simp; omega))))
            all_goals first | exact idsL_map fun _ => recA_ids | exact idsL_map fun _ => boA_ids | exact ⟨trivial, trivial, trivial, trivial, trivial⟩ | simp [IdsLt]
        · have hap := rg_R (X := X) (fun X => app_bad X v l (h3 l) (74 + 3 * R) 4 s t r2 hck) (by exact ⟨recA_ids, trivial⟩) (by exact ⟨trivial, trivial, trivial, trivial⟩) [some (foR ls)]
          refine st_call (fun _ => rfl) rfl ?_
          refine ACalls.mono (hap) ?_
          rintro r H' ⟨rfl, rfl⟩
          first | refine nx rfl rfl ?_ | refine nx0 ?_
          repeat' (first | ((refine Qa rfl ?_); (first | refine Q0 ?_ | refine Q1 ?_ | refine Q2 rfl ?_ | refine QC rfl rfl ?_); (refine QX rfl rfl ?_)) | refine Qh ?_ | refine Ql ?_ | refine Qo rfl ?_ | refine Qs ?_)
          rw [decide_eq_false hck]
          repeat' (first | refine Qm ?_ | refine Qq rfl ?_)
          refine ⟨rfl, (v, s, t, ls, su), ⟨by show ls.length ≤ i + 1; omega, hw⟩, ?_⟩
          refine imp_cutk 7 (Nat.zero_le _) (hok_rgw _ _ _ _ _ _ _ _) rfl (by simp [rgH, devH]) ?_
          repeat' (first | exact fa_nil | refine fa_cons ⟨?_, ?_⟩ ?_)
          all_goals (try first | exact rfl | exact trivial | (simp [IdsLt, IdsLtL]; done) | (simp [get_cons]; done) | (simp [get_cons, *]; done) | (refine congrArg (AV.int .i64) (wrap_eq ?_ ?_ ?_) <;> (first | omega | (simp; omega))))
          all_goals first | exact idsL_map fun _ => recA_ids | exact idsL_map fun _ => boA_ids | exact ⟨trivial, trivial, trivial, trivial, trivial⟩ | simp [IdsLt]
      · rintro ⟨v2, s2, t2, ls2, su2⟩ ⟨hls20, hw20⟩
        have hls2 : ls2.length ≤ i + 1 := hls20
        have hw2 : PX ((74 + 4 * R) * 64) (h3 l) l (74 + 3 * R) 4 v2 s2 t2 ls2 su2 := hw20
        clear hls20 hw20
        have htt := hw2.pi.tt
        have hsl2 := hw2.pi.cap
        have hmu : 12 - (i + 1) < 12 - i := by omega
        show AWp _ _ _ _ _ ⟨[(1, .sl 1 (keep.map boA)), (5, .sl 4 (c.rs.map recA)), (6, .sl 1 (c.pads.map boA)), (7, .fp [.int .i64 l.id, .int .i64 l.ver, .int .i64 l.rs, .int .i64 l.regs]), (8, .ptr 0 0), (9, .ptr 3 0), (11, .own 6 0 ls2.length), (12, .int .i64 (su2 : Int)), (13, .int .i64 (i : Int))], rgH v2 (h3 l) l (74 + 3 * R) 4 s2 t2 ++ [some (foR ls2)]⟩
        repeat' (first | ((refine Qa rfl ?_); (first | refine Q0 ?_ | refine Q2 rfl ?_ | refine Q7 rfl rfl rfl ?_); (refine QX rfl rfl ?_)) | refine Ql ?_ | refine Qo rfl ?_)
        by_cases hp : i < c.pads.length
        · rw [decide_eq_true (show (i : Int) < ((c.pads.map boA).length : Int) by rw [hpm]; omega)]
          obtain ⟨b, hb⟩ : ∃ b, c.pads[i]? = some b := ⟨_, List.getElem?_eq_getElem hp⟩
          repeat' (first | ((refine Qa rfl ?_); (refine Q0 ?_); (refine QX rfl rfl ?_)) | refine Qa rfl ?_)
          refine st_ixm hb rfl rfl rfl rfl rfl rfl rfl (by first | rfl | omega) rfl ?_
          first | refine nx rfl rfl ?_ | refine nx0 ?_
          cases b with
          | true =>
            have hpl := pad_cap hsl2
            have hps : s2.length ≤ (padS s2).length := by simp [padS]
            obtain ⟨n, hn⟩ : ∃ n, t2 + n = (padS s2).length / 59 := ⟨(padS s2).length / 59 - t2, by omega⟩
            have hfl : (74 + 3 * R + 1 + (padS s2).length / 59) * 64 ≤ (74 + 4 * R) * 64 := by omega
            have hsy := rg_RM (X := X) (fun X => rsync_c X v2 _ hw2.pi.lv (by omega) l (h3 l) (74 + 3 * R) 4 s2 t2 n (by decide) (by omega) (by omega) hn hfl) trivial trivial [some (foR ls2)]
            have hw3 := hw2.sync hn hfl
            generalize padS s2 = s3 at *
            generalize ({ dfN v2 (74 + 3 * R) 4 s3 t2 n with old := [] } : Dv) = v3 at *
            generalize t2 + n = t3 at *
            repeat' (first | ((refine Qa rfl ?_); (first | refine Q0 ?_ | refine Q3 rfl rfl rfl ?_ | refine Q5 rfl ?_); (refine QX rfl rfl ?_)) | refine Qa rfl ?_ | refine Qh ?_ | refine Ql ?_ | refine Qo rfl ?_ | refine Qp rfl ?_)
            refine st_call (fun _ => rfl) rfl ?_
            refine ACalls.mono (hsy) ?_
            rintro r H' ⟨rfl, rfl⟩
            first | refine nx rfl rfl ?_ | refine nx0 ?_
            repeat' (first | ((refine Qa rfl ?_); (first | refine Q0 ?_ | refine Q1 ?_ | refine Q2 rfl ?_ | refine Q7 rfl rfl rfl ?_); (refine QX rfl rfl ?_)) | refine Qh ?_ | refine Qm ?_ | refine Qo rfl ?_ | refine Qq rfl ?_ | refine Qs ?_)
            rw [hiw]
            refine ⟨(i + 1, v3, s3, t3, ls2, ls2.length), ⟨h12, hls2, hw3⟩, hmu, ?_⟩
            refine imp_tid 3 [3, 4, 7, 6] (H' := rgH v3 (h3 l) l (74 + 3 * R) 4 s3 t3 ++ [some (foR (ls2))]) (os := [rgC (h3 l), pkC l (74 + 3 * R) 4 s3.length t3 5, arB s3, foR (ls2)]) (Nat.zero_le _) ?_ ?_ ?_ ?_ rfl ?_ ?_ ?_
            · simp [devH]
            · simp
            · simp
            · exact hok_dev v3
            · rfl
            · repeat' (first
                | exact fa_nil
                | exact os_nil
                | exact RenL.nil
                | refine fa_cons ?_ ?_
                | refine os_cons rfl (renO_cells ?_) ?_
                | refine os_cons rfl (renO_old 0 (fun i h => absurd h (Nat.not_lt_zero i)) (by simp [IdsLtO, IdsLtL, IdsLt])) ?_
                | refine RenL.cons ?_ ?_
                | exact ren_own rfl
                | exact ren_ptr rfl
                | exact ren_mp rfl
                | exact ren_lt rfl (by first | trivial | (simp [IdsLt, IdsLtL]; done)))
            · repeat' (first
                | exact fa_nil
                | exact os_nil
                | exact RenL.nil
                | refine fa_cons ?_ ?_
                | refine os_cons rfl (renO_cells ?_) ?_
                | refine os_cons rfl (renO_old 0 (fun i h => absurd h (Nat.not_lt_zero i)) (by simp [IdsLtO, IdsLtL, IdsLt])) ?_
                | refine RenL.cons ?_ ?_
                | exact ren_own rfl
                | exact ren_ptr rfl
                | exact ren_mp rfl
                | exact ren_lt rfl (by first | trivial | (simp [IdsLt, IdsLtL]; done)))
          | false =>
            repeat' (first | ((refine Qa rfl ?_); (first | refine Q0 ?_ | refine Q1 ?_ | refine Q2 rfl ?_ | refine Q3 rfl rfl rfl ?_ | refine Q5 rfl ?_); (refine QX rfl rfl ?_)) | refine Qh ?_ | refine Qm ?_ | refine Qo rfl ?_ | refine Qq rfl ?_ | refine Qs ?_)
            rw [hiw]
            refine ⟨(i + 1, v2, s2, t2, ls2, su2), ⟨h12, hls2, hw2⟩, hmu, ?_⟩
            refine imp_cutk 7 (Nat.zero_le _) (hok_rgw _ _ _ _ _ _ _ _) rfl (by simp [rgH, devH]) ?_
            repeat' (first | exact fa_nil | refine fa_cons ⟨?_, ?_⟩ ?_)
            all_goals (try first | exact rfl | exact trivial | (simp [IdsLt, IdsLtL]; done) | (simp [get_cons]; done) | (simp [get_cons, *]; done) | (refine congrArg (AV.int .i64) (wrap_eq ?_ ?_ ?_) <;> (first | omega | (simp; omega))))
            all_goals first | exact idsL_map fun _ => recA_ids | exact idsL_map fun _ => boA_ids | exact ⟨trivial, trivial, trivial, trivial, trivial⟩ | simp [IdsLt]
        · rw [decide_eq_false (show ¬ (i : Int) < ((c.pads.map boA).length : Int) by rw [hpm]; omega)]
          repeat' (first | ((refine Qa rfl ?_); (first | refine Q0 ?_ | refine Q1 ?_ | refine Q2 rfl ?_ | refine Q5 rfl ?_); (refine QX rfl rfl ?_)) | refine Qh ?_ | refine Qi rfl ?_ | refine Qm ?_ | refine Qo rfl ?_ | refine Qq rfl ?_ | refine Qs ?_)
          rw [hiw]
          refine ⟨(i + 1, v2, s2, t2, ls2, su2), ⟨h12, hls2, hw2⟩, hmu, ?_⟩
          refine imp_cutk 7 (Nat.zero_le _) (hok_rgw _ _ _ _ _ _ _ _) rfl (by simp [rgH, devH]) ?_
          repeat' (first | exact fa_nil | refine fa_cons ⟨?_, ?_⟩ ?_)
          all_goals (try first | exact rfl | exact trivial | (simp [IdsLt, IdsLtL]; done) | (simp [get_cons]; done) | (simp [get_cons, *]; done) | (refine congrArg (AV.int .i64) (wrap_eq ?_ ?_ ?_) <;> (first | omega | (simp; omega))))
          all_goals first | exact idsL_map fun _ => recA_ids | exact idsL_map fun _ => boA_ids | exact ⟨trivial, trivial, trivial, trivial, trivial⟩ | simp [IdsLt]
    · rw [decide_eq_false (show ¬ (i : Int) < 12 by omega)]
      repeat' (first | refine Qq rfl ?_ | refine Qr ?_ | refine Qt ?_ | refine Qv ?_)
      refine ⟨rfl, (v, s, t, ls, su), ⟨by show ls.length ≤ 12; omega, hw⟩, ?_⟩
      refine imp_cutk 7 (Nat.zero_le _) (hok_rgw _ _ _ _ _ _ _ _) rfl (by simp [rgH, devH]) ?_
      repeat' (first | exact fa_nil | refine fa_cons ⟨?_, ?_⟩ ?_)
      all_goals (try first | exact rfl | exact trivial | (simp [IdsLt, IdsLtL]; done) | (simp [get_cons]; done) | (simp [get_cons, *]; done) | (refine congrArg (AV.int .i64) (wrap_eq ?_ ?_ ?_) <;> (first | omega | (simp; omega))))
      all_goals first | exact idsL_map fun _ => recA_ids | exact idsL_map fun _ => boA_ids | exact ⟨trivial, trivial, trivial, trivial, trivial⟩ | simp [IdsLt]
  · rw [decide_eq_false (show ¬ (i : Int) < ((c.rs.map recA).length : Int) by rw [hrm]; omega)]
    repeat' (first | ((refine Qa rfl ?_); (refine Q5 rfl ?_); (refine QX rfl rfl ?_)) | refine Qh ?_ | refine Qi rfl ?_ | refine Qq rfl ?_ | refine Qr ?_ | refine Qt ?_ | refine Qv ?_)
    refine ⟨rfl, (v, s, t, ls, su), ⟨by show ls.length ≤ 12; omega, hw⟩, ?_⟩
    refine imp_cutk 7 (Nat.zero_le _) (hok_rgw _ _ _ _ _ _ _ _) rfl (by simp [rgH, devH]) ?_
    repeat' (first | exact fa_nil | refine fa_cons ⟨?_, ?_⟩ ?_)
    all_goals (try first | exact rfl | exact trivial | (simp [IdsLt, IdsLtL]; done) | (simp [get_cons]; done) | (simp [get_cons, *]; done) | (refine congrArg (AV.int .i64) (wrap_eq ?_ ?_ ?_) <;> (first | omega | (simp; omega))))
    all_goals first | exact idsL_map fun _ => recA_ids | exact idsL_map fun _ => boA_ids | exact ⟨trivial, trivial, trivial, trivial, trivial⟩ | simp [IdsLt]
end Go.Abs
namespace Go.Proofs.YtlndakkehobnpaaDoor
open Go.Abs Go.RowKit Go.ChangeShapes Go.WideShapes
set_option maxRecDepth 100000 in
theorem scanPrefixLifted (os : Os) (started : os.Started) (H : Type) (enc : TypeId × Value → H) :
    ReturnsInHanded {} Tryd.checked os 15 .any (fun w args => (Rows.scanPrefixSpec.pre enc Tryd.prog Tryd.f15 [] false w args ∧ laidMetH Tryd.prog [("flashcache/crc.table", Rows.laid_flashcache_crc_table)] w) ∧ sizedMet enc Tryd.prog Tryd.f15 (OpenSpec.ofChange Rows.scanPrefixSpec) false w args)
      (Rows.scanPrefixSpec.post enc Tryd.prog Tryd.f15 false Rows.scanPrefixRow.fresh Rows.scanPrefixRow.handsOn Rows.scanPrefixRow.again) := by
  refine returnsInHanded_of_change_and (C := Tryd.checked) (X := fun w _ => laidMetH Tryd.prog [("flashcache/crc.table", Rows.laid_flashcache_crc_table)] w) (fun _ _ _ hh h => h.of_heap hh) own0 started (by kernel_rfl) Tryd.func15
    (ChangeSpec.witness_shaped (enc := enc) (C := Tryd.checked) (os := os) (X := fun w _ => laidMetH Tryd.prog [("flashcache/crc.table", Rows.laid_flashcache_crc_table)] w) false (World.doorLaid Tryd.prog 400 os) #[.agg #[.int .i64 0, .int .i64 0, .slice none 0 0, .slice none 0 0, .slice none 0 0, .int .i64 0], .slice none 0 0] 8 rfl (World.shaped_of_RefB (by kernel_rfl) (by kernel_rfl)) (by kernel_rfl) (by kernel_rfl) (by kernel_rfl) (door_met os _)) ?_
  intro W base args ds gs before hval0 hW _ _ hL _
  have hval : ∀ (j : Nat) t v, Tryd.f15.params[j]? = some t → args[j]? = some v → Value.okWide Tryd.prog W .any base t v := hval0
  have hW2 := hW
  obtain ⟨p, q, hA0, hV, _, _, _⟩ := hW2
  have hA : DataW.TrodAll enc Tryd.prog W 0 (fun _ => true) true [65, 62] args.toList ds p := hA0
  obtain ⟨rfl, rfl⟩ := trodVars_none hV
  obtain ⟨v0, v1, d0, d1, p0, p1, rfl, rfl, rfl, t0, t1⟩ := trodAll_two hA
  obtain ⟨x0, r0, c0⟩ := arg_avS (E := E0 fun _ => False) (E0_ok _) (fun _ h => h) (f := 5) rfl rfl (hval 0 65 v0 rfl rfl) t0
  obtain ⟨x1, r1, c1⟩ := arg_av (E := E0 fun _ => False) (E0_ok _) (fun _ h => h) (f := 2) rfl rfl (hval 1 62 v1 rfl rfl) t1
  obtain ⟨l0, rfl, h0⟩ := case_of c0
  obtain ⟨l1, rfl, h1⟩ := bools_of c1
  exact law_trueG (E := E0 fun _ => False) (avs := [.agg (csL l0), .sl 1 (l1.map boA)]) (tb := 4) (E0_ok _) (glob_of_laid hL) (by kernel_rfl) rfl (by kernel_rfl) (by kernel_rfl) (by kernel_rfl) rfl rfl rfl hW (fun _ h => h)
    (RelL.cons r0 (RelL.cons r1 (by simp [Abs.RelL]))) (scanPrefix_c _ l0 h0 l1 h1)
theorem scanPrefix_holds : Rows.ScanPrefixSaid :=
  OpenClaim.holds_of_wide 15 Tryd.f15 rfl rfl rfl rfl rfl rfl rfl ⟨rfl, rfl, rfl, rfl, rfl⟩ rfl rfl rfl rfl rfl (by kernel_rfl) Tryd.func15 (by kernel_rfl)
    (of_decide_eq_true (by kernel_rfl)) (by unfold Func.isWrapper; rw [if_neg (of_decide_eq_false (by kernel_rfl))]; exact ⟨rfl, rfl⟩)
    (fun os started H enc _ => scanPrefixLifted os started H enc)
theorem scanPrefix_card : Rows.ScanPrefixCardSaid :=
  Claim7.holds_tied_plain_at .later [] [.data] true (true, "ef1fa8f3014c6e3fe2b1907d4f734f2c932dc2d5fe76d3eb980f0835b0714608") false
    scanPrefix_holds (fun _ h => by cases h) (by kernel_rfl) (fun _ h => by cases h) scanPrefix_row_tie rfl ⟨rfl, rfl⟩ (by kernel_rfl) rfl
    (fun f fn hf hfn => by
      obtain rfl : f = 15 := Option.some.inj ((show Tryd.prog.funcNamed "flashcache/flashcachelaw15.ScanPrefix" = some 15 by kernel_rfl).symm.trans hf) |>.symm
      obtain rfl : fn = Tryd.f15 := (Option.some.inj (Tryd.func15.symm.trans hfn)).symm
      exact ⟨by kernel_rfl, fun j t ht => by
        have ht : (#[65, 62] : Array TypeId)[j]? = some t := ht
        have hm : t ∈ [65, 62] := by simpa using Array.mem_of_getElem? ht
        have hall : ([65, 62].all fun u => !Tryd.prog.wantsStandIn u) = true := by kernel_rfl
        exact (show Tryd.prog.wantsStandIn t = false by simpa using List.all_eq_true.1 hall t hm)⟩)
    (by kernel_rfl)
end Go.Proofs.YtlndakkehobnpaaDoor
