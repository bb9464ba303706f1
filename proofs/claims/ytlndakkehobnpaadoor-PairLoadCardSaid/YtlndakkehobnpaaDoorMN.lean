/- The pair of superblocks: Publish. Joined texts, each with what its own name promises; no condition beyond those stated. -/
import Derived.Test.YtlndakkehobnpaaDoorMM
import Derived.Test.YtlndakkehobnpaaDoorML
import Derived.Test.YtlndakkehobnpaaDoorME
namespace Go.Abs
/-- The sector of a superblock. -/
def secS (s : Sb) : Nat := (s.gen % 2).toNat
theorem secS_lt (s : Sb) : secS s < 2 := by unfold secS; omega
def Dv.pub (v : Dv) (s : Sb) : Int × Dv := if sbB s = true then (if (v.write (secS s) (encS s (secS s))).1 ≠ 0 then v.write (secS s) (encS s (secS s)) else (v.write (secS s) (encS s (secS s))).2.barrier) else (4, v)
theorem burn_fuse {v : Dv} (h : v.fuse ≤ 9223372036854775807) : v.burn.fuse ≤ 9223372036854775807 := by
  unfold Dv.burn; simp only; split <;> omega
theorem write_fuse {v : Dv} (h : v.fuse ≤ 9223372036854775807) (i : Int) (b : List UInt8) : (v.write i b).2.fuse ≤ 9223372036854775807 := by
  unfold Dv.write
  split
  · exact h
  · split
    · exact h
    · split
      · exact burn_fuse h
      · exact burn_fuse h
attribute [local irreducible] AStep aops AWp Nx awM
set_option maxHeartbeats 0 in
theorem place_c (X : Nat → Prop) (g : Int) : ACalls (E0 X) 69 [.int .i64 g] [] (fun r H' => r = .int .i64 (g.tmod 2) ∧ H' = []) := by
  refine acalls_of Proofs.Tryd.func69 rfl Proofs.Tryd.ntmps69 (by kernel_rfl) rfl ?_
  intro hH hargs
  clear hH hargs
  repeat' (first | ((refine Qa rfl ?_); (first | refine Q0 ?_ | refine Q1 ?_ | refine QB rfl rfl (by decide) ?_); (refine QX rfl rfl ?_)) | refine Qh ?_ | refine Ql ?_ | refine Qo rfl ?_ | refine Qs ?_)
  refine awp_ret ?_
  refine ⟨_, rfl, ?_, ?_⟩
  · rfl
  · rfl
theorem place_v (X : Nat → Prop) (s : Sb) (hg : 1 ≤ s.gen ∧ s.gen ≤ 1099511627775) : ACalls (E0 X) 69 [.int .i64 s.gen] [] (fun r H' => r = .int .i64 (secS s : Int) ∧ H' = []) := by
  refine (place_c X s.gen).mono ?_
  rintro r H' ⟨rfl, rfl⟩
  refine ⟨congrArg (AV.int .i64) ?_, rfl⟩
  unfold secS
  rw [Int.tmod_eq_emod_of_nonneg (by omega)]
  omega
set_option maxHeartbeats 0 in
set_option maxRecDepth 100000 in
theorem publish_c (X : Nat → Prop) (v : Dv) (hv : v.Ok) (s : Sb) (hfl : s.fo.length ≤ 4611686018427387904) :
    ACalls (E0 X) 36 [.ptr 0 0, sbA s] (devH v) (fun r H' => r = .int .i64 (v.pub s).1 ∧ H' = devH (v.pub s).2) := by
  have hva := fun X => svalid_c X s hfl
  unfold Dv.pub
  cases hb : sbB s with
  | false =>
    rw [hb] at hva
    rw [if_neg (by simp)]
    refine acalls_of Proofs.Tryd.func36 rfl Proofs.Tryd.ntmps36 (by kernel_rfl) rfl ?_
    intro hH hargs
    clear hH hargs
    repeat' (first | ((refine Qa rfl ?_); (first | refine Q1 ?_ | refine Q3 rfl rfl rfl ?_ | refine QK rfl ?_); (refine QX rfl rfl ?_)) | refine Qa rfl ?_ | refine Qh ?_ | refine Ql ?_ | refine Qo rfl ?_)
    refine st_call (fun _ => rfl) rfl ?_
    refine ACalls.mono (acalls_pure (E := E0 X) (fun X => hva X) (by simp [IdsLtL, IdsLt]) _) ?_
    rintro r H' ⟨rfl, rfl⟩
    first | refine nx rfl rfl ?_ | refine nx0 ?_
    repeat' (first | ((refine Qa rfl ?_); (first | refine Q1 ?_ | refine QD rfl ?_); (refine QX rfl rfl ?_)) | refine Qh ?_ | refine Ql ?_ | refine Qo rfl ?_ | refine Qp rfl ?_ | refine Qs ?_)
    refine awp_pre (imp_cutk 3 (Nat.le_refl _) (hok_dev _) rfl (by simp) (sl' := [(4, .int .i64 4)]) ?_) ?_
    · repeat' (first | exact fa_nil | refine fa_cons ⟨?_, ?_⟩ ?_)
      all_goals (try first | exact rfl | exact trivial | (simp [IdsLt, IdsLtL]; done) | (simp [get_cons]; done) | (simp [get_cons, *]; done) | (refine congrArg (AV.int .i64) (wrap_eq ?_ ?_ ?_) <;> (first | omega | (simp; omega))))
    refine awp_ret ?_
    refine ⟨_, rfl, ?_, ?_⟩
    · rfl
    · rfl
  | true =>
    rw [hb] at hva
    rw [if_pos rfl]
    have hg := (sb_ok hb).gen
    have hpl := fun X => place_v X s hg
    have hs2 := secS_lt s
    have hen := fun X => senc_x X s (secS s) hb (by omega)
    have hlb := encS_len s (secS s)
    have hw := fun R => dev_l (fun X => write_c X v hv (secS s) (encS s (secS s)) (by omega)) ⟨trivial, idsL_map fun _ => u8A_ids, trivial⟩ trivial R (X := X)
    have hbr := fun R => dev_l (fun X => barrier_c X (v.write (secS s) (encS s (secS s))).2 (write_fuse hv.fuse _ _)) trivial trivial R (X := X)
    generalize v.write (secS s) (encS s (secS s)) = wr at *
    generalize encS s (secS s) = eb at *
    generalize secS s = k at *
    refine acalls_of Proofs.Tryd.func36 rfl Proofs.Tryd.ntmps36 (by kernel_rfl) rfl ?_
    intro hH hargs
    clear hH hargs
    repeat' (first | ((refine Qa rfl ?_); (first | refine Q1 ?_ | refine Q3 rfl rfl rfl ?_ | refine QK rfl ?_); (refine QX rfl rfl ?_)) | refine Qa rfl ?_ | refine Qh ?_ | refine Ql ?_ | refine Qo rfl ?_)
    refine st_call (fun _ => rfl) rfl ?_
    refine ACalls.mono (acalls_pure (E := E0 X) (fun X => hva X) (by simp [IdsLtL, IdsLt]) _) ?_
    rintro r H' ⟨rfl, rfl⟩
    first | refine nx rfl rfl ?_ | refine nx0 ?_
    repeat' (first | ((refine Qa rfl ?_); (refine QD rfl ?_); (refine QX rfl rfl ?_)) | refine Qh ?_ | refine Ql ?_ | refine Qm ?_ | refine Qq rfl ?_)
    refine awp_region_auto2 [] [] (by exact rfl) (by kernel_rfl) ?_
    repeat' ((apply Qd rfl rfl rfl rfl); (first | refine Q3 rfl rfl rfl ?_ | refine Q4 rfl rfl rfl rfl rfl ?_); (exact QX rfl rfl ⟨rfl, rfl⟩))
    apply ds rfl rfl rfl rfl
    · refine st_call (fun _ => rfl) rfl ?_
      refine ACalls.mono (acalls_pure (E := E0 X) (fun X => hpl X) (by simp [IdsLtL, IdsLt]) _) ?_
      rintro r H' ⟨rfl, rfl⟩
      first
      | exact nx rfl rfl ⟨rfl, rfl⟩
      | exact nx0 ⟨rfl, rfl⟩
    skip
    apply ds rfl rfl rfl rfl
    · refine st_call (fun _ => rfl) rfl ?_
      refine ACalls.mono (acalls_pure (E := E0 X) (fun X => hen X) (by simp [IdsLtL, IdsLt]) _) ?_
      rintro r H' ⟨rfl, rfl⟩
      first
      | exact nx rfl rfl ⟨rfl, rfl⟩
      | exact nx0 ⟨rfl, rfl⟩
    repeat' (first | ((first | refine Qa rfl ?_ | apply Qd rfl rfl rfl rfl); (first | refine Q0 ?_ | refine Q1 ?_ | refine Q3 rfl rfl rfl ?_ | refine Q4 rfl rfl rfl rfl rfl ?_ | refine QC rfl rfl ?_); (first | exact QX rfl rfl ⟨rfl, rfl⟩ | refine QX rfl rfl ?_)) | refine Qa rfl ?_ | refine Qk ?_ | refine Ql ?_ | refine Qo rfl ?_)
    refine st_call (fun _ => rfl) rfl ?_
    refine ACalls.mono (acalls_pure (E := E0 X) (fun X => hpl X) (by simp [IdsLtL, IdsLt]) _) ?_
    rintro r H' ⟨rfl, rfl⟩
    first | refine nx rfl rfl ?_ | refine nx0 ?_
    repeat' (first | ((refine Qa rfl ?_); (refine Q0 ?_); (refine QX rfl rfl ?_)) | refine Qa rfl ?_)
    refine st_call (fun _ => rfl) rfl ?_
    refine ACalls.mono (hw _) ?_
    rintro r H' ⟨rfl, rfl⟩
    first | refine nx rfl rfl ?_ | refine nx0 ?_
    repeat' (first | ((refine Qa rfl ?_); (first | refine Q0 ?_ | refine Q1 ?_ | refine Q2 rfl ?_); (refine QX rfl rfl ?_)) | refine Qh ?_ | refine Ql ?_ | refine Qo rfl ?_ | refine Qs ?_)
    refine awp_cond_dec rfl (fun h1 => ?_) (fun h1 => ?_)
    · rw [if_pos h1]
      repeat' (first | ((refine Qa rfl ?_); (first | refine Q0 ?_ | refine Q1 ?_); (refine QX rfl rfl ?_)) | refine Qh ?_ | refine Ql ?_ | refine Qo rfl ?_ | refine Qs ?_)
      refine awp_pre (imp_cutk 3 (Nat.le_refl _) (hok_dev _) rfl (by simp) (sl' := [(4, .int .i64 wr.1)]) ?_) ?_
      · repeat' (first | exact fa_nil | refine fa_cons ⟨?_, ?_⟩ ?_)
        all_goals (try first | exact rfl | exact trivial | (simp [IdsLt, IdsLtL]; done) | (simp [get_cons]; done) | (simp [get_cons, *]; done) | (refine congrArg (AV.int .i64) (wrap_eq ?_ ?_ ?_) <;> (first | omega | (simp; omega))))
      refine awp_ret ?_
      refine ⟨_, rfl, ?_, ?_⟩
      · rfl
      · rfl
    · rw [if_neg h1]
      repeat' (first | ((refine Qa rfl ?_); (refine Q0 ?_); (refine QX rfl rfl ?_)) | refine Qa rfl ?_ | refine Ql ?_ | refine Qm ?_ | refine Qo rfl ?_)
      refine st_call (fun _ => rfl) rfl ?_
      refine ACalls.mono (hbr _) ?_
      rintro r H' ⟨rfl, rfl⟩
      first | refine nx rfl rfl ?_ | refine nx0 ?_
      repeat' (first | ((refine Qa rfl ?_); (refine Q1 ?_); (refine QX rfl rfl ?_)) | refine Qh ?_ | refine Qs ?_)
      refine awp_pre (imp_cutk 3 (Nat.le_refl _) (hok_dev _) rfl (by simp) (sl' := [(4, .int .i64 wr.2.barrier.1)]) ?_) ?_
      · repeat' (first | exact fa_nil | refine fa_cons ⟨?_, ?_⟩ ?_)
        all_goals (try first | exact rfl | exact trivial | (simp [IdsLt, IdsLtL]; done) | (simp [get_cons]; done) | (simp [get_cons, *]; done) | (refine congrArg (AV.int .i64) (wrap_eq ?_ ?_ ?_) <;> (first | omega | (simp; omega))))
      refine awp_ret ?_
      refine ⟨_, rfl, ?_, ?_⟩
      · rfl
      · rfl
end Go.Abs
namespace Go.Abs
def bestL (o : Option Sb) : List AV := sbF (o.getD zeroS) (match o with | none => .nils | some s => .sl 4 (s.fo.map laA))
def genO (o : Option Sb) : Int := (o.getD zeroS).gen
def pickS (o : Option Sb) (k : Nat) (b : List UInt8) : Option Sb := match decS b k with
  | none => o
  | some s => if s.gen % 2 = (k : Int) ∧ genO o < s.gen then some s else o
def bestN (img : List UInt8) : Nat → Option Sb
  | 0 => none
  | k + 1 => pickS (bestN img k) k ((img.drop (k * 64)).take 64)
def loadD (v : Dv) : Option Sb := if v.check 0 = 0 ∧ v.check 1 = 0 then bestN v.image 2 else none
theorem bestL_ids (o : Option Sb) (n : Nat) : IdsLtL n (bestL o) := by
  cases o with
  | none => exact ⟨trivial, trivial, trivial, trivial, trivial, trivial, trivial, trivial, trivial, trivial, trivial, trivial, trivial, trivial, trivial⟩
  | some s => exact ⟨trivial, trivial, trivial, trivial, trivial, trivial, trivial, trivial, trivial, trivial, trivial, trivial, trivial, la_ids _, trivial⟩
theorem bestL_w {E : Env} {o : Option Sb} {m : Mu} {w : World} {v : Value} (h : E.Rel m w (.tup [.agg (bestL o), .bool o.isSome]) v) : E.Rel m w (optS o) v := by
  cases o with
  | none => exact none_w v h
  | some s => exact h
theorem ACalls.cutD {E : Env} {f : FuncId} {args : List AV} {v v' : Dv} {r0 : AV} (h : ACalls E f args (devH v) (fun r H' => r = r0 ∧ H'.take 3 = devH v')) (hr : IdsLt 0 r0) : ACalls E f args (devH v) (fun r H' => r = r0 ∧ H' = devH v') :=
  h.imp fun r H' ⟨h1, h2⟩ => by
    subst h1
    refine ⟨_, _, ⟨rfl, rfl⟩, imp_cutk 3 (Nat.le_refl _) (hok_dev v') h2 ?_ ?_⟩
    · have : (H'.take 3).length = 3 := by rw [h2]; rfl
      simp at this ⊢; omega
    · exact fa_cons ⟨rfl, (ids_mono (Nat.zero_le _) (show IdsLtL 0 [r] from ⟨hr, trivial⟩)).1⟩ fa_nil
theorem secS_iff {s : Sb} (hg : 1 ≤ s.gen) (k : Nat) : ((secS s : Nat) : Int) = (k : Int) ↔ s.gen % 2 = (k : Int) := by unfold secS; omega
theorem hok_ld (v : Dv) (o : Option Sb) : HOk 5 (devH v ++ [some zOs, some (.cells (bestL o) 50)]) := fun j o' ho => by
  match j, ho with
  | 0, ho => cases ho; exact ⟨by simp [IdsLt], by simp [IdsLt], trivial, trivial, trivial, trivial⟩
  | 1, ho => cases ho; exact idsL_map fun _ => u8A_ids
  | 2, ho => cases ho; exact ⟨by rw [List.map_map]; exact idsL_map fun _ => trivial, by rw [List.map_map]; exact idsL_map fun p => (idsL_map (f := u8A) fun _ => u8A_ids : IdsLtL _ (p.2.map u8A))⟩
  | 3, ho => cases ho; exact bestL_ids none _
  | 4, ho => cases ho; exact bestL_ids o _
theorem hok_rld (o : Option Sb) : HOk 2 [some zOs, some (.cells (bestL o) 50)] := fun j o' ho => by
  match j, ho with
  | 0, ho => cases ho; exact bestL_ids none _
  | 1, ho => cases ho; exact bestL_ids o _
attribute [local irreducible] AStep aops AWp Nx awM
set_option maxHeartbeats 0 in
theorem read_nil (X : Nat → Prop) (i : Int) : ACalls (E0 X) 60 [.nilp, .int .i64 i] [] (fun r H' => r = .tup [.nils, .int .i64 1] ∧ H' = []) := by
  refine acalls_of Proofs.Tryd.func60 rfl Proofs.Tryd.ntmps60 (by kernel_rfl) rfl ?_
  intro hH hargs
  clear hH hargs
  repeat' (first | ((refine Qa rfl ?_); (first | refine Q0 ?_ | refine Q1 ?_); (refine QX rfl rfl ?_)) | refine Qa rfl ?_ | refine Qh ?_ | refine Ql ?_ | refine Qo rfl ?_)
  refine st_call (fun _ => rfl) rfl ?_
  refine ACalls.mono (check_nil X i) ?_
  rintro r H' ⟨rfl, rfl⟩
  first | refine nx rfl rfl ?_ | refine nx0 ?_
  repeat' (first | ((refine Qa rfl ?_); (first | refine Q0 ?_ | refine Q1 ?_ | refine Q2 rfl ?_); (refine QX rfl rfl ?_)) | refine Qh ?_ | refine Ql ?_ | refine Qo rfl ?_ | refine Qp rfl ?_ | refine Qs ?_)
  refine awp_ret ?_
  refine ⟨_, rfl, ?_, ?_⟩
  · rfl
  · rfl
set_option maxHeartbeats 0 in
set_option maxRecDepth 100000 in
theorem sload_nil (X : Nat → Prop) : ACalls (E0 X) 31 [.nilp] [] (fun r H' => r = optS none ∧ H' = []) := by
  refine ACalls.cut0 ?_ (by unfold optS; exact ⟨sbA_ids, trivial, trivial⟩)
  refine ACalls.weakR (R := fun r _ => r = .tup [.agg (bestL none), .bool false]) ?_ ?_
  rotate_left
  · rintro r H' rfl
    exact ⟨_, rfl, fun m w v h => bestL_w (o := none) h⟩
  refine acalls_of Proofs.Tryd.func31 rfl Proofs.Tryd.ntmps31 (by kernel_rfl) rfl ?_
  intro hH hargs
  clear hH hargs
  repeat' (first | ((refine Qa rfl ?_); (first | refine Q0 ?_ | refine Q1 ?_ | refine QJ rfl rfl ?_ | refine QP rfl rfl rfl rfl rfl rfl ?_); (refine QX rfl rfl ?_)) | (refine Qb rfl ?_; try (refine QS rfl rfl rfl rfl rfl rfl rfl ?_; (refine QX rfl rfl ?_))) | refine Qh ?_ | refine Ql ?_ | refine Qn ?_ | refine Qo rfl ?_)
  refine awp_loop2 (fun k : Nat => ⟨[(0, .nilp), (2, .ptr 0 0), (4, .ptr 1 0), (5, .bool false), (12, .int .i64 (k : Int))], [some zOs, some (.cells (bestL none) 50)]⟩) (fun k => k = 0) (fun k => 2 - k) 0 rfl ?_ ?_
  · refine imp_cutk 2 (Nat.zero_le _) (hok_rld none) rfl (by simp) ?_
    repeat' (first | exact fa_nil | refine fa_cons ⟨?_, ?_⟩ ?_)
    all_goals (try first | exact rfl | exact trivial | (simp [IdsLt, IdsLtL]; done) | (simp [get_cons]; done) | (simp [get_cons, *]; done) | (refine congrArg (AV.int .i64) (wrap_eq ?_ ?_ ?_) <;> (first | omega | (simp; omega))))
  rintro k rfl
  repeat' (first | ((refine Qa rfl ?_); (first | refine Q0 ?_ | refine Q1 ?_ | refine Q2 rfl ?_); (refine QX rfl rfl ?_)) | refine Qa rfl ?_ | refine Qh ?_ | refine Ql ?_ | refine Qm ?_ | refine Qn ?_ | refine Qo rfl ?_ | refine Qp rfl ?_)
  refine st_call (fun _ => rfl) rfl ?_
  refine ACalls.mono (acalls_pure (E := E0 X) (fun X => read_nil X 0) (by simp [IdsLtL, IdsLt]) _) ?_
  rintro r H' ⟨rfl, rfl⟩
  first | refine nx rfl rfl ?_ | refine nx0 ?_
  repeat' (first | ((refine Qa rfl ?_); (first | refine Q0 ?_ | refine Q1 ?_ | refine Q2 rfl ?_ | refine QC rfl rfl ?_ | refine QP rfl rfl rfl rfl rfl rfl ?_); (refine QX rfl rfl ?_)) | (refine Qb rfl ?_; try (refine QS rfl rfl rfl rfl rfl rfl rfl ?_; (refine QX rfl rfl ?_))) | refine Qh ?_ | refine Ql ?_ | refine Qo rfl ?_ | refine Qp rfl ?_ | refine Qs ?_)
  refine awp_ret ?_
  exact ⟨_, rfl, rfl⟩
set_option maxHeartbeats 0 in
set_option maxRecDepth 100000 in
theorem sload_c (X : Nat → Prop) (v : Dv) (hv : v.Inv) : ACalls (E0 X) 31 [.ptr 0 0] (devH v) (fun r H' => r = optS (loadD v) ∧ H' = devH v) := by
  have hlv : v.image.length ≤ 1073741824 := by have := hv.load.2.2; omega
  refine ACalls.cutD ?_ (by unfold optS; split <;> exact ⟨sbA_ids, trivial, trivial⟩)
  refine ACalls.weakR (R := fun r H' => r = .tup [.agg (bestL (loadD v)), .bool (loadD v).isSome] ∧ H'.take 3 = devH v) ?_ ?_
  rotate_left
  · rintro r H' ⟨rfl, h⟩
    exact ⟨_, ⟨rfl, h⟩, fun m w v h => bestL_w h⟩
  refine acalls_of Proofs.Tryd.func31 rfl Proofs.Tryd.ntmps31 (by kernel_rfl) rfl ?_
  intro hH hargs
  clear hH hargs
  repeat' (first | ((refine Qa rfl ?_); (first | refine Q0 ?_ | refine Q1 ?_ | refine QJ rfl rfl ?_ | refine QP rfl rfl rfl rfl rfl rfl ?_); (refine QX rfl rfl ?_)) | (refine Qb rfl ?_; try (refine QS rfl rfl rfl rfl rfl rfl rfl ?_; (refine QX rfl rfl ?_))) | refine Qh ?_ | refine Ql ?_ | refine Qn ?_ | refine Qo rfl ?_)
  refine awp_loop2 (fun k : Nat => ⟨[(0, .ptr 0 0), (2, .ptr 3 0), (4, .ptr 4 0), (5, .bool (bestN v.image k).isSome), (12, .int .i64 (k : Int))], devH v ++ [some zOs, some (.cells (bestL (bestN v.image k)) 50)]⟩)
    (fun k => k ≤ 2 ∧ ∀ j : Nat, j < k → v.check j = 0) (fun k => 2 - k) 0 ⟨by omega, fun j h => absurd h (Nat.not_lt_zero j)⟩ ?_ ?_
  · refine imp_cutk 5 (by simp [devH]) (hok_ld v none) rfl (by simp [devH]) ?_
    repeat' (first | exact fa_nil | refine fa_cons ⟨?_, ?_⟩ ?_)
    all_goals (try first | exact rfl | exact trivial | (simp [IdsLt, IdsLtL]; done) | (simp [get_cons]; done) | (simp [get_cons, *]; done) | (refine congrArg (AV.int .i64) (wrap_eq ?_ ?_ ?_) <;> (first | omega | (simp; omega))))
  rintro k ⟨hk, hck⟩
  have hbs : bestN v.image (k + 1) = pickS (bestN v.image k) k ((v.image.drop (k * 64)).take 64) := rfl
  have hdn : k < 2 → v.check k ≠ 0 → loadD v = none := fun h1 h2 => if_neg fun h3 => by
    have : k = 0 ∨ k = 1 := by omega
    rcases this with rfl | rfl
    · exact h2 h3.1
    · exact h2 h3.2
  have hdk : k = 2 → loadD v = bestN v.image k := fun h => by
    subst h
    exact if_pos ⟨hck 0 (by omega), hck 1 (by omega)⟩
  generalize loadD v = res at *
  repeat' (first | ((refine Qa rfl ?_); (refine Q2 rfl ?_); (refine QZ ?_)) | refine Qh ?_ | refine Ql ?_ | refine Qo rfl ?_)
  refine awp_cond_dec rfl (fun h1 => ?_) (fun h1 => ?_)
  · have hk2 : k < 2 := by omega
    have hdn := hdn hk2
    repeat' (first | ((refine Qa rfl ?_); (first | refine Q0 ?_ | refine Q1 ?_); (refine QZ ?_)) | refine Qa rfl ?_ | refine Qh ?_ | refine Ql ?_ | refine Qm ?_ | refine Qn ?_ | refine Qo rfl ?_)
    by_cases hc : v.check (k : Int) = 0
    · obtain ⟨-, j, hj, hj2⟩ := check_in hv hc
      have hjk : j = k := by omega
      subst hjk
      have hbl : ((v.image.drop (j * 64)).take 64).length = 64 := by simp; omega
      have hrd := read_at X v (j : Int) hlv [] [some zOs, some (.cells (bestL (bestN v.image j)) 50)] 0 rfl
      rw [Int.toNat_natCast] at hrd
      generalize (v.image.drop (j * 64)).take 64 = bb at *
      generalize bestN v.image j = o at *
      refine st_call (fun _ => rfl) rfl ?_
      refine ACalls.mono hrd ?_
      rintro r H' (⟨hc2, -, -⟩ | ⟨-, rfl, rfl⟩)
      · exact absurd hc hc2
      first | refine nx rfl rfl ?_ | refine nx0 ?_
      repeat' (first | ((refine Qa rfl ?_); (first | refine Q0 ?_ | refine Q1 ?_ | refine QC rfl rfl ?_); (refine QZ ?_)) | refine Qh ?_)
      refine then_i ?_
      refine awp_pre (Imp.trans (imp_freeze (id := 5) (k := 1) (es := bb.map u8A) (e := 5) rfl rfl rfl) (imp_cutk 5 (by simp [devH]) (hok_ld v o) rfl (by simp [devH, devS])
        (sl' := [(0, .ptr 0 0), (2, .ptr 3 0), (4, .ptr 4 0), (5, .bool o.isSome), (6, .int .i64 (j : Int)), (7, .sl 1 (bb.map u8A)), (8, .int .i64 0), (12, .int .i64 (j : Int))]) ?_)) ?_
      · repeat' (first | exact fa_nil | refine fa_cons ⟨?_, ?_⟩ ?_)
        all_goals (try first | exact rfl | exact trivial | (simp [IdsLt, IdsLtL]; done))
        · show frz 5 1 (bb.map u8A) (.own 5 0 64) = _
          simp [frz, hbl, List.take_of_length_le]
      repeat' (first | ((refine Qa rfl ?_); (first | refine Q0 ?_ | refine Q2 rfl ?_); (refine QZ ?_)) | refine Qa rfl ?_ | refine Qh ?_ | refine Ql ?_ | refine Qm ?_ | refine Qo rfl ?_ | refine Qq rfl ?_)
      have hck2 : ∀ i : Nat, i < j + 1 → v.check i = 0 := fun i hi => by
        rcases Nat.lt_or_ge i j with h | h
        · exact hck i h
        · have : i = j := by omega
          subst this; exact hc
      refine st_call (fun _ => rfl) rfl ?_
      refine ACalls.mono (acalls_pure (E := E0 X) (fun X => sdec_c X bb j (by omega) (by omega)) (by simp [IdsLtL, IdsLt]) _) ?_
      rintro r H' ⟨rfl, rfl⟩
      cases hd : decS bb j with
      | none =>
        have hp1 : pickS o j bb = o := by simp only [pickS, hd]
        show Nx _ (.tup [sbA zeroS, .bool false]) _
        first | refine nx rfl rfl ?_ | refine nx0 ?_
        repeat' (first | ((refine Qa rfl ?_); (first | refine Q0 ?_ | refine Q1 ?_ | refine Q2 rfl ?_ | refine Q5 rfl ?_ | refine QC rfl rfl ?_ | refine QJ rfl rfl ?_); (refine QZ ?_)) | (refine Qb rfl ?_; try (refine QS rfl rfl rfl rfl rfl rfl rfl ?_; (refine QZ ?_))) | refine Qh ?_ | refine Qi rfl ?_ | refine Ql ?_ | refine Qm ?_ | refine Qo rfl ?_ | refine Qq rfl ?_ | refine Qs ?_)
        refine ⟨j + 1, ⟨by omega, hck2⟩, by omega, ?_⟩
        rw [hbs, hp1]
        refine imp_cutk 5 (by simp [devH]) (hok_ld v o) rfl (by simp [devH]) ?_
        repeat' (first | exact fa_nil | refine fa_cons ⟨?_, ?_⟩ ?_)
        all_goals (try first | exact rfl | exact trivial | (simp [IdsLt, IdsLtL]; done) | (simp [get_cons]; done) | (simp [get_cons, *]; done) | (refine congrArg (AV.int .i64) (wrap_eq ?_ ?_ ?_) <;> (first | omega | (simp; omega))))
      | some s =>
        have hg := (sb_ok (decS_valid hd).1).gen
        have hpl := fun X => place_v X s hg
        have hse := secS_iff hg.1 j
        generalize secS s = sc at *
        show Nx _ (.tup [sbA s, .bool true]) _
        first | refine nx rfl rfl ?_ | refine nx0 ?_
        repeat' (first | ((refine Qa rfl ?_); (first | refine Q0 ?_ | refine Q1 ?_ | refine Q3 rfl rfl rfl ?_ | refine Q4 rfl rfl rfl rfl rfl ?_ | refine QC rfl rfl ?_ | refine QJ rfl rfl ?_); (refine QZ ?_)) | refine Qa rfl ?_ | (refine Qb rfl ?_; try (refine QS rfl rfl rfl rfl rfl rfl rfl ?_; (refine QZ ?_))) | refine Qh ?_ | refine Ql ?_ | refine Qo rfl ?_)
        refine st_call (fun _ => rfl) rfl ?_
        refine ACalls.mono (acalls_pure (E := E0 X) (fun X => hpl X) (by simp [IdsLtL, IdsLt]) _) ?_
        rintro r H' ⟨rfl, rfl⟩
        first | refine nx rfl rfl ?_ | refine nx0 ?_
        by_cases hsj : s.gen % 2 = (j : Int)
        · have hsc : sc = j := by have := hse.2 hsj; omega
          subst hsc
          repeat' ((refine Qa rfl ?_); (first | refine Q0 ?_ | refine Q2 rfl ?_ | refine Q5 rfl ?_); (refine QZ ?_))
          rw [decide_eq_true (rfl : (sc : Int) = sc)]
          repeat' (first | ((refine Qa rfl ?_); (first | refine Q2 rfl ?_ | refine Q3 rfl rfl rfl ?_ | refine Q4 rfl rfl rfl rfl rfl ?_ | refine Q5 rfl ?_); (refine QZ ?_)) | refine Qh ?_ | refine Qs ?_)
          refine awp_cond_dec rfl (fun h5 => ?_) (fun h5 => ?_)
          · have hp1 : pickS o sc bb = some s := by simp only [pickS, hd]; exact if_pos ⟨hsj, h5⟩
            repeat' (first | ((refine Qa rfl ?_); (first | refine Q0 ?_ | refine Q1 ?_ | refine Q2 rfl ?_ | refine Q3 rfl rfl rfl ?_); (first | refine QX rfl rfl ?_ | refine QZ ?_)) | (refine Qb rfl ?_; try (refine QS rfl rfl rfl rfl rfl rfl rfl ?_; (refine QX rfl rfl ?_))) | refine Qh ?_ | refine Qo rfl ?_ | refine Qs ?_)
            refine ⟨sc + 1, ⟨by omega, hck2⟩, by omega, ?_⟩
            rw [hbs, hp1]
            refine imp_cutk 5 (by simp [devH]) (hok_ld v (some s)) rfl (by simp [devH]) ?_
            repeat' (first | exact fa_nil | refine fa_cons ⟨?_, ?_⟩ ?_)
            all_goals (try first | exact rfl | exact trivial | (simp [IdsLt, IdsLtL]; done) | (simp [get_cons]; done) | (simp [get_cons, *]; done) | (refine congrArg (AV.int .i64) (wrap_eq ?_ ?_ ?_) <;> (first | omega | (simp; omega))))
          · have hp1 : pickS o sc bb = o := by simp only [pickS, hd]; exact if_neg fun h => h5 h.2
            repeat' (first | ((refine Qa rfl ?_); (first | refine Q0 ?_ | refine Q2 rfl ?_); (refine QZ ?_)) | refine Qh ?_ | refine Qm ?_ | refine Qo rfl ?_ | refine Qs ?_)
            refine ⟨sc + 1, ⟨by omega, hck2⟩, by omega, ?_⟩
            rw [hbs, hp1]
            refine imp_cutk 5 (by simp [devH]) (hok_ld v o) rfl (by simp [devH]) ?_
            repeat' (first | exact fa_nil | refine fa_cons ⟨?_, ?_⟩ ?_)
            all_goals (try first | exact rfl | exact trivial | (simp [IdsLt, IdsLtL]; done) | (simp [get_cons]; done) | (simp [get_cons, *]; done) | (refine congrArg (AV.int .i64) (wrap_eq ?_ ?_ ?_) <;> (first | omega | (simp; omega))))
        · have hsc : ¬ (sc : Int) = j := fun h => hsj (hse.1 h)
          have hp1 : pickS o j bb = o := by simp only [pickS, hd]; exact if_neg fun h => hsj h.1
          repeat' ((refine Qa rfl ?_); (first | refine Q0 ?_ | refine Q2 rfl ?_ | refine Q5 rfl ?_); (refine QZ ?_))
          rw [decide_eq_false hsc]
          repeat' (first | ((refine Qa rfl ?_); (first | refine Q0 ?_ | refine Q2 rfl ?_ | refine Q5 rfl ?_); (refine QZ ?_)) | refine Qh ?_ | refine Qi rfl ?_ | refine Qm ?_ | refine Qo rfl ?_ | refine Qq rfl ?_ | refine Qs ?_)
          refine ⟨j + 1, ⟨by omega, hck2⟩, by omega, ?_⟩
          rw [hbs, hp1]
          refine imp_cutk 5 (by simp [devH]) (hok_ld v o) rfl (by simp [devH]) ?_
          repeat' (first | exact fa_nil | refine fa_cons ⟨?_, ?_⟩ ?_)
          all_goals (try first | exact rfl | exact trivial | (simp [IdsLt, IdsLtL]; done) | (simp [get_cons]; done) | (simp [get_cons, *]; done) | (refine congrArg (AV.int .i64) (wrap_eq ?_ ?_ ?_) <;> (first | omega | (simp; omega))))
    · have hdn := hdn hc
      subst hdn
      refine st_call (fun _ => rfl) rfl ?_
      refine ACalls.mono (read_at X v (k : Int) hlv [] [some zOs, some (.cells (bestL (bestN v.image k)) 50)] 0 rfl) ?_
      rintro r H' (⟨-, rfl, rfl⟩ | ⟨hc2, -, -⟩)
      rotate_left
      · exact absurd hc2 hc
      first | refine nx rfl rfl ?_ | refine nx0 ?_
      repeat' (first | ((refine Qa rfl ?_); (first | refine Q0 ?_ | refine Q1 ?_ | refine Q2 rfl ?_ | refine QC rfl rfl ?_); (refine QZ ?_)) | refine Qh ?_ | refine Ql ?_ | refine Qo rfl ?_ | refine Qs ?_)
      refine awp_cond_dec rfl (fun h4 => ?_) (fun h4 => ?_)
      · skip
        repeat' (first | ((refine Qa rfl ?_); (first | refine Q1 ?_ | refine QP rfl rfl rfl rfl rfl rfl ?_); (refine QZ ?_)) | (refine Qb rfl ?_; try (refine QS rfl rfl rfl rfl rfl rfl rfl ?_; (refine QZ ?_))) | refine Qh ?_ | refine Ql ?_ | refine Qo rfl ?_ | refine Qs ?_)
        refine awp_ret ?_
        exact ⟨_, rfl, rfl, rfl⟩
      · exact absurd (by omega) hc
  · have hk2 : k = 2 := by omega
    have hdk := hdk hk2
    rw [hdk]
    generalize bestN v.image k = o
    cases o with
    | none =>
      repeat' (first | ((refine Qa rfl ?_); (first | refine Q0 ?_ | refine Q1 ?_ | refine Q3 rfl rfl rfl ?_); (refine QX rfl rfl ?_)) | (refine Qb rfl ?_; try (refine QS rfl rfl rfl rfl rfl rfl rfl ?_; (refine QX rfl rfl ?_))) | refine Qh ?_ | refine Ql ?_ | refine Qo rfl ?_ | refine Qr ?_ | refine Qs ?_)
      refine awp_ret ?_
      exact ⟨_, rfl, rfl, rfl⟩
    | some s =>
      repeat' (first | ((refine Qa rfl ?_); (first | refine Q0 ?_ | refine Q1 ?_ | refine Q3 rfl rfl rfl ?_); (refine QX rfl rfl ?_)) | (refine Qb rfl ?_; try (refine QS rfl rfl rfl rfl rfl rfl rfl ?_; (refine QX rfl rfl ?_))) | refine Qh ?_ | refine Ql ?_ | refine Qo rfl ?_ | refine Qr ?_ | refine Qs ?_)
      refine awp_ret ?_
      exact ⟨_, rfl, rfl, rfl⟩
end Go.Abs
namespace Go.Abs
attribute [local irreducible] AStep aops AWp Nx awM
set_option maxHeartbeats 0 in
set_option maxRecDepth 100000 in
theorem rsload_c (X : Nat → Prop) (img : List UInt8) (hl : 128 ≤ img.length) (hl2 : img.length ≤ 1000) : ACalls (E0 X) 34 [.sl 1 (img.map u8A)] [] (fun r H' => r = optS (bestN img 2) ∧ H' = []) := by
  refine ACalls.cut0 ?_ (by unfold optS; split <;> exact ⟨sbA_ids, trivial, trivial⟩)
  refine ACalls.weakR (R := fun r _ => r = .tup [.agg (bestL (bestN img 2)), .bool (bestN img 2).isSome]) ?_ ?_
  rotate_left
  · rintro r H' rfl
    exact ⟨_, rfl, fun m w v h => bestL_w h⟩
  refine acalls_of Proofs.Tryd.func34 rfl Proofs.Tryd.ntmps34 (by kernel_rfl) rfl ?_
  intro hH hargs
  clear hH hargs
  repeat' (first | ((refine Qa rfl ?_); (first | refine Q1 ?_ | refine QJ rfl rfl ?_); (refine QX rfl rfl ?_)) | refine Qh ?_ | refine Ql ?_ | refine Qn ?_ | refine Qo rfl ?_)
  refine awp_loop2 (fun k : Nat => ⟨[(0, .sl 1 (img.map u8A)), (2, .ptr 0 0), (4, .ptr 1 0), (5, .bool (bestN img k).isSome), (6, .int .i64 (k : Int))], [some zOs, some (.cells (bestL (bestN img k)) 50)]⟩)
    (fun k => k ≤ 2) (fun k => 2 - k) 0 (by omega) ?_ ?_
  · refine imp_cutk 2 (Nat.zero_le _) (hok_rld none) rfl (by simp) ?_
    repeat' (first | exact fa_nil | refine fa_cons ⟨?_, ?_⟩ ?_)
    all_goals (try first | exact rfl | exact trivial | (simp [IdsLt, IdsLtL]; done) | (simp [get_cons]; done) | (simp [get_cons, *]; done) | (refine congrArg (AV.int .i64) (wrap_eq ?_ ?_ ?_) <;> (first | omega | (simp; omega))))
  rintro j hk
  have hbs : bestN img (j + 1) = pickS (bestN img j) j ((img.drop (j * 64)).take 64) := rfl
  have hdk : j = 2 → bestN img 2 = bestN img j := fun h => by rw [h]
  generalize bestN img 2 = res at *
  repeat' (first | ((refine Qa rfl ?_); (first | refine Q0 ?_ | refine Q2 rfl ?_); (refine QZ ?_)) | refine Qh ?_ | refine Ql ?_ | refine Qo rfl ?_ | refine Qs ?_)
  refine awp_cond_dec rfl (fun h1 => ?_) (fun h1 => ?_)
  · have hk2 : j < 2 := by omega
    have hbl : ((img.drop (j * 64)).take 64).length = 64 := by simp; omega
    have e1 : IntKind.i64.wrap ((j : Int) * 64) = ((j * 64 : Nat) : Int) := wrap_eq (by omega) (by omega) (by omega)
    have e2 : IntKind.i64.wrap (((j * 64 : Nat) : Int) + 64) = ((j * 64 + 64 : Nat) : Int) := wrap_eq (by omega) (by omega) (by omega)
    repeat' (first | ((refine Qa rfl ?_); (first | refine Q0 ?_ | refine Q2 rfl ?_); (refine QZ ?_)) | refine Qa rfl ?_ | refine Ql ?_ | refine Qm ?_ | refine Qn ?_ | refine Qo rfl ?_)
    rw [e1, e2]
    refine st_sls (l := j * 64) (h := j * 64 + 64) (ys := (img.drop (j * 64)).take 64) (bnd_some rfl rfl) (bnd_some rfl rfl) (by omega) (by omega) (by rw [List.drop_take]; congr 1; omega) rfl rfl rfl rfl rfl ?_
    first | refine nx rfl rfl ?_ | refine nx0 ?_
    generalize (img.drop (j * 64)).take 64 = bb at *
    generalize bestN img j = o at *
    repeat' (first | ((refine Qa rfl ?_); (refine Q0 ?_); (refine QZ ?_)) | refine Qa rfl ?_)
    refine st_call (fun _ => rfl) rfl ?_
    refine ACalls.mono (acalls_pure (E := E0 X) (fun X => rsdec_c X bb j (by omega) (by omega)) (by simp [IdsLtL, IdsLt]) _) ?_
    rintro r H' ⟨rfl, rfl⟩
    cases hd : decS bb j with
    | none =>
      have hp1 : pickS o j bb = o := by simp only [pickS, hd]
      show Nx _ (.tup [sbA zeroS, .bool false]) _
      first | refine nx rfl rfl ?_ | refine nx0 ?_
      repeat' (first | ((refine Qa rfl ?_); (first | refine Q0 ?_ | refine Q1 ?_ | refine Q2 rfl ?_ | refine Q5 rfl ?_ | refine QC rfl rfl ?_ | refine QJ rfl rfl ?_); (refine QZ ?_)) | (refine Qb rfl ?_; try (refine QS rfl rfl rfl rfl rfl rfl rfl ?_; (refine QZ ?_))) | refine Qh ?_ | refine Qi rfl ?_ | refine Ql ?_ | refine Qm ?_ | refine Qo rfl ?_ | refine Qq rfl ?_ | refine Qs ?_)
      refine ⟨j + 1, by omega, by omega, ?_⟩
      rw [hbs, hp1]
      refine imp_cutk 2 (Nat.zero_le _) (hok_rld o) rfl (by simp) ?_
      repeat' (first | exact fa_nil | refine fa_cons ⟨?_, ?_⟩ ?_)
      all_goals (try first | exact rfl | exact trivial | (simp [IdsLt, IdsLtL]; done) | (simp [get_cons]; done) | (simp [get_cons, *]; done) | (refine congrArg (AV.int .i64) (wrap_eq ?_ ?_ ?_) <;> (first | omega | (simp; omega))))
    | some s =>
      have hg := (sb_ok (decS_valid hd).1).gen
      have htm : s.gen.tmod 2 = s.gen % 2 := Int.tmod_eq_emod_of_nonneg (by omega)
      show Nx _ (.tup [sbA s, .bool true]) _
      first | refine nx rfl rfl ?_ | refine nx0 ?_
      repeat' (first | ((refine Qa rfl ?_); (first | refine Q0 ?_ | refine Q1 ?_ | refine Q2 rfl ?_ | refine Q3 rfl rfl rfl ?_ | refine Q4 rfl rfl rfl rfl rfl ?_ | refine Q5 rfl ?_ | refine QB rfl rfl (by decide) ?_ | refine QC rfl rfl ?_ | refine QJ rfl rfl ?_); (refine QZ ?_)) | (refine Qb rfl ?_; try (refine QS rfl rfl rfl rfl rfl rfl rfl ?_; (refine QZ ?_))) | refine Qh ?_ | refine Ql ?_ | refine Qo rfl ?_)
      rw [htm]
      by_cases hsj : s.gen % 2 = (j : Int)
      · rw [decide_eq_true hsj]
        cases o with
        | none =>
          have hp1 : pickS none j bb = some s := by simp only [pickS, hd]; exact if_pos ⟨hsj, by show (0 : Int) < s.gen; omega⟩
          repeat' (first | ((refine Qa rfl ?_); (first | refine Q0 ?_ | refine Q1 ?_ | refine Q2 rfl ?_ | refine Q3 rfl rfl rfl ?_ | refine Q5 rfl ?_ | refine QD rfl ?_); (refine QX rfl rfl ?_)) | (refine Qb rfl ?_; try (refine QS rfl rfl rfl rfl rfl rfl rfl ?_; (refine QX rfl rfl ?_))) | refine Qh ?_ | refine Qi rfl ?_ | refine Qo rfl ?_ | refine Qp rfl ?_ | refine Qs ?_)
          refine ⟨j + 1, by omega, by omega, ?_⟩
          rw [hbs, hp1]
          refine imp_cutk 2 (Nat.zero_le _) (hok_rld (some s)) rfl (by simp) ?_
          repeat' (first | exact fa_nil | refine fa_cons ⟨?_, ?_⟩ ?_)
          all_goals (try first | exact rfl | exact trivial | (simp [IdsLt, IdsLtL]; done) | (simp [get_cons]; done) | (simp [get_cons, *]; done) | (refine congrArg (AV.int .i64) (wrap_eq ?_ ?_ ?_) <;> (first | omega | (simp; omega))))
        | some s2 =>
          repeat' (first | ((refine Qa rfl ?_); (first | refine Q0 ?_ | refine Q2 rfl ?_ | refine Q3 rfl rfl rfl ?_ | refine Q4 rfl rfl rfl rfl rfl ?_ | refine Q5 rfl ?_ | refine QD rfl ?_); (refine QX rfl rfl ?_)) | refine Qh ?_ | refine Qs ?_)
          refine awp_cond_dec rfl (fun h5 => ?_) (fun h5 => ?_)
          · have hp1 : pickS (some s2) j bb = some s := by simp only [pickS, hd]; exact if_pos ⟨hsj, h5⟩
            repeat' (first | ((refine Qa rfl ?_); (first | refine Q0 ?_ | refine Q1 ?_ | refine Q2 rfl ?_ | refine Q3 rfl rfl rfl ?_); (refine QX rfl rfl ?_)) | (refine Qb rfl ?_; try (refine QS rfl rfl rfl rfl rfl rfl rfl ?_; (refine QX rfl rfl ?_))) | refine Qh ?_ | refine Qo rfl ?_ | refine Qs ?_)
            refine ⟨j + 1, by omega, by omega, ?_⟩
            rw [hbs, hp1]
            refine imp_cutk 2 (Nat.zero_le _) (hok_rld (some s)) rfl (by simp) ?_
            repeat' (first | exact fa_nil | refine fa_cons ⟨?_, ?_⟩ ?_)
            all_goals (try first | exact rfl | exact trivial | (simp [IdsLt, IdsLtL]; done) | (simp [get_cons]; done) | (simp [get_cons, *]; done) | (refine congrArg (AV.int .i64) (wrap_eq ?_ ?_ ?_) <;> (first | omega | (simp; omega))))
          · have hp1 : pickS (some s2) j bb = some s2 := by simp only [pickS, hd]; exact if_neg fun h => h5 h.2
            repeat' (first | ((refine Qa rfl ?_); (first | refine Q0 ?_ | refine Q1 ?_ | refine Q2 rfl ?_); (refine QX rfl rfl ?_)) | refine Qh ?_ | refine Qm ?_ | refine Qo rfl ?_ | refine Qs ?_)
            refine ⟨j + 1, by omega, by omega, ?_⟩
            rw [hbs, hp1]
            refine imp_cutk 2 (Nat.zero_le _) (hok_rld (some s2)) rfl (by simp) ?_
            repeat' (first | exact fa_nil | refine fa_cons ⟨?_, ?_⟩ ?_)
            all_goals (try first | exact rfl | exact trivial | (simp [IdsLt, IdsLtL]; done) | (simp [get_cons]; done) | (simp [get_cons, *]; done) | (refine congrArg (AV.int .i64) (wrap_eq ?_ ?_ ?_) <;> (first | omega | (simp; omega))))
      · have hp1 : pickS o j bb = o := by simp only [pickS, hd]; exact if_neg fun h => hsj h.1
        rw [decide_eq_false hsj]
        repeat' (first | ((refine Qa rfl ?_); (first | refine Q0 ?_ | refine Q1 ?_ | refine Q2 rfl ?_ | refine Q5 rfl ?_); (refine QZ ?_)) | refine Qh ?_ | refine Qi rfl ?_ | refine Qm ?_ | refine Qo rfl ?_ | refine Qq rfl ?_ | refine Qs ?_)
        refine ⟨j + 1, by omega, by omega, ?_⟩
        rw [hbs, hp1]
        refine imp_cutk 2 (Nat.zero_le _) (hok_rld o) rfl (by simp) ?_
        repeat' (first | exact fa_nil | refine fa_cons ⟨?_, ?_⟩ ?_)
        all_goals (try first | exact rfl | exact trivial | (simp [IdsLt, IdsLtL]; done) | (simp [get_cons]; done) | (simp [get_cons, *]; done) | (refine congrArg (AV.int .i64) (wrap_eq ?_ ?_ ?_) <;> (first | omega | (simp; omega))))
  · have hk2 : j = 2 := by omega
    have hdk := hdk hk2
    rw [hdk]
    generalize bestN img j = o
    cases o with
    | none =>
      repeat' (first | ((refine Qa rfl ?_); (first | refine Q0 ?_ | refine Q1 ?_ | refine Q3 rfl rfl rfl ?_); (refine QX rfl rfl ?_)) | (refine Qb rfl ?_; try (refine QS rfl rfl rfl rfl rfl rfl rfl ?_; (refine QX rfl rfl ?_))) | refine Qh ?_ | refine Ql ?_ | refine Qo rfl ?_ | refine Qr ?_ | refine Qs ?_)
      refine awp_ret ?_
      exact ⟨_, rfl, rfl⟩
    | some s =>
      repeat' (first | ((refine Qa rfl ?_); (first | refine Q0 ?_ | refine Q1 ?_ | refine Q3 rfl rfl rfl ?_); (refine QX rfl rfl ?_)) | (refine Qb rfl ?_; try (refine QS rfl rfl rfl rfl rfl rfl rfl ?_; (refine QX rfl rfl ?_))) | refine Qh ?_ | refine Ql ?_ | refine Qo rfl ?_ | refine Qr ?_ | refine Qs ?_)
      refine awp_ret ?_
      exact ⟨_, rfl, rfl⟩
end Go.Abs
namespace Go.Abs
def Dv.pubd (v : Dv) (s : Sb) : Dv := { v.put (secS s) (encS s (secS s)) with old := [] }
theorem Lv.pubd {L : Nat} {v : Dv} (h : Lv L v) (hL : 128 ≤ L) (s : Sb) : Lv L (v.pubd s) := by
  have h1 := secS_lt s
  exact (h.put (k := secS s) (by omega) (b := encS s (secS s)) (by rw [encS_len]; decide)).clean
theorem Lv.pub {L : Nat} {v : Dv} (h : Lv L v) (hL : 128 ≤ L) {s : Sb} (hb : sbB s = true) : v.pub s = (0, v.pubd s) := by
  have h1 := secS_lt s
  have hw := h.write (k := secS s) (by omega) (b := encS s (secS s)) (by rw [encS_len]; decide)
  have hbr := (h.put (k := secS s) (by omega) (b := encS s (secS s)) (by rw [encS_len]; decide)).bar
  unfold Dv.pub
  rw [if_pos hb, hw]
  simp only [ne_eq, not_true_eq_false, if_false]
  rw [hbr]
  rfl
theorem pubd_sec {v : Dv} {s : Sb} {j : Nat} (hL : 128 ≤ v.image.length) (hj : j * 64 + 64 ≤ v.image.length) :
    ((v.pubd s).image.drop (j * 64)).take 64 = if j = secS s then encS s (secS s) else (v.image.drop (j * 64)).take 64 := by
  have h1 := secS_lt s
  exact sec_put (v := v) (k := secS s) (j := j) (b := encS s (secS s)) (by omega) (encS_len _ _) hj
theorem loadD_of {L : Nat} {v : Dv} (h : Lv L v) (hL : 128 ≤ L) : loadD v = bestN v.image 2 := by
  refine if_pos ⟨check_ok h.inv h.dead (k := 0) (by rw [h.len]; omega), check_ok h.inv h.dead (k := 1) (by rw [h.len]; omega)⟩
theorem pickS_none {o : Option Sb} {k : Nat} {b : List UInt8} (h : decS b k = none) : pickS o k b = o := by simp only [pickS, h]
theorem pickS_some {o : Option Sb} {k : Nat} {b : List UInt8} {s : Sb} (h : decS b k = some s) (h1 : s.gen % 2 = (k : Int)) (h2 : genO o < s.gen) : pickS o k b = some s := by
  simp only [pickS, h]; exact if_pos ⟨h1, h2⟩
theorem bestN_two (img : List UInt8) : bestN img 2 = pickS (pickS none 0 ((img.drop (0 * 64)).take 64)) 1 ((img.drop (1 * 64)).take 64) := rfl
theorem bestN_valid {img : List UInt8} {s : Sb} : ∀ {k : Nat}, bestN img k = some s → sbB s = true
  | 0, h => by cases h
  | k + 1, h => by
    simp only [bestN, pickS] at h
    split at h
    · exact bestN_valid h
    · rename_i s2 hd
      split at h
      · injection h with h; subst h; exact (decS_valid hd).1
      · exact bestN_valid h
theorem publish_w (X : Nat → Prop) (v : Dv) (hv : v.Ok) (s : Sb) (fv : AV) (hfv : ∀ m w v, (E0 X).Rel m w fv v → (E0 X).Rel m w (.sl 4 (s.fo.map laA)) v) (hfl : s.fo.length ≤ 4611686018427387904) :
    ACalls (E0 X) 36 [.ptr 0 0, .agg (sbF s fv)] (devH v) (fun r H' => r = .int .i64 (v.pub s).1 ∧ H' = devH (v.pub s).2) :=
  ACalls.weak (publish_c X v hv s hfl) fun m w vs h => by
    obtain ⟨u1, r1, rfl, h1, h⟩ := relL_cons.1 h
    obtain ⟨u2, r2, rfl, h2, h⟩ := relL_cons.1 h
    exact RelL.cons h1 (RelL.cons (rel_sbF (hfv m w) h2) h)
theorem seq_w (X : Nat → Prop) (a : Sb) (ha : a.fo.length ≤ 4611686018427387904) : ACalls (E0 X) 33 [sbA a, .agg (sbF zeroS .nils)] [] (fun r H' => r = .bool (decide (a = zeroS)) ∧ H' = []) :=
  ACalls.weak (seq_c X a zeroS ha) fun m w vs h => by
    obtain ⟨u1, r1, rfl, h1, h⟩ := relL_cons.1 h
    obtain ⟨u2, r2, rfl, h2, h⟩ := relL_cons.1 h
    exact RelL.cons h1 (RelL.cons (rel_sbF (rel_nil4 m w) h2) h)
def awS : Sb := ⟨1, 1, 0, 0, 0, ⟨1, 1, 4, 4⟩, ⟨0, 0, 0, 0⟩, []⟩
theorem awS_ok : sbB awS = true := by kernel_rfl
def lz2 : List UInt8 := List.replicate ((2 : Int).toNat * 64) 0
theorem lz2_lv : Lv 128 (Dv.fresh lz2) := lv_new 2 (by decide) (by decide)
def aw2 : Dv := (Dv.fresh lz2).pubd awS
theorem aw2_lv : Lv 128 aw2 := lz2_lv.pubd (by decide) awS
theorem lz2_sec (j : Nat) (hj : j < 2) : ((Dv.fresh lz2).image.drop (j * 64)).take 64 = List.replicate 64 0 := by
  simp only [Dv.fresh, lz2, List.drop_replicate, List.take_replicate]
  congr 1
  omega
theorem aw2_l0 : loadD (Dv.fresh lz2) = none := by
  rw [loadD_of lz2_lv (by decide)]
  rw [bestN_two, lz2_sec 0 (by decide), lz2_sec 1 (by decide), pickS_none (decS_zero 0), pickS_none (decS_zero 1)]
theorem aw2_l1 : loadD aw2 = some awS := by
  have hs : secS awS = 1 := by decide
  have hl : (Dv.fresh lz2).image.length = 128 := lz2_lv.len
  rw [loadD_of aw2_lv (by decide)]
  have h0 : (aw2.image.drop (0 * 64)).take 64 = List.replicate 64 0 := by
    show ((Dv.pubd (Dv.fresh lz2) awS).image.drop (0 * 64)).take 64 = _
    rw [pubd_sec (by rw [hl]; decide) (by rw [hl]; decide), hs, if_neg (by decide), lz2_sec 0 (by decide)]
  have h1 : (aw2.image.drop (1 * 64)).take 64 = encS awS 1 := by
    show ((Dv.pubd (Dv.fresh lz2) awS).image.drop (1 * 64)).take 64 = _
    rw [pubd_sec (by rw [hl]; decide) (by rw [hl]; decide), hs, if_pos rfl]
  rw [bestN_two, h0, h1, pickS_none (decS_zero 0), pickS_some (decS_encS awS_ok 1) (by decide) (by decide)]
theorem aw2_pub : (Dv.fresh lz2).pub awS = (0, aw2) := lz2_lv.pub (by decide) awS_ok
theorem aw2_old : aw2.old = [] := rfl
attribute [local irreducible] AStep aops AWp Nx awM
attribute [local irreducible] aw2 lz2
set_option maxHeartbeats 0 in
set_option maxRecDepth 100000 in
theorem pawake_c (X : Nat → Prop) : ACalls (E0 X) 32 [] [] (fun r H' => r = .bool true ∧ H' = []) := by
  have hnew : ACalls (E0 X) 19 [.int .i64 2] [] (fun r H' => r = .ptr 0 0 ∧ H' = devH (Dv.fresh lz2)) := (new_c X 2).mono fun r H' h => by
    rcases h with ⟨_, _, h1, h2⟩ | ⟨h1, _⟩
    · refine ⟨h1, h2.trans ?_⟩
      unfold lz2; rfl
    · exact absurd ⟨by decide, by decide⟩ h1
  have hl0 := fun R => dev_l (fun X => sload_c X (Dv.fresh lz2) lz2_lv.inv) trivial (by rw [aw2_l0]; exact ⟨sbA_ids, trivial, trivial⟩) R (X := X)
  rw [aw2_l0] at hl0
  have hpb := fun R => dev_l (fun X => publish_w X (Dv.fresh lz2) lz2_lv.inv.ok awS .nils rel_nil4 (by decide)) ⟨⟨trivial, trivial, trivial, trivial, trivial, trivial, trivial, trivial, trivial, trivial, trivial, trivial, trivial, trivial, trivial⟩, trivial⟩ trivial R (X := X)
  rw [aw2_pub] at hpb
  have hl1 := fun R => dev_l (fun X => sload_c X aw2 aw2_lv.inv) trivial (by rw [aw2_l1]; exact ⟨sbA_ids, trivial, trivial⟩) R (X := X)
  rw [aw2_l1] at hl1
  have hdi := fun R => dev_l (fun X => dirty_c X aw2) trivial trivial R (X := X)
  rw [aw2_old] at hdi
  refine acalls_of Proofs.Tryd.func32 rfl Proofs.Tryd.ntmps32 (by kernel_rfl) rfl ?_
  intro hH hargs
  clear hH hargs
  repeat' (first | ((refine Qa rfl ?_); (refine Q1 ?_); (refine QX rfl rfl ?_)) | refine Qa rfl ?_ | refine Qh ?_ | refine Ql ?_ | refine Qo rfl ?_)
  refine st_call (fun _ => rfl) rfl ?_
  refine ACalls.mono (hnew) ?_
  rintro r H' ⟨rfl, rfl⟩
  first | refine nx rfl rfl ?_ | refine nx0 ?_
  repeat' (first | ((refine Qa rfl ?_); (first | refine Q0 ?_ | refine Q1 ?_ | refine QJ rfl rfl ?_ | refine QP rfl rfl rfl rfl rfl rfl ?_); (refine QX rfl rfl ?_)) | refine Qa rfl ?_ | (refine Qb rfl ?_; try (refine QS rfl rfl rfl rfl rfl rfl rfl ?_; (refine QX rfl rfl ?_))) | refine Qh ?_ | refine Ql ?_ | refine Qo rfl ?_)
  refine st_call (fun _ => rfl) rfl ?_
  refine ACalls.mono (hl0 _) ?_
  rintro r H' ⟨rfl, rfl⟩
  first | refine nx rfl rfl ?_ | refine nx0 ?_
  repeat' (first | ((refine Qa rfl ?_); (first | refine Q0 ?_ | refine Q1 ?_ | refine Q3 rfl rfl rfl ?_ | refine QC rfl rfl ?_ | refine QJ rfl rfl ?_); (refine QX rfl rfl ?_)) | refine Qa rfl ?_ | (refine Qb rfl ?_; try (refine QS rfl rfl rfl rfl rfl rfl rfl ?_; (refine QX rfl rfl ?_))) | refine Qh ?_ | refine Ql ?_ | refine Qo rfl ?_)
  refine st_call (fun _ => rfl) rfl ?_
  refine ACalls.mono (hpb _) ?_
  rintro r H' ⟨rfl, rfl⟩
  first | refine nx rfl rfl ?_ | refine nx0 ?_
  repeat' (first | ((refine Qa rfl ?_); (first | refine Q0 ?_ | refine Q1 ?_); (refine QX rfl rfl ?_)) | refine Qa rfl ?_ | refine Qh ?_ | refine Ql ?_ | refine Qo rfl ?_)
  refine st_call (fun _ => rfl) rfl ?_
  refine ACalls.mono (hl1 _) ?_
  rintro r H' ⟨rfl, rfl⟩
  first | refine nx rfl rfl ?_ | refine nx0 ?_
  repeat' (first | ((refine Qa rfl ?_); (first | refine Q0 ?_ | refine Q1 ?_ | refine Q2 rfl ?_ | refine Q3 rfl rfl rfl ?_ | refine Q4 rfl rfl rfl rfl rfl ?_ | refine Q5 rfl ?_ | refine QC rfl rfl ?_ | refine QD rfl ?_ | refine QJ rfl rfl ?_); (refine QX rfl rfl ?_)) | refine Qa rfl ?_ | (refine Qb rfl ?_; try (refine QS rfl rfl rfl rfl rfl rfl rfl ?_; (refine QX rfl rfl ?_))) | refine Qh ?_ | refine Ql ?_ | refine Qo rfl ?_)
  refine st_call (fun _ => rfl) rfl ?_
  refine ACalls.mono (hdi _) ?_
  rintro r H' ⟨rfl, rfl⟩
  first | refine nx rfl rfl ?_ | refine nx0 ?_
  repeat' (first | ((refine Qa rfl ?_); (first | refine Q1 ?_ | refine Q2 rfl ?_ | refine Q5 rfl ?_); (refine QX rfl rfl ?_)) | refine Qh ?_ | refine Qs ?_)
  refine awp_pre (imp_cutk 0 (Nat.le_refl _) hok_nil rfl (by simp) (sl' := [(0, .bool true)]) ?_) ?_
  · repeat' (first | exact fa_nil | refine fa_cons ⟨?_, ?_⟩ ?_)
    all_goals (try first | exact rfl | exact trivial | (simp [IdsLt, IdsLtL]; done) | (simp [get_cons]; done) | (simp [get_cons, *]; done) | (refine congrArg (AV.int .i64) (wrap_eq ?_ ?_ ?_) <;> (first | omega | (simp; omega))))
  refine awp_ret ?_
  refine ⟨_, rfl, ?_, ?_⟩
  · rfl
  · rfl
end Go.Abs
namespace Go.Abs
theorem loadD_short {img : List UInt8} (h : LoadOk img.length) (hl : img.length < 128) : loadD (Dv.fresh img) = none := by
  refine if_neg fun h2 => ?_
  have h3 := h2.2
  rw [check_eq (inv_fresh h)] at h3
  have h4 : (Dv.fresh img).dead = false := rfl
  have h5 : (Dv.fresh img).image = img := rfl
  rw [h4, h5] at h3
  simp only [Bool.false_eq_true, if_false] at h3
  rw [if_pos (.inr (by omega))] at h3
  omega
theorem lv_fresh {img : List UInt8} (h : LoadOk img.length) : Lv img.length (Dv.fresh img) := ⟨inv_fresh h, rfl, rfl, rfl⟩
theorem seq_o (X : Nat → Prop) (o : Option Sb) (h : ∀ s, o = some s → sbB s = true) : ACalls (E0 X) 33 [sbA (o.getD zeroS), sbA (o.getD zeroS)] [] (fun r H' => r = .bool true ∧ H' = []) := by
  refine (seq_c X (o.getD zeroS) (o.getD zeroS) ?_).mono ?_
  · cases o with
    | none => exact Nat.zero_le _
    | some s => have := (sb_ok (h s rfl)).len; show s.fo.length ≤ _; omega
  · rintro r H' ⟨rfl, rfl⟩
    rw [decide_eq_true rfl]
    exact ⟨rfl, rfl⟩
theorem sbFn_ids {n : Nat} {s : Sb} : IdsLt n (.agg (sbF s .nils)) := ⟨trivial, trivial, trivial, trivial, trivial, trivial, trivial, trivial, trivial, trivial, trivial, trivial, trivial, trivial, trivial⟩
theorem optS_eq (o : Option Sb) : optS o = .tup [sbA (o.getD zeroS), .bool o.isSome] := by cases o <;> rfl
attribute [local irreducible] AStep aops AWp Nx awM
set_option maxHeartbeats 0 in
set_option maxRecDepth 100000 in
theorem pairLoad_c (X : Nat → Prop) (l : List UInt8) (hl : l.length ≤ maxLen) : ACalls (E0 X) 7 [.sl 1 (l.map u8A)] [] (fun r H' => r = .bool true ∧ H' = []) := by
  have hm : l.length ≤ 9223372036854775807 := by simp [maxLen] at hl; omega
  refine acalls_of Proofs.Tryd.func7 rfl Proofs.Tryd.ntmps7 (by kernel_rfl) rfl ?_
  intro hH hargs
  clear hH hargs
  repeat' (first | ((refine Qa rfl ?_); (first | refine Q0 ?_ | refine Q1 ?_ | refine Q7 rfl rfl rfl ?_ | refine QE rfl rfl ?_); (refine QX rfl rfl ?_)) | refine Qa rfl ?_ | refine Qh ?_ | refine Ql ?_ | refine Qo rfl ?_)
  refine st_sls (l := 0) (h := min l.length 256) (ys := l.take (min l.length 256)) (bnd_none) (bnd_some rfl (by rw [List.length_map]; omega)) (by omega) (by omega) (by rw [List.drop_zero]) rfl rfl rfl rfl rfl ?_
  first | refine nx rfl rfl ?_ | refine nx0 ?_
  have h256 : (l.take (min l.length 256)).length ≤ 256 := by simp; omega
  generalize l.take (min l.length 256) = img at *
  repeat' (first | ((refine Qa rfl ?_); (first | refine Q0 ?_ | refine Q1 ?_); (refine QX rfl rfl ?_)) | refine Qa rfl ?_ | refine Qh ?_ | refine Ql ?_ | refine Qo rfl ?_)
  by_cases hok : LoadOk img.length
  · have hsl := fun R => dev_l (fun X => sload_c X (Dv.fresh img) (inv_fresh hok)) trivial (by unfold optS; split <;> exact ⟨sbA_ids, trivial, trivial⟩) R (X := X)
    refine st_call (fun _ => rfl) rfl ?_
    refine ACalls.mono (load_sl X img (by omega)) ?_
    rintro r H' (⟨-, rfl, rfl⟩ | ⟨h, -, -⟩)
    rotate_left
    · exact absurd hok h
    first | refine nx rfl rfl ?_ | refine nx0 ?_
    repeat' (first | ((refine Qa rfl ?_); (first | refine Q0 ?_ | refine Q1 ?_); (refine QX rfl rfl ?_)) | refine Qa rfl ?_ | refine Qh ?_ | refine Ql ?_ | refine Qo rfl ?_)
    by_cases h128 : img.length < 128
    · rw [loadD_short hok h128] at hsl
      refine st_call (fun _ => rfl) rfl ?_
      refine ACalls.mono (hsl _) ?_
      rintro r H' ⟨rfl, rfl⟩
      first | refine nx rfl rfl ?_ | refine nx0 ?_
      repeat' (first | ((refine Qa rfl ?_); (first | refine Q0 ?_ | refine Q1 ?_ | refine Q2 rfl ?_ | refine Q7 rfl rfl rfl ?_ | refine QC rfl rfl ?_ | refine QJ rfl rfl ?_); (refine QX rfl rfl ?_)) | (refine Qb rfl ?_; try (refine QS rfl rfl rfl rfl rfl rfl rfl ?_; (refine QX rfl rfl ?_))) | refine Qh ?_ | refine Ql ?_ | refine Qo rfl ?_)
      rw [decide_eq_true (show ((img.map u8A).length : Int) < 128 by rw [List.length_map]; omega)]
      repeat' (first | ((refine Qa rfl ?_); (refine Q5 rfl ?_); (refine QX rfl rfl ?_)) | refine Qa rfl ?_ | refine Qh ?_ | refine Qi rfl ?_ | refine Ql ?_ | refine Qo rfl ?_ | refine Qp rfl ?_)
      refine st_call (fun _ => rfl) rfl ?_
      refine ACalls.mono (acalls_pure (E := E0 X) (fun X => pawake_c X) (by simp [IdsLtL, IdsLt]) _) ?_
      rintro r H' ⟨rfl, rfl⟩
      first | refine nx rfl rfl ?_ | refine nx0 ?_
      repeat' (first | ((refine Qa rfl ?_); (first | refine Q0 ?_ | refine Q3 rfl rfl rfl ?_ | refine Q5 rfl ?_ | refine QD rfl ?_ | refine QP rfl rfl rfl rfl rfl rfl ?_); (refine QX rfl rfl ?_)) | refine Qa rfl ?_)
      refine st_call (fun _ => rfl) rfl ?_
      refine ACalls.mono (acalls_pure (E := E0 X) (fun X => seq_w X zeroS (by decide)) ⟨sbA_ids, sbFn_ids, trivial⟩ _) ?_
      rintro r H' ⟨rfl, rfl⟩
      first | refine nx rfl rfl ?_ | refine nx0 ?_
      rw [decide_eq_true (rfl : zeroS = zeroS)]
      repeat' (first | ((refine Qa rfl ?_); (first | refine Q1 ?_ | refine Q5 rfl ?_); (refine QX rfl rfl ?_)) | refine Qh ?_ | refine Qs ?_)
      refine awp_pre (imp_cutk 0 (Nat.le_refl _) hok_nil rfl (by simp) (sl' := [(2, .bool true)]) ?_) ?_
      · repeat' (first | exact fa_nil | refine fa_cons ⟨?_, ?_⟩ ?_)
        all_goals (try first | exact rfl | exact trivial | (simp [IdsLt, IdsLtL]; done) | (simp [get_cons]; done) | (simp [get_cons, *]; done) | (refine congrArg (AV.int .i64) (wrap_eq ?_ ?_ ?_) <;> (first | omega | (simp; omega))))
      refine awp_ret ?_
      refine ⟨_, rfl, ?_, ?_⟩
      · rfl
      · rfl
    · rw [loadD_of (lv_fresh hok) (by omega)] at hsl
      have hrl := fun X => rsload_c X img (by omega) (by omega)
      have hbv : ∀ s, bestN img 2 = some s → sbB s = true := fun s h => bestN_valid h
      have him : (Dv.fresh img).image = img := rfl
      rw [him, optS_eq] at hsl
      rw [optS_eq] at hrl
      have hseq := fun X => seq_o X (bestN img 2) hbv
      have hz : ((img.map u8A).length : Int).tmod 64 = 0 := by
        rw [List.length_map, Int.tmod_eq_emod_of_nonneg (by omega)]
        have := hok.1; omega
      generalize (bestN img 2).getD zeroS = sv at *
      generalize (bestN img 2).isSome = sb at *
      refine st_call (fun _ => rfl) rfl ?_
      refine ACalls.mono (hsl _) ?_
      rintro r H' ⟨rfl, rfl⟩
      first | refine nx rfl rfl ?_ | refine nx0 ?_
      repeat' (first | ((refine Qa rfl ?_); (first | refine Q0 ?_ | refine Q1 ?_ | refine Q2 rfl ?_ | refine Q7 rfl rfl rfl ?_ | refine QC rfl rfl ?_ | refine QJ rfl rfl ?_); (refine QX rfl rfl ?_)) | (refine Qb rfl ?_; try (refine QS rfl rfl rfl rfl rfl rfl rfl ?_; (refine QX rfl rfl ?_))) | refine Qh ?_ | refine Ql ?_ | refine Qo rfl ?_)
      rw [decide_eq_false (show ¬ ((img.map u8A).length : Int) < 128 by rw [List.length_map]; omega)]
      repeat' (first | ((refine Qa rfl ?_); (first | refine Q0 ?_ | refine Q2 rfl ?_ | refine Q5 rfl ?_ | refine Q7 rfl rfl rfl ?_ | refine QB rfl rfl (by decide) ?_); (refine QX rfl rfl ?_)) | refine Qh ?_ | refine Qs ?_)
      rw [hz]
      repeat' (first | ((refine Qa rfl ?_); (refine Q0 ?_); (refine QX rfl rfl ?_)) | refine Qa rfl ?_ | refine Ql ?_ | refine Qm ?_ | refine Qo rfl ?_ | refine Qq rfl ?_)
      refine st_call (fun _ => rfl) rfl ?_
      refine ACalls.mono (acalls_pure (E := E0 X) (fun X => hrl X) (by simp [IdsLtL, IdsLt]) _) ?_
      rintro r H' ⟨rfl, rfl⟩
      first | refine nx rfl rfl ?_ | refine nx0 ?_
      repeat' (first | ((refine Qa rfl ?_); (first | refine Q0 ?_ | refine Q1 ?_ | refine QC rfl rfl ?_ | refine QJ rfl rfl ?_); (refine QX rfl rfl ?_)) | refine Qa rfl ?_ | (refine Qb rfl ?_; try (refine QS rfl rfl rfl rfl rfl rfl rfl ?_; (refine QX rfl rfl ?_))) | refine Qh ?_ | refine Ql ?_ | refine Qo rfl ?_)
      refine st_call (fun _ => rfl) rfl ?_
      refine ACalls.mono (acalls_pure (E := E0 X) (fun X => pawake_c X) (by simp [IdsLtL, IdsLt]) _) ?_
      rintro r H' ⟨rfl, rfl⟩
      first | refine nx rfl rfl ?_ | refine nx0 ?_
      repeat' ((refine Qa rfl ?_); (first | refine Q0 ?_ | refine Q5 rfl ?_ | refine QH rfl rfl rfl ?_); (refine QX rfl rfl ?_))
      cases sb with
      | false =>
        repeat' (first | ((refine Qa rfl ?_); (refine Q3 rfl rfl rfl ?_); (refine QX rfl rfl ?_)) | refine Qa rfl ?_)
        refine st_call (fun _ => rfl) rfl ?_
        refine ACalls.mono (acalls_pure (E := E0 X) (fun X => hseq X) (by simp [IdsLtL, IdsLt]) _) ?_
        rintro r H' ⟨rfl, rfl⟩
        first | refine nx rfl rfl ?_ | refine nx0 ?_
        repeat' (first | ((refine Qa rfl ?_); (first | refine Q1 ?_ | refine Q5 rfl ?_); (refine QX rfl rfl ?_)) | refine Qh ?_ | refine Qs ?_)
        refine awp_pre (imp_cutk 0 (Nat.le_refl _) hok_nil rfl (by simp) (sl' := [(2, .bool true)]) ?_) ?_
        · repeat' (first | exact fa_nil | refine fa_cons ⟨?_, ?_⟩ ?_)
          all_goals (try first | exact rfl | exact trivial | (simp [IdsLt, IdsLtL]; done) | (simp [get_cons]; done) | (simp [get_cons, *]; done) | (refine congrArg (AV.int .i64) (wrap_eq ?_ ?_ ?_) <;> (first | omega | (simp; omega))))
        refine awp_ret ?_
        refine ⟨_, rfl, ?_, ?_⟩
        · rfl
        · rfl
      | true =>
        repeat' (first | ((refine Qa rfl ?_); (refine Q3 rfl rfl rfl ?_); (refine QX rfl rfl ?_)) | refine Qa rfl ?_)
        refine st_call (fun _ => rfl) rfl ?_
        refine ACalls.mono (acalls_pure (E := E0 X) (fun X => hseq X) (by simp [IdsLtL, IdsLt]) _) ?_
        rintro r H' ⟨rfl, rfl⟩
        first | refine nx rfl rfl ?_ | refine nx0 ?_
        repeat' (first | ((refine Qa rfl ?_); (first | refine Q1 ?_ | refine Q5 rfl ?_); (refine QX rfl rfl ?_)) | refine Qh ?_ | refine Qs ?_)
        refine awp_pre (imp_cutk 0 (Nat.le_refl _) hok_nil rfl (by simp) (sl' := [(2, .bool true)]) ?_) ?_
        · repeat' (first | exact fa_nil | refine fa_cons ⟨?_, ?_⟩ ?_)
          all_goals (try first | exact rfl | exact trivial | (simp [IdsLt, IdsLtL]; done) | (simp [get_cons]; done) | (simp [get_cons, *]; done) | (refine congrArg (AV.int .i64) (wrap_eq ?_ ?_ ?_) <;> (first | omega | (simp; omega))))
        refine awp_ret ?_
        refine ⟨_, rfl, ?_, ?_⟩
        · rfl
        · rfl
  · refine st_call (fun _ => rfl) rfl ?_
    refine ACalls.mono (load_sl X img (by omega)) ?_
    rintro r H' (⟨h, -, -⟩ | ⟨-, rfl, rfl⟩)
    · exact absurd h hok
    first | refine nx rfl rfl ?_ | refine nx0 ?_
    repeat' (first | ((refine Qa rfl ?_); (first | refine Q0 ?_ | refine Q1 ?_); (refine QX rfl rfl ?_)) | refine Qa rfl ?_ | refine Qh ?_ | refine Ql ?_ | refine Qo rfl ?_)
    refine st_call (fun _ => rfl) rfl ?_
    refine ACalls.mono (acalls_pure (E := E0 X) (fun X => sload_nil X) (by simp [IdsLtL, IdsLt]) _) ?_
    rintro r H' ⟨rfl, rfl⟩
    first | refine nx rfl rfl ?_ | refine nx0 ?_
    repeat' (first | ((refine Qa rfl ?_); (first | refine Q0 ?_ | refine Q1 ?_ | refine Q2 rfl ?_ | refine Q7 rfl rfl rfl ?_ | refine QC rfl rfl ?_ | refine QJ rfl rfl ?_); (refine QX rfl rfl ?_)) | (refine Qb rfl ?_; try (refine QS rfl rfl rfl rfl rfl rfl rfl ?_; (refine QX rfl rfl ?_))) | refine Qh ?_ | refine Ql ?_ | refine Qo rfl ?_)
    by_cases h128 : img.length < 128
    · rw [decide_eq_true (show ((img.map u8A).length : Int) < 128 by rw [List.length_map]; omega)]
      repeat' (first | ((refine Qa rfl ?_); (refine Q5 rfl ?_); (refine QX rfl rfl ?_)) | refine Qa rfl ?_ | refine Qh ?_ | refine Qi rfl ?_ | refine Ql ?_ | refine Qo rfl ?_ | refine Qp rfl ?_)
      refine st_call (fun _ => rfl) rfl ?_
      refine ACalls.mono (acalls_pure (E := E0 X) (fun X => pawake_c X) (by simp [IdsLtL, IdsLt]) _) ?_
      rintro r H' ⟨rfl, rfl⟩
      first | refine nx rfl rfl ?_ | refine nx0 ?_
      repeat' (first | ((refine Qa rfl ?_); (first | refine Q0 ?_ | refine Q3 rfl rfl rfl ?_ | refine Q5 rfl ?_ | refine QD rfl ?_ | refine QP rfl rfl rfl rfl rfl rfl ?_); (refine QX rfl rfl ?_)) | refine Qa rfl ?_)
      refine st_call (fun _ => rfl) rfl ?_
      refine ACalls.mono (acalls_pure (E := E0 X) (fun X => seq_w X zeroS (by decide)) ⟨sbA_ids, sbFn_ids, trivial⟩ _) ?_
      rintro r H' ⟨rfl, rfl⟩
      first | refine nx rfl rfl ?_ | refine nx0 ?_
      rw [decide_eq_true (rfl : zeroS = zeroS)]
      repeat' (first | ((refine Qa rfl ?_); (first | refine Q1 ?_ | refine Q5 rfl ?_); (refine QX rfl rfl ?_)) | refine Qh ?_ | refine Qs ?_)
      refine awp_pre (imp_cutk 0 (Nat.le_refl _) hok_nil rfl (by simp) (sl' := [(2, .bool true)]) ?_) ?_
      · repeat' (first | exact fa_nil | refine fa_cons ⟨?_, ?_⟩ ?_)
        all_goals (try first | exact rfl | exact trivial | (simp [IdsLt, IdsLtL]; done) | (simp [get_cons]; done) | (simp [get_cons, *]; done) | (refine congrArg (AV.int .i64) (wrap_eq ?_ ?_ ?_) <;> (first | omega | (simp; omega))))
      refine awp_ret ?_
      refine ⟨_, rfl, ?_, ?_⟩
      · rfl
      · rfl
    · have hz : ((img.map u8A).length : Int).tmod 64 ≠ 0 := by
        rw [List.length_map, Int.tmod_eq_emod_of_nonneg (by omega)]
        intro h
        exact hok ⟨by omega, by omega, by omega⟩
      rw [decide_eq_false (show ¬ ((img.map u8A).length : Int) < 128 by rw [List.length_map]; omega)]
      repeat' (first | ((refine Qa rfl ?_); (first | refine Q0 ?_ | refine Q2 rfl ?_ | refine Q5 rfl ?_ | refine Q7 rfl rfl rfl ?_ | refine QB rfl rfl (by decide) ?_); (refine QX rfl rfl ?_)) | refine Qh ?_ | refine Qs ?_)
      rw [decide_eq_true hz]
      repeat' (first | refine Qa rfl ?_ | refine Ql ?_ | refine Qo rfl ?_ | refine Qp rfl ?_)
      refine st_call (fun _ => rfl) rfl ?_
      refine ACalls.mono (acalls_pure (E := E0 X) (fun X => pawake_c X) (by simp [IdsLtL, IdsLt]) _) ?_
      rintro r H' ⟨rfl, rfl⟩
      first | refine nx rfl rfl ?_ | refine nx0 ?_
      repeat' (first | ((refine Qa rfl ?_); (first | refine Q0 ?_ | refine Q3 rfl rfl rfl ?_ | refine Q5 rfl ?_ | refine QD rfl ?_ | refine QP rfl rfl rfl rfl rfl rfl ?_); (refine QX rfl rfl ?_)) | refine Qa rfl ?_)
      refine st_call (fun _ => rfl) rfl ?_
      refine ACalls.mono (acalls_pure (E := E0 X) (fun X => seq_w X zeroS (by decide)) ⟨sbA_ids, sbFn_ids, trivial⟩ _) ?_
      rintro r H' ⟨rfl, rfl⟩
      first | refine nx rfl rfl ?_ | refine nx0 ?_
      rw [decide_eq_true (rfl : zeroS = zeroS)]
      repeat' (first | ((refine Qa rfl ?_); (first | refine Q1 ?_ | refine Q5 rfl ?_); (refine QX rfl rfl ?_)) | refine Qh ?_ | refine Qs ?_)
      refine awp_pre (imp_cutk 0 (Nat.le_refl _) hok_nil rfl (by simp) (sl' := [(2, .bool true)]) ?_) ?_
      · repeat' (first | exact fa_nil | refine fa_cons ⟨?_, ?_⟩ ?_)
        all_goals (try first | exact rfl | exact trivial | (simp [IdsLt, IdsLtL]; done) | (simp [get_cons]; done) | (simp [get_cons, *]; done) | (refine congrArg (AV.int .i64) (wrap_eq ?_ ?_ ?_) <;> (first | omega | (simp; omega))))
      refine awp_ret ?_
      refine ⟨_, rfl, ?_, ?_⟩
      · rfl
      · rfl
end Go.Abs
namespace Go.Abs
theorem bytes_of {X : Nat → Prop} {x : AV} (h : hasC (E0 X) 2 38 [x]) : ∃ l : List UInt8, x = .sl 1 (l.map u8A) ∧ l.length ≤ maxLen := by
  have h1 : ∃ es, [x] = [.sl 1 es] ∧ es.length ≤ maxLen ∧ ∀ y ∈ es, ∃ ys, y = elA false ys ∧ ∃ n, ys = [.int .u8 n] ∧ IntKind.u8.min ≤ n ∧ n ≤ IntKind.u8.max := h
  obtain ⟨es, h2, hlen, h3⟩ := h1
  simp only [List.cons.injEq, and_true] at h2
  subst h2
  obtain ⟨l, rfl⟩ := list_of (f := u8A) fun y hy => by
    obtain ⟨ys, rfl, n, rfl, h4, h5⟩ := h3 y hy
    have h4' : 0 ≤ n := h4
    have h5' : n ≤ 255 := h5
    refine ⟨UInt8.ofNat n.toNat, ?_⟩
    simp only [elA, u8A, List.headD_cons, Bool.false_eq_true, if_false]
    congr 1
    rw [UInt8.toNat_ofNat']
    omega
  exact ⟨l, rfl, by simpa using hlen⟩
end Go.Abs
namespace Go.Proofs.YtlndakkehobnpaaDoor
open Go.Abs Go.RowKit Go.ChangeShapes Go.WideShapes
set_option maxRecDepth 100000 in
theorem pairLoadLifted (os : Os) (started : os.Started) (H : Type) (enc : TypeId × Value → H) :
    ReturnsInHanded {} Tryd.checked os 7 .any (fun w args => (Rows.pairLoadSpec.pre enc Tryd.prog Tryd.f7 [] false w args ∧ laidMetH Tryd.prog [("flashcache/crc.table", Rows.laid_flashcache_crc_table)] w) ∧ sizedMet enc Tryd.prog Tryd.f7 (OpenSpec.ofChange Rows.pairLoadSpec) false w args)
      (Rows.pairLoadSpec.post enc Tryd.prog Tryd.f7 false Rows.pairLoadRow.fresh Rows.pairLoadRow.handsOn Rows.pairLoadRow.again) := by
  refine returnsInHanded_of_change_and (C := Tryd.checked) (X := fun w _ => laidMetH Tryd.prog [("flashcache/crc.table", Rows.laid_flashcache_crc_table)] w) (fun _ _ _ hh h => h.of_heap hh) own0 started (by kernel_rfl) Tryd.func7
    (ChangeSpec.witness_shaped (enc := enc) (C := Tryd.checked) (os := os) (X := fun w _ => laidMetH Tryd.prog [("flashcache/crc.table", Rows.laid_flashcache_crc_table)] w) false (World.doorLaid Tryd.prog 400 os) #[.slice none 0 0] 8 rfl (World.shaped_of_RefB (by kernel_rfl) (by kernel_rfl)) (by kernel_rfl) (by kernel_rfl) (by kernel_rfl) (door_met os _)) ?_
  intro W base args ds gs before hval0 hW _ _ hL _
  have hval : ∀ (j : Nat) t v, Tryd.f7.params[j]? = some t → args[j]? = some v → Value.okWide Tryd.prog W .any base t v := hval0
  have hW2 := hW
  obtain ⟨p, q, hA0, hV, _, _, _⟩ := hW2
  have hA : DataW.TrodAll enc Tryd.prog W 0 (fun _ => true) true [38] args.toList ds p := hA0
  obtain ⟨rfl, rfl⟩ := trodVars_none hV
  obtain ⟨v0, d0, rfl, rfl, t0⟩ := trodAll_one hA
  obtain ⟨x0, r0, c0⟩ := arg_av (E := E0 fun _ => False) (E0_ok _) (fun _ h => h) (f := 2) rfl rfl (hval 0 38 v0 rfl rfl) t0
  obtain ⟨l0, rfl, h0⟩ := bytes_of c0
  exact law_trueG (E := E0 fun _ => False) (avs := [.sl 1 (l0.map u8A)]) (tb := 4) (E0_ok _) (glob_of_laid hL) (by kernel_rfl) rfl (by kernel_rfl) (by kernel_rfl) (by kernel_rfl) rfl rfl rfl hW (fun _ h => h)
    (RelL.cons r0 (by simp [Abs.RelL])) (pairLoad_c _ l0 h0)
theorem pairLoad_holds : Rows.PairLoadSaid :=
  OpenClaim.holds_of_wide 7 Tryd.f7 rfl rfl rfl rfl rfl rfl rfl ⟨rfl, rfl, rfl, rfl, rfl⟩ rfl rfl rfl rfl rfl (by kernel_rfl) Tryd.func7 (by kernel_rfl)
    (of_decide_eq_true (by kernel_rfl)) (by unfold Func.isWrapper; rw [if_neg (of_decide_eq_false (by kernel_rfl))]; exact ⟨rfl, rfl⟩)
    (fun os started H enc _ => pairLoadLifted os started H enc)
theorem pairLoad_card : Rows.PairLoadCardSaid :=
  Claim7.holds_tied_plain_at .later [] [.data] true (true, "ef1fa8f3014c6e3fe2b1907d4f734f2c932dc2d5fe76d3eb980f0835b0714608") false
    pairLoad_holds (fun _ h => by cases h) (by kernel_rfl) (fun _ h => by cases h) pairLoad_row_tie rfl ⟨rfl, rfl⟩ (by kernel_rfl) rfl
    (fun f fn hf hfn => by
      obtain rfl : f = 7 := Option.some.inj ((show Tryd.prog.funcNamed "flashcache/flashcachelaw09.PairLoad" = some 7 by kernel_rfl).symm.trans hf) |>.symm
      obtain rfl : fn = Tryd.f7 := (Option.some.inj (Tryd.func7.symm.trans hfn)).symm
      exact ⟨by kernel_rfl, fun j t ht => by
        have ht : (#[38] : Array TypeId)[j]? = some t := ht
        have hm : t ∈ [38] := by simpa using Array.mem_of_getElem? ht
        have hall : ([38].all fun u => !Tryd.prog.wantsStandIn u) = true := by kernel_rfl
        exact (show Tryd.prog.wantsStandIn t = false by simpa using List.all_eq_true.1 hall t hm)⟩)
    (by kernel_rfl)
end Go.Proofs.YtlndakkehobnpaaDoor
