/- The pair of superblocks: Publish. Joined texts, each with what its own name promises; no condition beyond those stated. -/
import Derived.Test.YtlndakkehobnpaaDoorMM
import Derived.Test.YtlndakkehobnpaaDoorML
import Derived.Test.YtlndakkehobnpaaDoorME
import Derived.Lib.AppendZerosOnto
import Derived.Test.YtlndakkehobnpaaDoorMK
namespace Go.Abs
/-- The sector of a superblock. -/
def secS (s : Sb) : Nat := (s.gen % 2).toNat
theorem secS_lt (s : Sb) : secS s < 2 := by unfold secS; omega
def Dv.pub (v : Dv) (s : Sb) : Int × Dv := if sbB s = true then (if (v.write (secS s) (encS s (secS s))).1 ≠ 0 then v.write (secS s) (encS s (secS s)) else (v.write (secS s) (encS s (secS s))).2.barrier) else (4, v)
theorem burn_fuse {v : Dv} (h : v.fuse ≤ 9223372036854775807) : v.burn.fuse ≤ 9223372036854775807 := by
  unfold Dv.burn; simp only; split <;> omega
theorem write_fuse {v : Dv} (h : v.fuse ≤ 9223372036854775807) (i : Int) (b : List UInt8) : (v.write i b).2.fuse ≤ 9223372036854775807 := by
  unfold Dv.write
  split
  · exact h
  · split
    · exact h
    · split
      · exact burn_fuse h
      · exact burn_fuse h
attribute [local irreducible] AStep aops AWp Nx awM
set_option maxHeartbeats 0 in
theorem place_c (X : Nat → Prop) (g : Int) : ACalls (E0 X) 69 [.int .i64 g] [] (fun r H' => r = .int .i64 (g.tmod 2) ∧ H' = []) := by
  refine acalls_of Proofs.Tryd.func69 rfl Proofs.Tryd.ntmps69 (by kernel_rfl) rfl ?_
  intro hH hargs
  clear hH hargs
  repeat' (first | ((refine Qa rfl ?_); (first | refine Q0 ?_ | refine Q1 ?_ | refine QB rfl rfl (by decide) ?_); (refine QX rfl rfl ?_)) | refine Qh ?_ | refine Ql ?_ | refine Qo rfl ?_ | refine Qs ?_)
  refine awp_ret ?_
  refine ⟨_, rfl, ?_, ?_⟩
  · rfl
  · rfl
theorem place_v (X : Nat → Prop) (s : Sb) (hg : 1 ≤ s.gen ∧ s.gen ≤ 1099511627775) : ACalls (E0 X) 69 [.int .i64 s.gen] [] (fun r H' => r = .int .i64 (secS s : Int) ∧ H' = []) := by
  refine (place_c X s.gen).mono ?_
  rintro r H' ⟨rfl, rfl⟩
  refine ⟨congrArg (AV.int .i64) ?_, rfl⟩
  unfold secS
  rw [Int.tmod_eq_emod_of_nonneg (by omega)]
  omega
set_option maxHeartbeats 0 in
set_option maxRecDepth 100000 in
theorem publish_c (X : Nat → Prop) (v : Dv) (hv : v.Ok) (s : Sb) (hfl : s.fo.length ≤ 4611686018427387904) :
    ACalls (E0 X) 36 [.ptr 0 0, sbA s] (devH v) (fun r H' => r = .int .i64 (v.pub s).1 ∧ H' = devH (v.pub s).2) := by
  have hva := fun X => svalid_c X s hfl
  unfold Dv.pub
  cases hb : sbB s with
  | false =>
    rw [hb] at hva
    rw [if_neg (by simp)]
    refine acalls_of Proofs.Tryd.func36 rfl Proofs.Tryd.ntmps36 (by kernel_rfl) rfl ?_
    intro hH hargs
    clear hH hargs
    repeat' (first | ((refine Qa rfl ?_); (first | refine Q1 ?_ | refine Q3 rfl rfl rfl ?_ | refine QK rfl ?_); (refine QX rfl rfl ?_)) | refine Qa rfl ?_ | refine Qh ?_ | refine Ql ?_ | refine Qo rfl ?_)
    refine st_call (fun _ => rfl) rfl ?_
    refine ACalls.mono (acalls_pure (E := E0 X) (fun X => hva X) (by simp [IdsLtL, IdsLt]) _) ?_
    rintro r H' ⟨rfl, rfl⟩
    first | refine nx rfl rfl ?_ | refine nx0 ?_
    repeat' (first | ((refine Qa rfl ?_); (first | refine Q1 ?_ | refine QD rfl ?_); (refine QX rfl rfl ?_)) | refine Qh ?_ | refine Ql ?_ | refine Qo rfl ?_ | refine Qp rfl ?_ | refine Qs ?_)
    refine awp_pre (imp_cutk 3 (Nat.le_refl _) (hok_dev _) rfl (by simp) (sl' := [(4, .int .i64 4)]) ?_) ?_
    · repeat' (first | exact fa_nil | refine fa_cons ⟨?_, ?_⟩ ?_)
      all_goals (try first | exact rfl | exact trivial | (simp [IdsLt, IdsLtL]; done) | (simp [get_cons]; done) | (simp [get_cons, *]; done) | (refine congrArg (AV.int .i64) (wrap_eq ?_ ?_ ?_) <;> (first | omega | (simp; omega))))
    refine awp_ret ?_
    refine ⟨_, rfl, ?_, ?_⟩
    · rfl
    · rfl
  | true =>
    rw [hb] at hva
    rw [if_pos rfl]
    have hg := (sb_ok hb).gen
    have hpl := fun X => place_v X s hg
    have hs2 := secS_lt s
    have hen := fun X => senc_x X s (secS s) hb (by omega)
    have hlb := encS_len s (secS s)
    have hw := fun R => dev_l (fun X => write_c X v hv (secS s) (encS s (secS s)) (by omega)) ⟨trivial, idsL_map fun _ => u8A_ids, trivial⟩ trivial R (X := X)
    have hbr := fun R => dev_l (fun X => barrier_c X (v.write (secS s) (encS s (secS s))).2 (write_fuse hv.fuse _ _)) trivial trivial R (X := X)
    generalize v.write (secS s) (encS s (secS s)) = wr at *
    generalize encS s (secS s) = eb at *
    generalize secS s = k at *
    refine acalls_of Proofs.Tryd.func36 rfl Proofs.Tryd.ntmps36 (by kernel_rfl) rfl ?_
    intro hH hargs
    clear hH hargs
    repeat' (first | ((refine Qa rfl ?_); (first | refine Q1 ?_ | refine Q3 rfl rfl rfl ?_ | refine QK rfl ?_); (refine QX rfl rfl ?_)) | refine Qa rfl ?_ | refine Qh ?_ | refine Ql ?_ | refine Qo rfl ?_)
    refine st_call (fun _ => rfl) rfl ?_
    refine ACalls.mono (acalls_pure (E := E0 X) (fun X => hva X) (by simp [IdsLtL, IdsLt]) _) ?_
    rintro r H' ⟨rfl, rfl⟩
    first | refine nx rfl rfl ?_ | refine nx0 ?_
    repeat' (first | ((refine Qa rfl ?_); (refine QD rfl ?_); (refine QX rfl rfl ?_)) | refine Qh ?_ | refine Ql ?_ | refine Qm ?_ | refine Qq rfl ?_)
    refine awp_region_auto2 [] [] (by exact rfl) (by kernel_rfl) ?_
    repeat' ((apply Qd rfl rfl rfl rfl); (first | refine Q3 rfl rfl rfl ?_ | refine Q4 rfl rfl rfl rfl rfl ?_); (exact QX rfl rfl ⟨rfl, rfl⟩))
    apply ds rfl rfl rfl rfl
    · refine st_call (fun _ => rfl) rfl ?_
      refine ACalls.mono (acalls_pure (E := E0 X) (fun X => hpl X) (by simp [IdsLtL, IdsLt]) _) ?_
      rintro r H' ⟨rfl, rfl⟩
      first
      | exact nx rfl rfl ⟨rfl, rfl⟩
      | exact nx0 ⟨rfl, rfl⟩
    skip
    apply ds rfl rfl rfl rfl
    · refine st_call (fun _ => rfl) rfl ?_
      refine ACalls.mono (acalls_pure (E := E0 X) (fun X => hen X) (by simp [IdsLtL, IdsLt]) _) ?_
      rintro r H' ⟨rfl, rfl⟩
      first
      | exact nx rfl rfl ⟨rfl, rfl⟩
      | exact nx0 ⟨rfl, rfl⟩
    repeat' (first | ((first | refine Qa rfl ?_ | apply Qd rfl rfl rfl rfl); (first | refine Q0 ?_ | refine Q1 ?_ | refine Q3 rfl rfl rfl ?_ | refine Q4 rfl rfl rfl rfl rfl ?_ | refine QC rfl rfl ?_); (first | exact QX rfl rfl ⟨rfl, rfl⟩ | refine QX rfl rfl ?_)) | refine Qa rfl ?_ | refine Qk ?_ | refine Ql ?_ | refine Qo rfl ?_)
    refine st_call (fun _ => rfl) rfl ?_
    refine ACalls.mono (acalls_pure (E := E0 X) (fun X => hpl X) (by simp [IdsLtL, IdsLt]) _) ?_
    rintro r H' ⟨rfl, rfl⟩
    first | refine nx rfl rfl ?_ | refine nx0 ?_
    repeat' (first | ((refine Qa rfl ?_); (refine Q0 ?_); (refine QX rfl rfl ?_)) | refine Qa rfl ?_)
    refine st_call (fun _ => rfl) rfl ?_
    refine ACalls.mono (hw _) ?_
    rintro r H' ⟨rfl, rfl⟩
    first | refine nx rfl rfl ?_ | refine nx0 ?_
    repeat' (first | ((refine Qa rfl ?_); (first | refine Q0 ?_ | refine Q1 ?_ | refine Q2 rfl ?_); (refine QX rfl rfl ?_)) | refine Qh ?_ | refine Ql ?_ | refine Qo rfl ?_ | refine Qs ?_)
    refine awp_cond_dec rfl (fun h1 => ?_) (fun h1 => ?_)
    · rw [if_pos h1]
      repeat' (first | ((refine Qa rfl ?_); (first | refine Q0 ?_ | refine Q1 ?_); (refine QX rfl rfl ?_)) | refine Qh ?_ | refine Ql ?_ | refine Qo rfl ?_ | refine Qs ?_)
      refine awp_pre (imp_cutk 3 (Nat.le_refl _) (hok_dev _) rfl (by simp) (sl' := [(4, .int .i64 wr.1)]) ?_) ?_
      · repeat' (first | exact fa_nil | refine fa_cons ⟨?_, ?_⟩ ?_)
        all_goals (try first | exact rfl | exact trivial | (simp [IdsLt, IdsLtL]; done) | (simp [get_cons]; done) | (simp [get_cons, *]; done) | (refine congrArg (AV.int .i64) (wrap_eq ?_ ?_ ?_) <;> (first | omega | (simp; omega))))
      refine awp_ret ?_
      refine ⟨_, rfl, ?_, ?_⟩
      · rfl
      · rfl
    · rw [if_neg h1]
      repeat' (first | ((refine Qa rfl ?_); (refine Q0 ?_); (refine QX rfl rfl ?_)) | refine Qa rfl ?_ | refine Ql ?_ | refine Qm ?_ | refine Qo rfl ?_)
      refine st_call (fun _ => rfl) rfl ?_
      refine ACalls.mono (hbr _) ?_
      rintro r H' ⟨rfl, rfl⟩
      first | refine nx rfl rfl ?_ | refine nx0 ?_
      repeat' (first | ((refine Qa rfl ?_); (refine Q1 ?_); (refine QX rfl rfl ?_)) | refine Qh ?_ | refine Qs ?_)
      refine awp_pre (imp_cutk 3 (Nat.le_refl _) (hok_dev _) rfl (by simp) (sl' := [(4, .int .i64 wr.2.barrier.1)]) ?_) ?_
      · repeat' (first | exact fa_nil | refine fa_cons ⟨?_, ?_⟩ ?_)
        all_goals (try first | exact rfl | exact trivial | (simp [IdsLt, IdsLtL]; done) | (simp [get_cons]; done) | (simp [get_cons, *]; done) | (refine congrArg (AV.int .i64) (wrap_eq ?_ ?_ ?_) <;> (first | omega | (simp; omega))))
      refine awp_ret ?_
      refine ⟨_, rfl, ?_, ?_⟩
      · rfl
      · rfl
end Go.Abs
namespace Go.Abs
def bestL (o : Option Sb) : List AV := sbF (o.getD zeroS) (match o with | none => .nils | some s => .sl 4 (s.fo.map laA))
def genO (o : Option Sb) : Int := (o.getD zeroS).gen
def pickS (o : Option Sb) (k : Nat) (b : List UInt8) : Option Sb := match decS b k with
  | none => o
  | some s => if s.gen % 2 = (k : Int) ∧ genO o < s.gen then some s else o
def bestN (img : List UInt8) : Nat → Option Sb
  | 0 => none
  | k + 1 => pickS (bestN img k) k ((img.drop (k * 64)).take 64)
def loadD (v : Dv) : Option Sb := if v.check 0 = 0 ∧ v.check 1 = 0 then bestN v.image 2 else none
theorem bestL_ids (o : Option Sb) (n : Nat) : IdsLtL n (bestL o) := by
  cases o with
  | none => exact ⟨trivial, trivial, trivial, trivial, trivial, trivial, trivial, trivial, trivial, trivial, trivial, trivial, trivial, trivial, trivial⟩
  | some s => exact ⟨trivial, trivial, trivial, trivial, trivial, trivial, trivial, trivial, trivial, trivial, trivial, trivial, trivial, la_ids _, trivial⟩
theorem bestL_w {E : Env} {o : Option Sb} {m : Mu} {w : World} {v : Value} (h : E.Rel m w (.tup [.agg (bestL o), .bool o.isSome]) v) : E.Rel m w (optS o) v := by
  cases o with
  | none => exact none_w v h
  | some s => exact h
theorem ACalls.cutD {E : Env} {f : FuncId} {args : List AV} {v v' : Dv} {r0 : AV} (h : ACalls E f args (devH v) (fun r H' => r = r0 ∧ H'.take 3 = devH v')) (hr : IdsLt 0 r0) : ACalls E f args (devH v) (fun r H' => r = r0 ∧ H' = devH v') :=
  h.imp fun r H' ⟨h1, h2⟩ => by
    subst h1
    refine ⟨_, _, ⟨rfl, rfl⟩, imp_cutk 3 (Nat.le_refl _) (hok_dev v') h2 ?_ ?_⟩
    · have : (H'.take 3).length = 3 := by rw [h2]; rfl
      simp at this ⊢; omega
    · exact fa_cons ⟨rfl, (ids_mono (Nat.zero_le _) (show IdsLtL 0 [r] from ⟨hr, trivial⟩)).1⟩ fa_nil
theorem secS_iff {s : Sb} (hg : 1 ≤ s.gen) (k : Nat) : ((secS s : Nat) : Int) = (k : Int) ↔ s.gen % 2 = (k : Int) := by unfold secS; omega
theorem hok_ld (v : Dv) (o : Option Sb) : HOk 5 (devH v ++ [some zOs, some (.cells (bestL o) 50)]) := fun j o' ho => by
  match j, ho with
  | 0, ho => cases ho; exact ⟨by simp [IdsLt], by simp [IdsLt], trivial, trivial, trivial, trivial⟩
  | 1, ho => cases ho; exact idsL_map fun _ => u8A_ids
  | 2, ho => cases ho; exact ⟨by rw [List.map_map]; exact idsL_map fun _ => trivial, by rw [List.map_map]; exact idsL_map fun p => (idsL_map (f := u8A) fun _ => u8A_ids : IdsLtL _ (p.2.map u8A))⟩
  | 3, ho => cases ho; exact bestL_ids none _
  | 4, ho => cases ho; exact bestL_ids o _
theorem hok_rld (o : Option Sb) : HOk 2 [some zOs, some (.cells (bestL o) 50)] := fun j o' ho => by
  match j, ho with
  | 0, ho => cases ho; exact bestL_ids none _
  | 1, ho => cases ho; exact bestL_ids o _
attribute [local irreducible] AStep aops AWp Nx awM
set_option maxHeartbeats 0 in
theorem read_nil (X : Nat → Prop) (i : Int) : ACalls (E0 X) 60 [.nilp, .int .i64 i] [] (fun r H' => r = .tup [.nils, .int .i64 1] ∧ H' = []) := by
  refine acalls_of Proofs.Tryd.func60 rfl Proofs.Tryd.ntmps60 (by kernel_rfl) rfl ?_
  intro hH hargs
  clear hH hargs
  repeat' (first | ((refine Qa rfl ?_); (first | refine Q0 ?_ | refine Q1 ?_); (refine QX rfl rfl ?_)) | refine Qa rfl ?_ | refine Qh ?_ | refine Ql ?_ | refine Qo rfl ?_)
  refine st_call (fun _ => rfl) rfl ?_
  refine ACalls.mono (check_nil X i) ?_
  rintro r H' ⟨rfl, rfl⟩
  first | refine nx rfl rfl ?_ | refine nx0 ?_
  repeat' (first | ((refine Qa rfl ?_); (first | refine Q0 ?_ | refine Q1 ?_ | refine Q2 rfl ?_); (refine QX rfl rfl ?_)) | refine Qh ?_ | refine Ql ?_ | refine Qo rfl ?_ | refine Qp rfl ?_ | refine Qs ?_)
  refine awp_ret ?_
  refine ⟨_, rfl, ?_, ?_⟩
  · rfl
  · rfl
set_option maxHeartbeats 0 in
set_option maxRecDepth 100000 in
theorem sload_nil (X : Nat → Prop) : ACalls (E0 X) 31 [.nilp] [] (fun r H' => r = optS none ∧ H' = []) := by
  refine ACalls.cut0 ?_ (by unfold optS; exact ⟨sbA_ids, trivial, trivial⟩)
  refine ACalls.weakR (R := fun r _ => r = .tup [.agg (bestL none), .bool false]) ?_ ?_
  rotate_left
  · rintro r H' rfl
    exact ⟨_, rfl, fun m w v h => bestL_w (o := none) h⟩
  refine acalls_of Proofs.Tryd.func31 rfl Proofs.Tryd.ntmps31 (by kernel_rfl) rfl ?_
  intro hH hargs
  clear hH hargs
  repeat' (first | ((refine Qa rfl ?_); (first | refine Q0 ?_ | refine Q1 ?_ | refine QJ rfl rfl ?_ | refine QP rfl rfl rfl rfl rfl rfl ?_); (refine QX rfl rfl ?_)) | (refine Qb rfl ?_; try (refine QS rfl rfl rfl rfl rfl rfl rfl ?_; (refine QX rfl rfl ?_))) | refine Qh ?_ | refine Ql ?_ | refine Qn ?_ | refine Qo rfl ?_)
  refine awp_loop2 (fun k : Nat => ⟨[(0, .nilp), (2, .ptr 0 0), (4, .ptr 1 0), (5, .bool false), (12, .int .i64 (k : Int))], [some zOs, some (.cells (bestL none) 50)]⟩) (fun k => k = 0) (fun k => 2 - k) 0 rfl ?_ ?_
  · refine imp_cutk 2 (Nat.zero_le _) (hok_rld none) rfl (by simp) ?_
    repeat' (first | exact fa_nil | refine fa_cons ⟨?_, ?_⟩ ?_)
    all_goals (try first | exact rfl | exact trivial | (simp [IdsLt, IdsLtL]; done) | (simp [get_cons]; done) | (simp [get_cons, *]; done) | (refine congrArg (AV.int .i64) (wrap_eq ?_ ?_ ?_) <;> (first | omega | (simp; omega))))
  rintro k rfl
  repeat' (first | ((refine Qa rfl ?_); (first | refine Q0 ?_ | refine Q1 ?_ | refine Q2 rfl ?_); (refine QX rfl rfl ?_)) | refine Qa rfl ?_ | refine Qh ?_ | refine Ql ?_ | refine Qm ?_ | refine Qn ?_ | refine Qo rfl ?_ | refine Qp rfl ?_)
  refine st_call (fun _ => rfl) rfl ?_
  refine ACalls.mono (acalls_pure (E := E0 X) (fun X => read_nil X 0) (by simp [IdsLtL, IdsLt]) _) ?_
  rintro r H' ⟨rfl, rfl⟩
  first | refine nx rfl rfl ?_ | refine nx0 ?_
  repeat' (first | ((refine Qa rfl ?_); (first | refine Q0 ?_ | refine Q1 ?_ | refine Q2 rfl ?_ | refine QC rfl rfl ?_ | refine QP rfl rfl rfl rfl rfl rfl ?_); (refine QX rfl rfl ?_)) | (refine Qb rfl ?_; try (refine QS rfl rfl rfl rfl rfl rfl rfl ?_; (refine QX rfl rfl ?_))) | refine Qh ?_ | refine Ql ?_ | refine Qo rfl ?_ | refine Qp rfl ?_ | refine Qs ?_)
  refine awp_ret ?_
  exact ⟨_, rfl, rfl⟩
set_option maxHeartbeats 0 in
set_option maxRecDepth 100000 in
theorem sload_c (X : Nat → Prop) (v : Dv) (hv : v.Inv) : ACalls (E0 X) 31 [.ptr 0 0] (devH v) (fun r H' => r = optS (loadD v) ∧ H' = devH v) := by
  have hlv : v.image.length ≤ 1073741824 := by have := hv.load.2.2; omega
  refine ACalls.cutD ?_ (by unfold optS; split <;> exact ⟨sbA_ids, trivial, trivial⟩)
  refine ACalls.weakR (R := fun r H' => r = .tup [.agg (bestL (loadD v)), .bool (loadD v).isSome] ∧ H'.take 3 = devH v) ?_ ?_
  rotate_left
  · rintro r H' ⟨rfl, h⟩
    exact ⟨_, ⟨rfl, h⟩, fun m w v h => bestL_w h⟩
  refine acalls_of Proofs.Tryd.func31 rfl Proofs.Tryd.ntmps31 (by kernel_rfl) rfl ?_
  intro hH hargs
  clear hH hargs
  repeat' (first | ((refine Qa rfl ?_); (first | refine Q0 ?_ | refine Q1 ?_ | refine QJ rfl rfl ?_ | refine QP rfl rfl rfl rfl rfl rfl ?_); (refine QX rfl rfl ?_)) | (refine Qb rfl ?_; try (refine QS rfl rfl rfl rfl rfl rfl rfl ?_; (refine QX rfl rfl ?_))) | refine Qh ?_ | refine Ql ?_ | refine Qn ?_ | refine Qo rfl ?_)
  refine awp_loop2 (fun k : Nat => ⟨[(0, .ptr 0 0), (2, .ptr 3 0), (4, .ptr 4 0), (5, .bool (bestN v.image k).isSome), (12, .int .i64 (k : Int))], devH v ++ [some zOs, some (.cells (bestL (bestN v.image k)) 50)]⟩)
    (fun k => k ≤ 2 ∧ ∀ j : Nat, j < k → v.check j = 0) (fun k => 2 - k) 0 ⟨by omega, fun j h => absurd h (Nat.not_lt_zero j)⟩ ?_ ?_
  · refine imp_cutk 5 (by simp [devH]) (hok_ld v none) rfl (by simp [devH]) ?_
    repeat' (first | exact fa_nil | refine fa_cons ⟨?_, ?_⟩ ?_)
    all_goals (try first | exact rfl | exact trivial | (simp [IdsLt, IdsLtL]; done) | (simp [get_cons]; done) | (simp [get_cons, *]; done) | (refine congrArg (AV.int .i64) (wrap_eq ?_ ?_ ?_) <;> (first | omega | (simp; omega))))
  rintro k ⟨hk, hck⟩
  have hbs : bestN v.image (k + 1) = pickS (bestN v.image k) k ((v.image.drop (k * 64)).take 64) := rfl
  have hdn : k < 2 → v.check k ≠ 0 → loadD v = none := fun h1 h2 => if_neg fun h3 => by
    have : k = 0 ∨ k = 1 := by omega
    rcases this with rfl | rfl
    · exact h2 h3.1
    · exact h2 h3.2
  have hdk : k = 2 → loadD v = bestN v.image k := fun h => by
    subst h
    exact if_pos ⟨hck 0 (by omega), hck 1 (by omega)⟩
  generalize loadD v = res at *
  repeat' (first | ((refine Qa rfl ?_); (refine Q2 rfl ?_); (refine QZ ?_)) | refine Qh ?_ | refine Ql ?_ | refine Qo rfl ?_)
  refine awp_cond_dec rfl (fun h1 => ?_) (fun h1 => ?_)
  · have hk2 : k < 2 := by omega
    have hdn := hdn hk2
    repeat' (first | ((refine Qa rfl ?_); (first | refine Q0 ?_ | refine Q1 ?_); (refine QZ ?_)) | refine Qa rfl ?_ | refine Qh ?_ | refine Ql ?_ | refine Qm ?_ | refine Qn ?_ | refine Qo rfl ?_)
    by_cases hc : v.check (k : Int) = 0
    · obtain ⟨-, j, hj, hj2⟩ := check_in hv hc
      have hjk : j = k := by omega
      subst hjk
      have hbl : ((v.image.drop (j * 64)).take 64).length = 64 := by simp; omega
      have hrd := read_at X v (j : Int) hlv [] [some zOs, some (.cells (bestL (bestN v.image j)) 50)] 0 rfl
      rw [Int.toNat_natCast] at hrd
      generalize (v.image.drop (j * 64)).take 64 = bb at *
      generalize bestN v.image j = o at *
      refine st_call (fun _ => rfl) rfl ?_
      refine ACalls.mono hrd ?_
      rintro r H' (⟨hc2, -, -⟩ | ⟨-, rfl, rfl⟩)
      · exact absurd hc hc2
      first | refine nx rfl rfl ?_ | refine nx0 ?_
      repeat' (first | ((refine Qa rfl ?_); (first | refine Q0 ?_ | refine Q1 ?_ | refine QC rfl rfl ?_); (refine QZ ?_)) | refine Qh ?_)
      refine then_i ?_
      refine awp_pre (Imp.trans (imp_freeze (id := 5) (k := 1) (es := bb.map u8A) (e := 5) rfl rfl rfl) (imp_cutk 5 (by simp [devH]) (hok_ld v o) rfl (by simp [devH, devS])
        (sl' := [(0, .ptr 0 0), (2, .ptr 3 0), (4, .ptr 4 0), (5, .bool o.isSome), (6, .int .i64 (j : Int)), (7, .sl 1 (bb.map u8A)), (8, .int .i64 0), (12, .int .i64 (j : Int))]) ?_)) ?_
      · repeat' (first | exact fa_nil | refine fa_cons ⟨?_, ?_⟩ ?_)
        all_goals (try first | exact rfl | exact trivial | (simp [IdsLt, IdsLtL]; done))
        · show frz 5 1 (bb.map u8A) (.own 5 0 64) = _
          simp [frz, hbl, List.take_of_length_le]
      repeat' (first | ((refine Qa rfl ?_); (first | refine Q0 ?_ | refine Q2 rfl ?_); (refine QZ ?_)) | refine Qa rfl ?_ | refine Qh ?_ | refine Ql ?_ | refine Qm ?_ | refine Qo rfl ?_ | refine Qq rfl ?_)
      have hck2 : ∀ i : Nat, i < j + 1 → v.check i = 0 := fun i hi => by
        rcases Nat.lt_or_ge i j with h | h
        · exact hck i h
        · have : i = j := by omega
          subst this; exact hc
      refine st_call (fun _ => rfl) rfl ?_
      refine ACalls.mono (acalls_pure (E := E0 X) (fun X => sdec_c X bb j (by omega) (by omega)) (by simp [IdsLtL, IdsLt]) _) ?_
      rintro r H' ⟨rfl, rfl⟩
      cases hd : decS bb j with
      | none =>
        have hp1 : pickS o j bb = o := by simp only [pickS, hd]
        show Nx _ (.tup [sbA zeroS, .bool false]) _
        first | refine nx rfl rfl ?_ | refine nx0 ?_
        repeat' (first | ((refine Qa rfl ?_); (first | refine Q0 ?_ | refine Q1 ?_ | refine Q2 rfl ?_ | refine Q5 rfl ?_ | refine QC rfl rfl ?_ | refine QJ rfl rfl ?_); (refine QZ ?_)) | (refine Qb rfl ?_; try (refine QS rfl rfl rfl rfl rfl rfl rfl ?_; (refine QZ ?_))) | refine Qh ?_ | refine Qi rfl ?_ | refine Ql ?_ | refine Qm ?_ | refine Qo rfl ?_ | refine Qq rfl ?_ | refine Qs ?_)
        refine ⟨j + 1, ⟨by omega, hck2⟩, by omega, ?_⟩
        rw [hbs, hp1]
        refine imp_cutk 5 (by simp [devH]) (hok_ld v o) rfl (by simp [devH]) ?_
        repeat' (first | exact fa_nil | refine fa_cons ⟨?_, ?_⟩ ?_)
        all_goals (try first | exact rfl | exact trivial | (simp [IdsLt, IdsLtL]; done) | (simp [get_cons]; done) | (simp [get_cons, *]; done) | (refine congrArg (AV.int .i64) (wrap_eq ?_ ?_ ?_) <;> (first | omega | (simp; omega))))
      | some s =>
        have hg := (sb_ok (decS_valid hd).1).gen
        have hpl := fun X => place_v X s hg
        have hse := secS_iff hg.1 j
        generalize secS s = sc at *
        show Nx _ (.tup [sbA s, .bool true]) _
        first | refine nx rfl rfl ?_ | refine nx0 ?_
        repeat' (first | ((refine Qa rfl ?_); (first | refine Q0 ?_ | refine Q1 ?_ | refine Q3 rfl rfl rfl ?_ | refine Q4 rfl rfl rfl rfl rfl ?_ | refine QC rfl rfl ?_ | refine QJ rfl rfl ?_); (refine QZ ?_)) | refine Qa rfl ?_ | (refine Qb rfl ?_; try (refine QS rfl rfl rfl rfl rfl rfl rfl ?_; (refine QZ ?_))) | refine Qh ?_ | refine Ql ?_ | refine Qo rfl ?_)
        refine st_call (fun _ => rfl) rfl ?_
        refine ACalls.mono (acalls_pure (E := E0 X) (fun X => hpl X) (by simp [IdsLtL, IdsLt]) _) ?_
        rintro r H' ⟨rfl, rfl⟩
        first | refine nx rfl rfl ?_ | refine nx0 ?_
        by_cases hsj : s.gen % 2 = (j : Int)
        · have hsc : sc = j := by have := hse.2 hsj; omega
          subst hsc
          repeat' ((refine Qa rfl ?_); (first | refine Q0 ?_ | refine Q2 rfl ?_ | refine Q5 rfl ?_); (refine QZ ?_))
          rw [decide_eq_true (rfl : (sc : Int) = sc)]
          repeat' (first | ((refine Qa rfl ?_); (first | refine Q2 rfl ?_ | refine Q3 rfl rfl rfl ?_ | refine Q4 rfl rfl rfl rfl rfl ?_ | refine Q5 rfl ?_); (refine QZ ?_)) | refine Qh ?_ | refine Qs ?_)
          refine awp_cond_dec rfl (fun h5 => ?_) (fun h5 => ?_)
          · have hp1 : pickS o sc bb = some s := by simp only [pickS, hd]; exact if_pos ⟨hsj, h5⟩
            repeat' (first | ((refine Qa rfl ?_); (first | refine Q0 ?_ | refine Q1 ?_ | refine Q2 rfl ?_ | refine Q3 rfl rfl rfl ?_); (first | refine QX rfl rfl ?_ | refine QZ ?_)) | (refine Qb rfl ?_; try (refine QS rfl rfl rfl rfl rfl rfl rfl ?_; (refine QX rfl rfl ?_))) | refine Qh ?_ | refine Qo rfl ?_ | refine Qs ?_)
            refine ⟨sc + 1, ⟨by omega, hck2⟩, by omega, ?_⟩
            rw [hbs, hp1]
            refine imp_cutk 5 (by simp [devH]) (hok_ld v (some s)) rfl (by simp [devH]) ?_
            repeat' (first | exact fa_nil | refine fa_cons ⟨?_, ?_⟩ ?_)
            all_goals (try first | exact rfl | exact trivial | (simp [IdsLt, IdsLtL]; done) | (simp [get_cons]; done) | (simp [get_cons, *]; done) | (refine congrArg (AV.int .i64) (wrap_eq ?_ ?_ ?_) <;> (first | omega | (simp; omega))))
          · have hp1 : pickS o sc bb = o := by simp only [pickS, hd]; exact if_neg fun h => h5 h.2
            repeat' (first | ((refine Qa rfl ?_); (first | refine Q0 ?_ | refine Q2 rfl ?_); (refine QZ ?_)) | refine Qh ?_ | refine Qm ?_ | refine Qo rfl ?_ | refine Qs ?_)
            refine ⟨sc + 1, ⟨by omega, hck2⟩, by omega, ?_⟩
            rw [hbs, hp1]
            refine imp_cutk 5 (by simp [devH]) (hok_ld v o) rfl (by simp [devH]) ?_
            repeat' (first | exact fa_nil | refine fa_cons ⟨?_, ?_⟩ ?_)
            all_goals (try first | exact rfl | exact trivial | (simp [IdsLt, IdsLtL]; done) | (simp [get_cons]; done) | (simp [get_cons, *]; done) | (refine congrArg (AV.int .i64) (wrap_eq ?_ ?_ ?_) <;> (first | omega | (simp; omega))))
        · have hsc : ¬ (sc : Int) = j := fun h => hsj (hse.1 h)
          have hp1 : pickS o j bb = o := by simp only [pickS, hd]; exact if_neg fun h => hsj h.1
          repeat' ((refine Qa rfl ?_); (first | refine Q0 ?_ | refine Q2 rfl ?_ | refine Q5 rfl ?_); (refine QZ ?_))
          rw [decide_eq_false hsc]
          repeat' (first | ((refine Qa rfl ?_); (first | refine Q0 ?_ | refine Q2 rfl ?_ | refine Q5 rfl ?_); (refine QZ ?_)) | refine Qh ?_ | refine Qi rfl ?_ | refine Qm ?_ | refine Qo rfl ?_ | refine Qq rfl ?_ | refine Qs ?_)
          refine ⟨j + 1, ⟨by omega, hck2⟩, by omega, ?_⟩
          rw [hbs, hp1]
          refine imp_cutk 5 (by simp [devH]) (hok_ld v o) rfl (by simp [devH]) ?_
          repeat' (first | exact fa_nil | refine fa_cons ⟨?_, ?_⟩ ?_)
          all_goals (try first | exact rfl | exact trivial | (simp [IdsLt, IdsLtL]; done) | (simp [get_cons]; done) | (simp [get_cons, *]; done) | (refine congrArg (AV.int .i64) (wrap_eq ?_ ?_ ?_) <;> (first | omega | (simp; omega))))
    · have hdn := hdn hc
      subst hdn
      refine st_call (fun _ => rfl) rfl ?_
      refine ACalls.mono (read_at X v (k : Int) hlv [] [some zOs, some (.cells (bestL (bestN v.image k)) 50)] 0 rfl) ?_
      rintro r H' (⟨-, rfl, rfl⟩ | ⟨hc2, -, -⟩)
      rotate_left
      · exact absurd hc2 hc
      first | refine nx rfl rfl ?_ | refine nx0 ?_
      repeat' (first | ((refine Qa rfl ?_); (first | refine Q0 ?_ | refine Q1 ?_ | refine Q2 rfl ?_ | refine QC rfl rfl ?_); (refine QZ ?_)) | refine Qh ?_ | refine Ql ?_ | refine Qo rfl ?_ | refine Qs ?_)
      refine awp_cond_dec rfl (fun h4 => ?_) (fun h4 => ?_)
      · skip
        repeat' (first | ((refine Qa rfl ?_); (first | refine Q1 ?_ | refine QP rfl rfl rfl rfl rfl rfl ?_); (refine QZ ?_)) | (refine Qb rfl ?_; try (refine QS rfl rfl rfl rfl rfl rfl rfl ?_; (refine QZ ?_))) | refine Qh ?_ | refine Ql ?_ | refine Qo rfl ?_ | refine Qs ?_)
        refine awp_ret ?_
        exact ⟨_, rfl, rfl, rfl⟩
      · exact absurd (by omega) hc
  · have hk2 : k = 2 := by omega
    have hdk := hdk hk2
    rw [hdk]
    generalize bestN v.image k = o
    cases o with
    | none =>
      repeat' (first | ((refine Qa rfl ?_); (first | refine Q0 ?_ | refine Q1 ?_ | refine Q3 rfl rfl rfl ?_); (refine QX rfl rfl ?_)) | (refine Qb rfl ?_; try (refine QS rfl rfl rfl rfl rfl rfl rfl ?_; (refine QX rfl rfl ?_))) | refine Qh ?_ | refine Ql ?_ | refine Qo rfl ?_ | refine Qr ?_ | refine Qs ?_)
      refine awp_ret ?_
      exact ⟨_, rfl, rfl, rfl⟩
    | some s =>
      repeat' (first | ((refine Qa rfl ?_); (first | refine Q0 ?_ | refine Q1 ?_ | refine Q3 rfl rfl rfl ?_); (refine QX rfl rfl ?_)) | (refine Qb rfl ?_; try (refine QS rfl rfl rfl rfl rfl rfl rfl ?_; (refine QX rfl rfl ?_))) | refine Qh ?_ | refine Ql ?_ | refine Qo rfl ?_ | refine Qr ?_ | refine Qs ?_)
      refine awp_ret ?_
      exact ⟨_, rfl, rfl, rfl⟩
end Go.Abs
namespace Go.Abs
attribute [local irreducible] AStep aops AWp Nx awM
set_option maxHeartbeats 0 in
set_option maxRecDepth 100000 in
theorem rsload_c (X : Nat → Prop) (img : List UInt8) (hl : 128 ≤ img.length) (hl2 : img.length ≤ 1000) : ACalls (E0 X) 34 [.sl 1 (img.map u8A)] [] (fun r H' => r = optS (bestN img 2) ∧ H' = []) := by
  refine ACalls.cut0 ?_ (by unfold optS; split <;> exact ⟨sbA_ids, trivial, trivial⟩)
  refine ACalls.weakR (R := fun r _ => r = .tup [.agg (bestL (bestN img 2)), .bool (bestN img 2).isSome]) ?_ ?_
  rotate_left
  · rintro r H' rfl
    exact ⟨_, rfl, fun m w v h => bestL_w h⟩
  refine acalls_of Proofs.Tryd.func34 rfl Proofs.Tryd.ntmps34 (by kernel_rfl) rfl ?_
  intro hH hargs
  clear hH hargs
  repeat' (first | ((refine Qa rfl ?_); (first | refine Q1 ?_ | refine QJ rfl rfl ?_); (refine QX rfl rfl ?_)) | refine Qh ?_ | refine Ql ?_ | refine Qn ?_ | refine Qo rfl ?_)
  refine awp_loop2 (fun k : Nat => ⟨[(0, .sl 1 (img.map u8A)), (2, .ptr 0 0), (4, .ptr 1 0), (5, .bool (bestN img k).isSome), (6, .int .i64 (k : Int))], [some zOs, some (.cells (bestL (bestN img k)) 50)]⟩)
    (fun k => k ≤ 2) (fun k => 2 - k) 0 (by omega) ?_ ?_
  · refine imp_cutk 2 (Nat.zero_le _) (hok_rld none) rfl (by simp) ?_
    repeat' (first | exact fa_nil | refine fa_cons ⟨?_, ?_⟩ ?_)
    all_goals (try first | exact rfl | exact trivial | (simp [IdsLt, IdsLtL]; done) | (simp [get_cons]; done) | (simp [get_cons, *]; done) | (refine congrArg (AV.int .i64) (wrap_eq ?_ ?_ ?_) <;> (first | omega | (simp; omega))))
  rintro j hk
  have hbs : bestN img (j + 1) = pickS (bestN img j) j ((img.drop (j * 64)).take 64) := rfl
  have hdk : j = 2 → bestN img 2 = bestN img j := fun h => by rw [h]
  generalize bestN img 2 = res at *
  repeat' (first | ((refine Qa rfl ?_); (first | refine Q0 ?_ | refine Q2 rfl ?_); (refine QZ ?_)) | refine Qh ?_ | refine Ql ?_ | refine Qo rfl ?_ | refine Qs ?_)
  refine awp_cond_dec rfl (fun h1 => ?_) (fun h1 => ?_)
  · have hk2 : j < 2 := by omega
    have hbl : ((img.drop (j * 64)).take 64).length = 64 := by simp; omega
    have e1 : IntKind.i64.wrap ((j : Int) * 64) = ((j * 64 : Nat) : Int) := wrap_eq (by omega) (by omega) (by omega)
    have e2 : IntKind.i64.wrap (((j * 64 : Nat) : Int) + 64) = ((j * 64 + 64 : Nat) : Int) := wrap_eq (by omega) (by omega) (by omega)
    repeat' (first | ((refine Qa rfl ?_); (first | refine Q0 ?_ | refine Q2 rfl ?_); (refine QZ ?_)) | refine Qa rfl ?_ | refine Ql ?_ | refine Qm ?_ | refine Qn ?_ | refine Qo rfl ?_)
    rw [e1, e2]
    refine st_sls (l := j * 64) (h := j * 64 + 64) (ys := (img.drop (j * 64)).take 64) (bnd_some rfl rfl) (bnd_some rfl rfl) (by omega) (by omega) (by rw [List.drop_take]; congr 1; omega) rfl rfl rfl rfl rfl ?_
    first | refine nx rfl rfl ?_ | refine nx0 ?_
    generalize (img.drop (j * 64)).take 64 = bb at *
    generalize bestN img j = o at *
    repeat' (first | ((refine Qa rfl ?_); (refine Q0 ?_); (refine QZ ?_)) | refine Qa rfl ?_)
    refine st_call (fun _ => rfl) rfl ?_
    refine ACalls.mono (acalls_pure (E := E0 X) (fun X => rsdec_c X bb j (by omega) (by omega)) (by simp [IdsLtL, IdsLt]) _) ?_
    rintro r H' ⟨rfl, rfl⟩
    cases hd : decS bb j with
    | none =>
      have hp1 : pickS o j bb = o := by simp only [pickS, hd]
      show Nx _ (.tup [sbA zeroS, .bool false]) _
      first | refine nx rfl rfl ?_ | refine nx0 ?_
      repeat' (first | ((refine Qa rfl ?_); (first | refine Q0 ?_ | refine Q1 ?_ | refine Q2 rfl ?_ | refine Q5 rfl ?_ | refine QC rfl rfl ?_ | refine QJ rfl rfl ?_); (refine QZ ?_)) | (refine Qb rfl ?_; try (refine QS rfl rfl rfl rfl rfl rfl rfl ?_; (refine QZ ?_))) | refine Qh ?_ | refine Qi rfl ?_ | refine Ql ?_ | refine Qm ?_ | refine Qo rfl ?_ | refine Qq rfl ?_ | refine Qs ?_)
      refine ⟨j + 1, by omega, by omega, ?_⟩
      rw [hbs, hp1]
      refine imp_cutk 2 (Nat.zero_le _) (hok_rld o) rfl (by simp) ?_
      repeat' (first | exact fa_nil | refine fa_cons ⟨?_, ?_⟩ ?_)
      all_goals (try first | exact rfl | exact trivial | (simp [IdsLt, IdsLtL]; done) | (simp [get_cons]; done) | (simp [get_cons, *]; done) | (refine congrArg (AV.int .i64) (wrap_eq ?_ ?_ ?_) <;> (first | omega | (simp; omega))))
    | some s =>
      have hg := (sb_ok (decS_valid hd).1).gen
      have htm : s.gen.tmod 2 = s.gen % 2 := Int.tmod_eq_emod_of_nonneg (by omega)
      show Nx _ (.tup [sbA s, .bool true]) _
      first | refine nx rfl rfl ?_ | refine nx0 ?_
      repeat' (first | ((refine Qa rfl ?_); (first | refine Q0 ?_ | refine Q1 ?_ | refine Q2 rfl ?_ | refine Q3 rfl rfl rfl ?_ | refine Q4 rfl rfl rfl rfl rfl ?_ | refine Q5 rfl ?_ | refine QB rfl rfl (by decide) ?_ | refine QC rfl rfl ?_ | refine QJ rfl rfl ?_); (refine QZ ?_)) | (refine Qb rfl ?_; try (refine QS rfl rfl rfl rfl rfl rfl rfl ?_; (refine QZ ?_))) | refine Qh ?_ | refine Ql ?_ | refine Qo rfl ?_)
      rw [htm]
      by_cases hsj : s.gen % 2 = (j : Int)
      · rw [decide_eq_true hsj]
        cases o with
        | none =>
          have hp1 : pickS none j bb = some s := by simp only [pickS, hd]; exact if_pos ⟨hsj, by show (0 : Int) < s.gen; omega⟩
          repeat' (first | ((refine Qa rfl ?_); (first | refine Q0 ?_ | refine Q1 ?_ | refine Q2 rfl ?_ | refine Q3 rfl rfl rfl ?_ | refine Q5 rfl ?_ | refine QD rfl ?_); (refine QX rfl rfl ?_)) | (refine Qb rfl ?_; try (refine QS rfl rfl rfl rfl rfl rfl rfl ?_; (refine QX rfl rfl ?_))) | refine Qh ?_ | refine Qi rfl ?_ | refine Qo rfl ?_ | refine Qp rfl ?_ | refine Qs ?_)
          refine ⟨j + 1, by omega, by omega, ?_⟩
          rw [hbs, hp1]
          refine imp_cutk 2 (Nat.zero_le _) (hok_rld (some s)) rfl (by simp) ?_
          repeat' (first | exact fa_nil | refine fa_cons ⟨?_, ?_⟩ ?_)
          all_goals (try first | exact rfl | exact trivial | (simp [IdsLt, IdsLtL]; done) | (simp [get_cons]; done) | (simp [get_cons, *]; done) | (refine congrArg (AV.int .i64) (wrap_eq ?_ ?_ ?_) <;> (first | omega | (simp; omega))))
        | some s2 =>
          repeat' (first | ((refine Qa rfl ?_); (first | refine Q0 ?_ | refine Q2 rfl ?_ | refine Q3 rfl rfl rfl ?_ | refine Q4 rfl rfl rfl rfl rfl ?_ | refine Q5 rfl ?_ | refine QD rfl ?_); (refine QX rfl rfl ?_)) | refine Qh ?_ | refine Qs ?_)
          refine awp_cond_dec rfl (fun h5 => ?_) (fun h5 => ?_)
          · have hp1 : pickS (some s2) j bb = some s := by simp only [pickS, hd]; exact if_pos ⟨hsj, h5⟩
            repeat' (first | ((refine Qa rfl ?_); (first | refine Q0 ?_ | refine Q1 ?_ | refine Q2 rfl ?_ | refine Q3 rfl rfl rfl ?_); (refine QX rfl rfl ?_)) | (refine Qb rfl ?_; try (refine QS rfl rfl rfl rfl rfl rfl rfl ?_; (refine QX rfl rfl ?_))) | refine Qh ?_ | refine Qo rfl ?_ | refine Qs ?_)
            refine ⟨j + 1, by omega, by omega, ?_⟩
            rw [hbs, hp1]
            refine imp_cutk 2 (Nat.zero_le _) (hok_rld (some s)) rfl (by simp) ?_
            repeat' (first | exact fa_nil | refine fa_cons ⟨?_, ?_⟩ ?_)
            all_goals (try first | exact rfl | exact trivial | (simp [IdsLt, IdsLtL]; done) | (simp [get_cons]; done) | (simp [get_cons, *]; done) | (refine congrArg (AV.int .i64) (wrap_eq ?_ ?_ ?_) <;> (first | omega | (simp; omega))))
          · have hp1 : pickS (some s2) j bb = some s2 := by simp only [pickS, hd]; exact if_neg fun h => h5 h.2
            repeat' (first | ((refine Qa rfl ?_); (first | refine Q0 ?_ | refine Q1 ?_ | refine Q2 rfl ?_); (refine QX rfl rfl ?_)) | refine Qh ?_ | refine Qm ?_ | refine Qo rfl ?_ | refine Qs ?_)
            refine ⟨j + 1, by omega, by omega, ?_⟩
            rw [hbs, hp1]
            refine imp_cutk 2 (Nat.zero_le _) (hok_rld (some s2)) rfl (by simp) ?_
            repeat' (first | exact fa_nil | refine fa_cons ⟨?_, ?_⟩ ?_)
            all_goals (try first | exact rfl | exact trivial | (simp [IdsLt, IdsLtL]; done) | (simp [get_cons]; done) | (simp [get_cons, *]; done) | (refine congrArg (AV.int .i64) (wrap_eq ?_ ?_ ?_) <;> (first | omega | (simp; omega))))
      · have hp1 : pickS o j bb = o := by simp only [pickS, hd]; exact if_neg fun h => hsj h.1
        rw [decide_eq_false hsj]
        repeat' (first | ((refine Qa rfl ?_); (first | refine Q0 ?_ | refine Q1 ?_ | refine Q2 rfl ?_ | refine Q5 rfl ?_); (refine QZ ?_)) | refine Qh ?_ | refine Qi rfl ?_ | refine Qm ?_ | refine Qo rfl ?_ | refine Qq rfl ?_ | refine Qs ?_)
        refine ⟨j + 1, by omega, by omega, ?_⟩
        rw [hbs, hp1]
        refine imp_cutk 2 (Nat.zero_le _) (hok_rld o) rfl (by simp) ?_
        repeat' (first | exact fa_nil | refine fa_cons ⟨?_, ?_⟩ ?_)
        all_goals (try first | exact rfl | exact trivial | (simp [IdsLt, IdsLtL]; done) | (simp [get_cons]; done) | (simp [get_cons, *]; done) | (refine congrArg (AV.int .i64) (wrap_eq ?_ ?_ ?_) <;> (first | omega | (simp; omega))))
  · have hk2 : j = 2 := by omega
    have hdk := hdk hk2
    rw [hdk]
    generalize bestN img j = o
    cases o with
    | none =>
      repeat' (first | ((refine Qa rfl ?_); (first | refine Q0 ?_ | refine Q1 ?_ | refine Q3 rfl rfl rfl ?_); (refine QX rfl rfl ?_)) | (refine Qb rfl ?_; try (refine QS rfl rfl rfl rfl rfl rfl rfl ?_; (refine QX rfl rfl ?_))) | refine Qh ?_ | refine Ql ?_ | refine Qo rfl ?_ | refine Qr ?_ | refine Qs ?_)
      refine awp_ret ?_
      exact ⟨_, rfl, rfl⟩
    | some s =>
      repeat' (first | ((refine Qa rfl ?_); (first | refine Q0 ?_ | refine Q1 ?_ | refine Q3 rfl rfl rfl ?_); (refine QX rfl rfl ?_)) | (refine Qb rfl ?_; try (refine QS rfl rfl rfl rfl rfl rfl rfl ?_; (refine QX rfl rfl ?_))) | refine Qh ?_ | refine Ql ?_ | refine Qo rfl ?_ | refine Qr ?_ | refine Qs ?_)
      refine awp_ret ?_
      exact ⟨_, rfl, rfl⟩
end Go.Abs
namespace Go.Abs
def Dv.pubd (v : Dv) (s : Sb) : Dv := { v.put (secS s) (encS s (secS s)) with old := [] }
theorem Lv.pubd {L : Nat} {v : Dv} (h : Lv L v) (hL : 128 ≤ L) (s : Sb) : Lv L (v.pubd s) := by
  have h1 := secS_lt s
  exact (h.put (k := secS s) (by omega) (b := encS s (secS s)) (by rw [encS_len]; decide)).clean
theorem Lv.pub {L : Nat} {v : Dv} (h : Lv L v) (hL : 128 ≤ L) {s : Sb} (hb : sbB s = true) : v.pub s = (0, v.pubd s) := by
  have h1 := secS_lt s
  have hw := h.write (k := secS s) (by omega) (b := encS s (secS s)) (by rw [encS_len]; decide)
  have hbr := (h.put (k := secS s) (by omega) (b := encS s (secS s)) (by rw [encS_len]; decide)).bar
  unfold Dv.pub
  rw [if_pos hb, hw]
  simp only [ne_eq, not_true_eq_false, if_false]
  rw [hbr]
  rfl
theorem pubd_sec {v : Dv} {s : Sb} {j : Nat} (hL : 128 ≤ v.image.length) (hj : j * 64 + 64 ≤ v.image.length) :
    ((v.pubd s).image.drop (j * 64)).take 64 = if j = secS s then encS s (secS s) else (v.image.drop (j * 64)).take 64 := by
  have h1 := secS_lt s
  exact sec_put (v := v) (k := secS s) (j := j) (b := encS s (secS s)) (by omega) (encS_len _ _) hj
theorem loadD_of {L : Nat} {v : Dv} (h : Lv L v) (hL : 128 ≤ L) : loadD v = bestN v.image 2 := by
  refine if_pos ⟨check_ok h.inv h.dead (k := 0) (by rw [h.len]; omega), check_ok h.inv h.dead (k := 1) (by rw [h.len]; omega)⟩
theorem pickS_none {o : Option Sb} {k : Nat} {b : List UInt8} (h : decS b k = none) : pickS o k b = o := by simp only [pickS, h]
theorem pickS_some {o : Option Sb} {k : Nat} {b : List UInt8} {s : Sb} (h : decS b k = some s) (h1 : s.gen % 2 = (k : Int)) (h2 : genO o < s.gen) : pickS o k b = some s := by
  simp only [pickS, h]; exact if_pos ⟨h1, h2⟩
theorem bestN_two (img : List UInt8) : bestN img 2 = pickS (pickS none 0 ((img.drop (0 * 64)).take 64)) 1 ((img.drop (1 * 64)).take 64) := rfl
theorem bestN_valid {img : List UInt8} {s : Sb} : ∀ {k : Nat}, bestN img k = some s → sbB s = true
  | 0, h => by cases h
  | k + 1, h => by
    simp only [bestN, pickS] at h
    split at h
    · exact bestN_valid h
    · rename_i s2 hd
      split at h
      · injection h with h; subst h; exact (decS_valid hd).1
      · exact bestN_valid h
theorem publish_w (X : Nat → Prop) (v : Dv) (hv : v.Ok) (s : Sb) (fv : AV) (hfv : ∀ m w v, (E0 X).Rel m w fv v → (E0 X).Rel m w (.sl 4 (s.fo.map laA)) v) (hfl : s.fo.length ≤ 4611686018427387904) :
    ACalls (E0 X) 36 [.ptr 0 0, .agg (sbF s fv)] (devH v) (fun r H' => r = .int .i64 (v.pub s).1 ∧ H' = devH (v.pub s).2) :=
  ACalls.weak (publish_c X v hv s hfl) fun m w vs h => by
    obtain ⟨u1, r1, rfl, h1, h⟩ := relL_cons.1 h
    obtain ⟨u2, r2, rfl, h2, h⟩ := relL_cons.1 h
    exact RelL.cons h1 (RelL.cons (rel_sbF (hfv m w) h2) h)
theorem seq_w (X : Nat → Prop) (a : Sb) (ha : a.fo.length ≤ 4611686018427387904) : ACalls (E0 X) 33 [sbA a, .agg (sbF zeroS .nils)] [] (fun r H' => r = .bool (decide (a = zeroS)) ∧ H' = []) :=
  ACalls.weak (seq_c X a zeroS ha) fun m w vs h => by
    obtain ⟨u1, r1, rfl, h1, h⟩ := relL_cons.1 h
    obtain ⟨u2, r2, rfl, h2, h⟩ := relL_cons.1 h
    exact RelL.cons h1 (RelL.cons (rel_sbF (rel_nil4 m w) h2) h)
def awS : Sb := ⟨1, 1, 0, 0, 0, ⟨1, 1, 4, 4⟩, ⟨0, 0, 0, 0⟩, []⟩
theorem awS_ok : sbB awS = true := by kernel_rfl
def lz2 : List UInt8 := List.replicate ((2 : Int).toNat * 64) 0
theorem lz2_lv : Lv 128 (Dv.fresh lz2) := lv_new 2 (by decide) (by decide)
def aw2 : Dv := (Dv.fresh lz2).pubd awS
theorem aw2_lv : Lv 128 aw2 := lz2_lv.pubd (by decide) awS
theorem lz2_sec (j : Nat) (hj : j < 2) : ((Dv.fresh lz2).image.drop (j * 64)).take 64 = List.replicate 64 0 := by
  simp only [Dv.fresh, lz2, List.drop_replicate, List.take_replicate]
  congr 1
  omega
theorem aw2_l0 : loadD (Dv.fresh lz2) = none := by
  rw [loadD_of lz2_lv (by decide)]
  rw [bestN_two, lz2_sec 0 (by decide), lz2_sec 1 (by decide), pickS_none (decS_zero 0), pickS_none (decS_zero 1)]
theorem aw2_l1 : loadD aw2 = some awS := by
  have hs : secS awS = 1 := by decide
  have hl : (Dv.fresh lz2).image.length = 128 := lz2_lv.len
  rw [loadD_of aw2_lv (by decide)]
  have h0 : (aw2.image.drop (0 * 64)).take 64 = List.replicate 64 0 := by
    show ((Dv.pubd (Dv.fresh lz2) awS).image.drop (0 * 64)).take 64 = _
    rw [pubd_sec (by rw [hl]; decide) (by rw [hl]; decide), hs, if_neg (by decide), lz2_sec 0 (by decide)]
  have h1 : (aw2.image.drop (1 * 64)).take 64 = encS awS 1 := by
    show ((Dv.pubd (Dv.fresh lz2) awS).image.drop (1 * 64)).take 64 = _
    rw [pubd_sec (by rw [hl]; decide) (by rw [hl]; decide), hs, if_pos rfl]
  rw [bestN_two, h0, h1, pickS_none (decS_zero 0), pickS_some (decS_encS awS_ok 1) (by decide) (by decide)]
theorem aw2_pub : (Dv.fresh lz2).pub awS = (0, aw2) := lz2_lv.pub (by decide) awS_ok
theorem aw2_old : aw2.old = [] := rfl
attribute [local irreducible] AStep aops AWp Nx awM
attribute [local irreducible] aw2 lz2
set_option maxHeartbeats 0 in
set_option maxRecDepth 100000 in
theorem pawake_c (X : Nat → Prop) : ACalls (E0 X) 32 [] [] (fun r H' => r = .bool true ∧ H' = []) := by
  have hnew : ACalls (E0 X) 19 [.int .i64 2] [] (fun r H' => r = .ptr 0 0 ∧ H' = devH (Dv.fresh lz2)) := (new_c X 2).mono fun r H' h => by
    rcases h with ⟨_, _, h1, h2⟩ | ⟨h1, _⟩
    · refine ⟨h1, h2.trans ?_⟩
      unfold lz2; rfl
    · exact absurd ⟨by decide, by decide⟩ h1
  have hl0 := fun R => dev_l (fun X => sload_c X (Dv.fresh lz2) lz2_lv.inv) trivial (by rw [aw2_l0]; exact ⟨sbA_ids, trivial, trivial⟩) R (X := X)
  rw [aw2_l0] at hl0
  have hpb := fun R => dev_l (fun X => publish_w X (Dv.fresh lz2) lz2_lv.inv.ok awS .nils rel_nil4 (by decide)) ⟨⟨trivial, trivial, trivial, trivial, trivial, trivial, trivial, trivial, trivial, trivial, trivial, trivial, trivial, trivial, trivial⟩, trivial⟩ trivial R (X := X)
  rw [aw2_pub] at hpb
  have hl1 := fun R => dev_l (fun X => sload_c X aw2 aw2_lv.inv) trivial (by rw [aw2_l1]; exact ⟨sbA_ids, trivial, trivial⟩) R (X := X)
  rw [aw2_l1] at hl1
  have hdi := fun R => dev_l (fun X => dirty_c X aw2) trivial trivial R (X := X)
  rw [aw2_old] at hdi
  refine acalls_of Proofs.Tryd.func32 rfl Proofs.Tryd.ntmps32 (by kernel_rfl) rfl ?_
  intro hH hargs
  clear hH hargs
  repeat' (first | ((refine Qa rfl ?_); (refine Q1 ?_); (refine QX rfl rfl ?_)) | refine Qa rfl ?_ | refine Qh ?_ | refine Ql ?_ | refine Qo rfl ?_)
  refine st_call (fun _ => rfl) rfl ?_
  refine ACalls.mono (hnew) ?_
  rintro r H' ⟨rfl, rfl⟩
  first | refine nx rfl rfl ?_ | refine nx0 ?_
  repeat' (first | ((refine Qa rfl ?_); (first | refine Q0 ?_ | refine Q1 ?_ | refine QJ rfl rfl ?_ | refine QP rfl rfl rfl rfl rfl rfl ?_); (refine QX rfl rfl ?_)) | refine Qa rfl ?_ | (refine Qb rfl ?_; try (refine QS rfl rfl rfl rfl rfl rfl rfl ?_; (refine QX rfl rfl ?_))) | refine Qh ?_ | refine Ql ?_ | refine Qo rfl ?_)
  refine st_call (fun _ => rfl) rfl ?_
  refine ACalls.mono (hl0 _) ?_
  rintro r H' ⟨rfl, rfl⟩
  first | refine nx rfl rfl ?_ | refine nx0 ?_
  repeat' (first | ((refine Qa rfl ?_); (first | refine Q0 ?_ | refine Q1 ?_ | refine Q3 rfl rfl rfl ?_ | refine QC rfl rfl ?_ | refine QJ rfl rfl ?_); (refine QX rfl rfl ?_)) | refine Qa rfl ?_ | (refine Qb rfl ?_; try (refine QS rfl rfl rfl rfl rfl rfl rfl ?_; (refine QX rfl rfl ?_))) | refine Qh ?_ | refine Ql ?_ | refine Qo rfl ?_)
  refine st_call (fun _ => rfl) rfl ?_
  refine ACalls.mono (hpb _) ?_
  rintro r H' ⟨rfl, rfl⟩
  first | refine nx rfl rfl ?_ | refine nx0 ?_
  repeat' (first | ((refine Qa rfl ?_); (first | refine Q0 ?_ | refine Q1 ?_); (refine QX rfl rfl ?_)) | refine Qa rfl ?_ | refine Qh ?_ | refine Ql ?_ | refine Qo rfl ?_)
  refine st_call (fun _ => rfl) rfl ?_
  refine ACalls.mono (hl1 _) ?_
  rintro r H' ⟨rfl, rfl⟩
  first | refine nx rfl rfl ?_ | refine nx0 ?_
  repeat' (first | ((refine Qa rfl ?_); (first | refine Q0 ?_ | refine Q1 ?_ | refine Q2 rfl ?_ | refine Q3 rfl rfl rfl ?_ | refine Q4 rfl rfl rfl rfl rfl ?_ | refine Q5 rfl ?_ | refine QC rfl rfl ?_ | refine QD rfl ?_ | refine QJ rfl rfl ?_); (refine QX rfl rfl ?_)) | refine Qa rfl ?_ | (refine Qb rfl ?_; try (refine QS rfl rfl rfl rfl rfl rfl rfl ?_; (refine QX rfl rfl ?_))) | refine Qh ?_ | refine Ql ?_ | refine Qo rfl ?_)
  refine st_call (fun _ => rfl) rfl ?_
  refine ACalls.mono (hdi _) ?_
  rintro r H' ⟨rfl, rfl⟩
  first | refine nx rfl rfl ?_ | refine nx0 ?_
  repeat' (first | ((refine Qa rfl ?_); (first | refine Q1 ?_ | refine Q2 rfl ?_ | refine Q5 rfl ?_); (refine QX rfl rfl ?_)) | refine Qh ?_ | refine Qs ?_)
  refine awp_pre (imp_cutk 0 (Nat.le_refl _) hok_nil rfl (by simp) (sl' := [(0, .bool true)]) ?_) ?_
  · repeat' (first | exact fa_nil | refine fa_cons ⟨?_, ?_⟩ ?_)
    all_goals (try first | exact rfl | exact trivial | (simp [IdsLt, IdsLtL]; done) | (simp [get_cons]; done) | (simp [get_cons, *]; done) | (refine congrArg (AV.int .i64) (wrap_eq ?_ ?_ ?_) <;> (first | omega | (simp; omega))))
  refine awp_ret ?_
  refine ⟨_, rfl, ?_, ?_⟩
  · rfl
  · rfl
end Go.Abs
namespace Go.Abs
theorem loadD_short {img : List UInt8} (h : LoadOk img.length) (hl : img.length < 128) : loadD (Dv.fresh img) = none := by
  refine if_neg fun h2 => ?_
  have h3 := h2.2
  rw [check_eq (inv_fresh h)] at h3
  have h4 : (Dv.fresh img).dead = false := rfl
  have h5 : (Dv.fresh img).image = img := rfl
  rw [h4, h5] at h3
  simp only [Bool.false_eq_true, if_false] at h3
  rw [if_pos (.inr (by omega))] at h3
  omega
theorem lv_fresh {img : List UInt8} (h : LoadOk img.length) : Lv img.length (Dv.fresh img) := ⟨inv_fresh h, rfl, rfl, rfl⟩
theorem seq_o (X : Nat → Prop) (o : Option Sb) (h : ∀ s, o = some s → sbB s = true) : ACalls (E0 X) 33 [sbA (o.getD zeroS), sbA (o.getD zeroS)] [] (fun r H' => r = .bool true ∧ H' = []) := by
  refine (seq_c X (o.getD zeroS) (o.getD zeroS) ?_).mono ?_
  · cases o with
    | none => exact Nat.zero_le _
    | some s => have := (sb_ok (h s rfl)).len; show s.fo.length ≤ _; omega
  · rintro r H' ⟨rfl, rfl⟩
    rw [decide_eq_true rfl]
    exact ⟨rfl, rfl⟩
theorem sbFn_ids {n : Nat} {s : Sb} : IdsLt n (.agg (sbF s .nils)) := ⟨trivial, trivial, trivial, trivial, trivial, trivial, trivial, trivial, trivial, trivial, trivial, trivial, trivial, trivial, trivial⟩
theorem optS_eq (o : Option Sb) : optS o = .tup [sbA (o.getD zeroS), .bool o.isSome] := by cases o <;> rfl
attribute [local irreducible] AStep aops AWp Nx awM
set_option maxHeartbeats 0 in
set_option maxRecDepth 100000 in
theorem pairLoad_c (X : Nat → Prop) (l : List UInt8) (hl : l.length ≤ maxLen) : ACalls (E0 X) 7 [.sl 1 (l.map u8A)] [] (fun r H' => r = .bool true ∧ H' = []) := by
  have hm : l.length ≤ 9223372036854775807 := by simp [maxLen] at hl; omega
  refine acalls_of Proofs.Tryd.func7 rfl Proofs.Tryd.ntmps7 (by kernel_rfl) rfl ?_
  intro hH hargs
  clear hH hargs
  repeat' (first | ((refine Qa rfl ?_); (first | refine Q0 ?_ | refine Q1 ?_ | refine Q7 rfl rfl rfl ?_ | refine QE rfl rfl ?_); (refine QX rfl rfl ?_)) | refine Qa rfl ?_ | refine Qh ?_ | refine Ql ?_ | refine Qo rfl ?_)
  refine st_sls (l := 0) (h := min l.length 256) (ys := l.take (min l.length 256)) (bnd_none) (bnd_some rfl (by rw [List.length_map]; omega)) (by omega) (by omega) (by rw [List.drop_zero]) rfl rfl rfl rfl rfl ?_
  first | refine nx rfl rfl ?_ | refine nx0 ?_
  have h256 : (l.take (min l.length 256)).length ≤ 256 := by simp; omega
  generalize l.take (min l.length 256) = img at *
  repeat' (first | ((refine Qa rfl ?_); (first | refine Q0 ?_ | refine Q1 ?_); (refine QX rfl rfl ?_)) | refine Qa rfl ?_ | refine Qh ?_ | refine Ql ?_ | refine Qo rfl ?_)
  by_cases hok : LoadOk img.length
  · have hsl := fun R => dev_l (fun X => sload_c X (Dv.fresh img) (inv_fresh hok)) trivial (by unfold optS; split <;> exact ⟨sbA_ids, trivial, trivial⟩) R (X := X)
    refine st_call (fun _ => rfl) rfl ?_
    refine ACalls.mono (load_sl X img (by omega)) ?_
    rintro r H' (⟨-, rfl, rfl⟩ | ⟨h, -, -⟩)
    rotate_left
    · exact absurd hok h
    first | refine nx rfl rfl ?_ | refine nx0 ?_
    repeat' (first | ((refine Qa rfl ?_); (first | refine Q0 ?_ | refine Q1 ?_); (refine QX rfl rfl ?_)) | refine Qa rfl ?_ | refine Qh ?_ | refine Ql ?_ | refine Qo rfl ?_)
    by_cases h128 : img.length < 128
    · rw [loadD_short hok h128] at hsl
      refine st_call (fun _ => rfl) rfl ?_
      refine ACalls.mono (hsl _) ?_
      rintro r H' ⟨rfl, rfl⟩
      first | refine nx rfl rfl ?_ | refine nx0 ?_
      repeat' (first | ((refine Qa rfl ?_); (first | refine Q0 ?_ | refine Q1 ?_ | refine Q2 rfl ?_ | refine Q7 rfl rfl rfl ?_ | refine QC rfl rfl ?_ | refine QJ rfl rfl ?_); (refine QX rfl rfl ?_)) | (refine Qb rfl ?_; try (refine QS rfl rfl rfl rfl rfl rfl rfl ?_; (refine QX rfl rfl ?_))) | refine Qh ?_ | refine Ql ?_ | refine Qo rfl ?_)
      rw [decide_eq_true (show ((img.map u8A).length : Int) < 128 by rw [List.length_map]; omega)]
      repeat' (first | ((refine Qa rfl ?_); (refine Q5 rfl ?_); (refine QX rfl rfl ?_)) | refine Qa rfl ?_ | refine Qh ?_ | refine Qi rfl ?_ | refine Ql ?_ | refine Qo rfl ?_ | refine Qp rfl ?_)
      refine st_call (fun _ => rfl) rfl ?_
      refine ACalls.mono (acalls_pure (E := E0 X) (fun X => pawake_c X) (by simp [IdsLtL, IdsLt]) _) ?_
      rintro r H' ⟨rfl, rfl⟩
      first | refine nx rfl rfl ?_ | refine nx0 ?_
      repeat' (first | ((refine Qa rfl ?_); (first | refine Q0 ?_ | refine Q3 rfl rfl rfl ?_ | refine Q5 rfl ?_ | refine QD rfl ?_ | refine QP rfl rfl rfl rfl rfl rfl ?_); (refine QX rfl rfl ?_)) | refine Qa rfl ?_)
      refine st_call (fun _ => rfl) rfl ?_
      refine ACalls.mono (acalls_pure (E := E0 X) (fun X => seq_w X zeroS (by decide)) ⟨sbA_ids, sbFn_ids, trivial⟩ _) ?_
      rintro r H' ⟨rfl, rfl⟩
      first | refine nx rfl rfl ?_ | refine nx0 ?_
      rw [decide_eq_true (rfl : zeroS = zeroS)]
      repeat' (first | ((refine Qa rfl ?_); (first | refine Q1 ?_ | refine Q5 rfl ?_); (refine QX rfl rfl ?_)) | refine Qh ?_ | refine Qs ?_)
      refine awp_pre (imp_cutk 0 (Nat.le_refl _) hok_nil rfl (by simp) (sl' := [(2, .bool true)]) ?_) ?_
      · repeat' (first | exact fa_nil | refine fa_cons ⟨?_, ?_⟩ ?_)
        all_goals (try first | exact rfl | exact trivial | (simp [IdsLt, IdsLtL]; done) | (simp [get_cons]; done) | (simp [get_cons, *]; done) | (refine congrArg (AV.int .i64) (wrap_eq ?_ ?_ ?_) <;> (first | omega | (simp; omega))))
      refine awp_ret ?_
      refine ⟨_, rfl, ?_, ?_⟩
      · rfl
      · rfl
    · rw [loadD_of (lv_fresh hok) (by omega)] at hsl
      have hrl := fun X => rsload_c X img (by omega) (by omega)
      have hbv : ∀ s, bestN img 2 = some s → sbB s = true := fun s h => bestN_valid h
      have him : (Dv.fresh img).image = img := rfl
      rw [him, optS_eq] at hsl
      rw [optS_eq] at hrl
      have hseq := fun X => seq_o X (bestN img 2) hbv
      have hz : ((img.map u8A).length : Int).tmod 64 = 0 := by
        rw [List.length_map, Int.tmod_eq_emod_of_nonneg (by omega)]
        have := hok.1; omega
      generalize (bestN img 2).getD zeroS = sv at *
      generalize (bestN img 2).isSome = sb at *
      refine st_call (fun _ => rfl) rfl ?_
      refine ACalls.mono (hsl _) ?_
      rintro r H' ⟨rfl, rfl⟩
      first | refine nx rfl rfl ?_ | refine nx0 ?_
      repeat' (first | ((refine Qa rfl ?_); (first | refine Q0 ?_ | refine Q1 ?_ | refine Q2 rfl ?_ | refine Q7 rfl rfl rfl ?_ | refine QC rfl rfl ?_ | refine QJ rfl rfl ?_); (refine QX rfl rfl ?_)) | (refine Qb rfl ?_; try (refine QS rfl rfl rfl rfl rfl rfl rfl ?_; (refine QX rfl rfl ?_))) | refine Qh ?_ | refine Ql ?_ | refine Qo rfl ?_)
      rw [decide_eq_false (show ¬ ((img.map u8A).length : Int) < 128 by rw [List.length_map]; omega)]
      repeat' (first | ((refine Qa rfl ?_); (first | refine Q0 ?_ | refine Q2 rfl ?_ | refine Q5 rfl ?_ | refine Q7 rfl rfl rfl ?_ | refine QB rfl rfl (by decide) ?_); (refine QX rfl rfl ?_)) | refine Qh ?_ | refine Qs ?_)
      rw [hz]
      repeat' (first | ((refine Qa rfl ?_); (refine Q0 ?_); (refine QX rfl rfl ?_)) | refine Qa rfl ?_ | refine Ql ?_ | refine Qm ?_ | refine Qo rfl ?_ | refine Qq rfl ?_)
      refine st_call (fun _ => rfl) rfl ?_
      refine ACalls.mono (acalls_pure (E := E0 X) (fun X => hrl X) (by simp [IdsLtL, IdsLt]) _) ?_
      rintro r H' ⟨rfl, rfl⟩
      first | refine nx rfl rfl ?_ | refine nx0 ?_
      repeat' (first | ((refine Qa rfl ?_); (first | refine Q0 ?_ | refine Q1 ?_ | refine QC rfl rfl ?_ | refine QJ rfl rfl ?_); (refine QX rfl rfl ?_)) | refine Qa rfl ?_ | (refine Qb rfl ?_; try (refine QS rfl rfl rfl rfl rfl rfl rfl ?_; (refine QX rfl rfl ?_))) | refine Qh ?_ | refine Ql ?_ | refine Qo rfl ?_)
      refine st_call (fun _ => rfl) rfl ?_
      refine ACalls.mono (acalls_pure (E := E0 X) (fun X => pawake_c X) (by simp [IdsLtL, IdsLt]) _) ?_
      rintro r H' ⟨rfl, rfl⟩
      first | refine nx rfl rfl ?_ | refine nx0 ?_
      repeat' ((refine Qa rfl ?_); (first | refine Q0 ?_ | refine Q5 rfl ?_ | refine QH rfl rfl rfl ?_); (refine QX rfl rfl ?_))
      cases sb with
      | false =>
        repeat' (first | ((refine Qa rfl ?_); (refine Q3 rfl rfl rfl ?_); (refine QX rfl rfl ?_)) | refine Qa rfl ?_)
        refine st_call (fun _ => rfl) rfl ?_
        refine ACalls.mono (acalls_pure (E := E0 X) (fun X => hseq X) (by simp [IdsLtL, IdsLt]) _) ?_
        rintro r H' ⟨rfl, rfl⟩
        first | refine nx rfl rfl ?_ | refine nx0 ?_
        repeat' (first | ((refine Qa rfl ?_); (first | refine Q1 ?_ | refine Q5 rfl ?_); (refine QX rfl rfl ?_)) | refine Qh ?_ | refine Qs ?_)
        refine awp_pre (imp_cutk 0 (Nat.le_refl _) hok_nil rfl (by simp) (sl' := [(2, .bool true)]) ?_) ?_
        · repeat' (first | exact fa_nil | refine fa_cons ⟨?_, ?_⟩ ?_)
          all_goals (try first | exact rfl | exact trivial | (simp [IdsLt, IdsLtL]; done) | (simp [get_cons]; done) | (simp [get_cons, *]; done) | (refine congrArg (AV.int .i64) (wrap_eq ?_ ?_ ?_) <;> (first | omega | (simp; omega))))
        refine awp_ret ?_
        refine ⟨_, rfl, ?_, ?_⟩
        · rfl
        · rfl
      | true =>
        repeat' (first | ((refine Qa rfl ?_); (refine Q3 rfl rfl rfl ?_); (refine QX rfl rfl ?_)) | refine Qa rfl ?_)
        refine st_call (fun _ => rfl) rfl ?_
        refine ACalls.mono (acalls_pure (E := E0 X) (fun X => hseq X) (by simp [IdsLtL, IdsLt]) _) ?_
        rintro r H' ⟨rfl, rfl⟩
        first | refine nx rfl rfl ?_ | refine nx0 ?_
        repeat' (first | ((refine Qa rfl ?_); (first | refine Q1 ?_ | refine Q5 rfl ?_); (refine QX rfl rfl ?_)) | refine Qh ?_ | refine Qs ?_)
        refine awp_pre (imp_cutk 0 (Nat.le_refl _) hok_nil rfl (by simp) (sl' := [(2, .bool true)]) ?_) ?_
        · repeat' (first | exact fa_nil | refine fa_cons ⟨?_, ?_⟩ ?_)
          all_goals (try first | exact rfl | exact trivial | (simp [IdsLt, IdsLtL]; done) | (simp [get_cons]; done) | (simp [get_cons, *]; done) | (refine congrArg (AV.int .i64) (wrap_eq ?_ ?_ ?_) <;> (first | omega | (simp; omega))))
        refine awp_ret ?_
        refine ⟨_, rfl, ?_, ?_⟩
        · rfl
        · rfl
  · refine st_call (fun _ => rfl) rfl ?_
    refine ACalls.mono (load_sl X img (by omega)) ?_
    rintro r H' (⟨h, -, -⟩ | ⟨-, rfl, rfl⟩)
    · exact absurd h hok
    first | refine nx rfl rfl ?_ | refine nx0 ?_
    repeat' (first | ((refine Qa rfl ?_); (first | refine Q0 ?_ | refine Q1 ?_); (refine QX rfl rfl ?_)) | refine Qa rfl ?_ | refine Qh ?_ | refine Ql ?_ | refine Qo rfl ?_)
    refine st_call (fun _ => rfl) rfl ?_
    refine ACalls.mono (acalls_pure (E := E0 X) (fun X => sload_nil X) (by simp [IdsLtL, IdsLt]) _) ?_
    rintro r H' ⟨rfl, rfl⟩
    first | refine nx rfl rfl ?_ | refine nx0 ?_
    repeat' (first | ((refine Qa rfl ?_); (first | refine Q0 ?_ | refine Q1 ?_ | refine Q2 rfl ?_ | refine Q7 rfl rfl rfl ?_ | refine QC rfl rfl ?_ | refine QJ rfl rfl ?_); (refine QX rfl rfl ?_)) | (refine Qb rfl ?_; try (refine QS rfl rfl rfl rfl rfl rfl rfl ?_; (refine QX rfl rfl ?_))) | refine Qh ?_ | refine Ql ?_ | refine Qo rfl ?_)
    by_cases h128 : img.length < 128
    · rw [decide_eq_true (show ((img.map u8A).length : Int) < 128 by rw [List.length_map]; omega)]
      repeat' (first | ((refine Qa rfl ?_); (refine Q5 rfl ?_); (refine QX rfl rfl ?_)) | refine Qa rfl ?_ | refine Qh ?_ | refine Qi rfl ?_ | refine Ql ?_ | refine Qo rfl ?_ | refine Qp rfl ?_)
      refine st_call (fun _ => rfl) rfl ?_
      refine ACalls.mono (acalls_pure (E := E0 X) (fun X => pawake_c X) (by simp [IdsLtL, IdsLt]) _) ?_
      rintro r H' ⟨rfl, rfl⟩
      first | refine nx rfl rfl ?_ | refine nx0 ?_
      repeat' (first | ((refine Qa rfl ?_); (first | refine Q0 ?_ | refine Q3 rfl rfl rfl ?_ | refine Q5 rfl ?_ | refine QD rfl ?_ | refine QP rfl rfl rfl rfl rfl rfl ?_); (refine QX rfl rfl ?_)) | refine Qa rfl ?_)
      refine st_call (fun _ => rfl) rfl ?_
      refine ACalls.mono (acalls_pure (E := E0 X) (fun X => seq_w X zeroS (by decide)) ⟨sbA_ids, sbFn_ids, trivial⟩ _) ?_
      rintro r H' ⟨rfl, rfl⟩
      first | refine nx rfl rfl ?_ | refine nx0 ?_
      rw [decide_eq_true (rfl : zeroS = zeroS)]
      repeat' (first | ((refine Qa rfl ?_); (first | refine Q1 ?_ | refine Q5 rfl ?_); (refine QX rfl rfl ?_)) | refine Qh ?_ | refine Qs ?_)
      refine awp_pre (imp_cutk 0 (Nat.le_refl _) hok_nil rfl (by simp) (sl' := [(2, .bool true)]) ?_) ?_
      · repeat' (first | exact fa_nil | refine fa_cons ⟨?_, ?_⟩ ?_)
        all_goals (try first | exact rfl | exact trivial | (simp [IdsLt, IdsLtL]; done) | (simp [get_cons]; done) | (simp [get_cons, *]; done) | (refine congrArg (AV.int .i64) (wrap_eq ?_ ?_ ?_) <;> (first | omega | (simp; omega))))
      refine awp_ret ?_
      refine ⟨_, rfl, ?_, ?_⟩
      · rfl
      · rfl
    · have hz : ((img.map u8A).length : Int).tmod 64 ≠ 0 := by
        rw [List.length_map, Int.tmod_eq_emod_of_nonneg (by omega)]
        intro h
        exact hok ⟨by omega, by omega, by omega⟩
      rw [decide_eq_false (show ¬ ((img.map u8A).length : Int) < 128 by rw [List.length_map]; omega)]
      repeat' (first | ((refine Qa rfl ?_); (first | refine Q0 ?_ | refine Q2 rfl ?_ | refine Q5 rfl ?_ | refine Q7 rfl rfl rfl ?_ | refine QB rfl rfl (by decide) ?_); (refine QX rfl rfl ?_)) | refine Qh ?_ | refine Qs ?_)
      rw [decide_eq_true hz]
      repeat' (first | refine Qa rfl ?_ | refine Ql ?_ | refine Qo rfl ?_ | refine Qp rfl ?_)
      refine st_call (fun _ => rfl) rfl ?_
      refine ACalls.mono (acalls_pure (E := E0 X) (fun X => pawake_c X) (by simp [IdsLtL, IdsLt]) _) ?_
      rintro r H' ⟨rfl, rfl⟩
      first | refine nx rfl rfl ?_ | refine nx0 ?_
      repeat' (first | ((refine Qa rfl ?_); (first | refine Q0 ?_ | refine Q3 rfl rfl rfl ?_ | refine Q5 rfl ?_ | refine QD rfl ?_ | refine QP rfl rfl rfl rfl rfl rfl ?_); (refine QX rfl rfl ?_)) | refine Qa rfl ?_)
      refine st_call (fun _ => rfl) rfl ?_
      refine ACalls.mono (acalls_pure (E := E0 X) (fun X => seq_w X zeroS (by decide)) ⟨sbA_ids, sbFn_ids, trivial⟩ _) ?_
      rintro r H' ⟨rfl, rfl⟩
      first | refine nx rfl rfl ?_ | refine nx0 ?_
      rw [decide_eq_true (rfl : zeroS = zeroS)]
      repeat' (first | ((refine Qa rfl ?_); (first | refine Q1 ?_ | refine Q5 rfl ?_); (refine QX rfl rfl ?_)) | refine Qh ?_ | refine Qs ?_)
      refine awp_pre (imp_cutk 0 (Nat.le_refl _) hok_nil rfl (by simp) (sl' := [(2, .bool true)]) ?_) ?_
      · repeat' (first | exact fa_nil | refine fa_cons ⟨?_, ?_⟩ ?_)
        all_goals (try first | exact rfl | exact trivial | (simp [IdsLt, IdsLtL]; done) | (simp [get_cons]; done) | (simp [get_cons, *]; done) | (refine congrArg (AV.int .i64) (wrap_eq ?_ ?_ ?_) <;> (first | omega | (simp; omega))))
      refine awp_ret ?_
      refine ⟨_, rfl, ?_, ?_⟩
      · rfl
      · rfl
end Go.Abs
namespace Go.Abs
theorem bytes_of {X : Nat → Prop} {x : AV} (h : hasC (E0 X) 2 38 [x]) : ∃ l : List UInt8, x = .sl 1 (l.map u8A) ∧ l.length ≤ maxLen := by
  have h1 : ∃ es, [x] = [.sl 1 es] ∧ es.length ≤ maxLen ∧ ∀ y ∈ es, ∃ ys, y = elA false ys ∧ ∃ n, ys = [.int .u8 n] ∧ IntKind.u8.min ≤ n ∧ n ≤ IntKind.u8.max := h
  obtain ⟨es, h2, hlen, h3⟩ := h1
  simp only [List.cons.injEq, and_true] at h2
  subst h2
  obtain ⟨l, rfl⟩ := list_of (f := u8A) fun y hy => by
    obtain ⟨ys, rfl, n, rfl, h4, h5⟩ := h3 y hy
    have h4' : 0 ≤ n := h4
    have h5' : n ≤ 255 := h5
    refine ⟨UInt8.ofNat n.toNat, ?_⟩
    simp only [elA, u8A, List.headD_cons, Bool.false_eq_true, if_false]
    congr 1
    rw [UInt8.toNat_ofNat']
    omega
  exact ⟨l, rfl, by simpa using hlen⟩
end Go.Abs
namespace Go.Abs
theorem ap_zeros {P : Program} (w : World) {t u ty e : TypeId} {i : TypeInfo} {z : Value} {kn kk : IntKind} (ht : P.underlying t = some (.slice e)) (hu : P.underlying u = some (.int kn)) (hi : P.info? e = some i) (hz : i.zero = some z)
    (hsize : i.size = 1) (hby : i.bytes = 1) (hzc : z.cells = #[.int .u8 0]) {v : Value} {n : Nat} {xs : List Value} (hown : w.ownsRow 0 e 1 v n xs) (m : Nat) (h63 : n + m ≤ 1073741824) :
    ∃ v' w', (Builtin.append_ #[t, u] ty #[v, .int kk (m : Int)]).run P w = .ok v' w' ∧ w'.ownsRow 0 e 1 v' (n + m) (xs ++ List.replicate m (.int .u8 0)) ∧ w.grownBy w' v.ownBlock ∧ (v'.ownBlock = v.ownBlock ∨ v'.ownBlock = some w.heap.size) ∧
      ∀ b s, w.shape? b = some s → w'.shape? b = some s := by
  have hzt : ∀ k, Builtin.zeroCells #[Value.int .u8 0] k = (List.replicate k (Value.int .u8 0)).toArray := fun k => by
    apply Array.ext'
    apply List.ext_getElem
    · simp [Builtin.zeroCells]
    · intro j h1 h2; simp [Builtin.zeroCells, Nat.mod_one]
  by_cases hm : m = 0
  · subst hm
    refine ⟨v, w, ?_, by simpa using hown, World.grownBy.refl w _, .inl rfl, fun _ _ h => h⟩
    have hw : IntKind.i64.wrap (0 : Int) = 0 := by decide
    rcases hown.2 with ⟨rfl, rfl⟩ | ⟨g, cap, cur, rfl, _, _, hnc, _⟩
    · simp [Builtin.append_, run_underlying ht, run_underlying hu, sizeOf, typeInfo, hi, asInt, asIntOf, hw]
    · simp [Builtin.append_, run_underlying ht, run_underlying hu, sizeOf, typeInfo, hi, asInt, asIntOf, hw, hnc, storeCells]
  · have hml : n + m ≤ maxLen := by simp only [maxLen]; omega
    have hlx : xs.length = n := by simpa using hown.1
    have hlen : (xs ++ List.replicate m (Value.int .u8 0)).length = (n + m) * 1 := by simp [hlx]
    have grown : ∀ (old : Nat), old < n + m → ∀ (row : Option Nat),
        (w.drew.alloc (.cells (xs.toArray ++ Builtin.zeroCells z.cells m ++ Builtin.zeroCells z.cells (grownCap w (n + m) old e - (n + m))) e)).ownsRow 0 e 1
          (.slice (some ⟨w.heap.size, 0, none⟩) (n + m) (grownCap w (n + m) old e)) (n + m) (xs ++ List.replicate m (.int .u8 0)) ∧
        w.grownBy (w.drew.alloc (.cells (xs.toArray ++ Builtin.zeroCells z.cells m ++ Builtin.zeroCells z.cells (grownCap w (n + m) old e - (n + m))) e)) row := by
      intro old ho row
      have hge := grownCap_ge w (n + m) old e
      have hcm : grownCap w (n + m) old e ≤ maxLen := grownCap_le_maxLen w (n + m) old e hml
      refine ⟨⟨hlen, .inr ⟨w.heap.size, _, _, rfl, Nat.zero_le _, heap_alloc_new w.drew _, hge, hcm, ?_, ?_⟩⟩, ⟨rfl, rfl, rfl, by simp, fun k hk _ => RowKit.Below.heap_alloc w.drew _ k hk⟩⟩
      · simp only [Array.size_append, List.size_toArray, size_zeroCells, hzc, hlx]
        simp
        omega
      · rw [hzc, hzt m]
        simp only [Array.toList_append]
        rw [← hlen]
        exact List.take_left
    have hshn : ∀ (o : Obj) b s, w.shape? b = some s → (w.drew.alloc o).shape? b = some s := fun o b s h => shape_alloc (w := w.drew) h
    have h0 : 0 < m := by omega
    rcases hown.2 with ⟨rfl, rfl⟩ | ⟨g, cap, cur, rfl, hbg, hg, hnc, hcm, hcs, htake⟩
    · have hx : xs = [] := List.eq_nil_of_length_eq_zero hlx
      subst hx
      have hr := Lib.run_append_nil_zeros (P := P) w t u ty e i z kk kn ht hu hi hz m h0 (by rw [hsize]; decide) (by omega) (by rw [hby]; omega)
      have hgr := grown 0 (by omega) (Value.ownBlock (.slice none 0 0))
      simp only [Nat.zero_add, List.nil_append, Array.empty_append] at hgr ⊢
      exact ⟨_, _, hr, hgr.1, hgr.2, .inr rfl, hshn _⟩
    · by_cases hroom : n + m ≤ cap
      · have hcs1 : cur.size = cap := by simpa using hcs
        have hfit : n + (List.replicate m (Value.int .u8 0)).length ≤ cur.size := by simp; omega
        have hw : IntKind.i64.wrap (m : Int) = m := by rw [IntKind.wrap_i64]; omega
        have hneg : ¬ ((m : Int) < 0) := by omega
        have h48i : ¬ (281474976710656 < (m : Int)) := by omega
        have hns : ¬ (m = 0) := hm
        have hst := run_storeCells_at P g n e (List.replicate m (Value.int .u8 0)) 0 cur w hg (by simpa using hfit) (fun u hu => by rw [List.eq_of_mem_replicate hu]; rfl)
        simp only [Nat.add_zero] at hst
        have hr : (Builtin.append_ #[t, u] ty #[.slice (some ⟨g, 0, none⟩) n cap, .int kk (m : Int)]).run P w = .ok (.slice (some ⟨g, 0, none⟩) (n + m) cap) (w.setRow g (cur.toList.take n ++ List.replicate m (Value.int .u8 0) ++ cur.toList.drop (n + (List.replicate m (Value.int .u8 0)).length)).toArray) := by
          simp [Builtin.append_, run_underlying ht, run_underlying hu, sizeOf, typeInfo, zeroValue, hi, hz, asInt, asIntOf, hw, hneg, hsize, hby, h48i, hns, hroom, hzc, hzt, Addr.add_lit] at hst ⊢
          rw [hst]
          rfl
        have hsz2 : (cur.toList.take n ++ List.replicate m (Value.int .u8 0) ++ cur.toList.drop (n + (List.replicate m (Value.int .u8 0)).length)).toArray.size = cur.size := by
          simp only [List.size_toArray, List.length_append, List.length_take, List.length_drop, Array.length_toList]
          simp at hfit ⊢
          omega
        refine ⟨_, _, hr, ⟨hlen, .inr ⟨g, cap, _, rfl, hbg, setRow_heap w g cur _ e _ hg, hroom, hcm, ?_, ?_⟩⟩, ⟨rfl, rfl, rfl, by simp, fun k _ hk => setRow_other w g k _ (fun e => hk (by simp [Value.ownBlock, e]))⟩, .inl rfl, ?_⟩
        · rw [hsz2, hcs]
        · have ht2 : cur.toList.take n = xs := by simpa using htake
          rw [ht2, ← hlen]
          exact List.take_left
        · intro b s hs
          by_cases hb : g = b
          · subst hb
            unfold World.shape? at hs ⊢
            rw [hg] at hs
            rw [setRow_heap w g cur _ e _ hg]
            simp only [Option.some.injEq] at hs ⊢
            rw [hsz2, hs]
          · unfold World.shape? at hs ⊢
            rw [setRow_other w g b _ (Ne.symm hb)]; exact hs
      · have holds : ∀ (j : Nat) (u : Value), xs[j]? = some u → w.cell? ((⟨g, 0, none⟩ : Addr).add j) = some u := hown.cells (g := g) rfl
        have hold := run_firstCells_some (P := P) w.drew i.size n ⟨g, 0, none⟩ n cap xs (by rw [hsize, hlx, Nat.mul_one]) holds
        have hr := Lib.run_append_grow_zeros (P := P) w t u ty e i z kk kn ht hu hi hz (some ⟨g, 0, none⟩) n cap xs hold m h0 (by rw [hsize]; decide) (by omega) (by omega) (by rw [hby]; omega) (growslice_fits (by omega) (by rw [hby]; omega))
        have hgr := grown cap (by omega) (Value.ownBlock (.slice (some ⟨g, 0, none⟩) n cap))
        exact ⟨_, _, hr, hgr.1, hgr.2, .inr rfl, hshn _⟩
section
variable {E : Env} {ρ : Operand → AV} {H : Hp} {K : AV → Hp → Prop} {d : Option Nat} {ty : TypeId} {pos : String} {after : Array Edge} {g : Option (Nat × Bool)}
theorem st_append_zs {t t' e : TypeId} {x y : Operand} {n N : Nat} {kn kk : IntKind} {nn : Int} {es out : List AV} {oid : Option Nat} (hn : nn = (n : Int)) (hd : dstA H e (ρ x) = some (oid, es)) (hN : es.length + n = N) (ho : es ++ List.replicate n (u8A 0) = out) (hm : N ≤ 1073741824)
    (ht : Nat.blt t E.n = true) (hk : (E.ti t).k = .sl e) (ht' : Nat.blt t' E.n = true) (hk' : (E.ti t').k = .int kn) (he : Nat.blt e E.n = true)
    (hz : (E.ti e).z = some [.int .u8 0]) (hs1 : Nat.beq (E.ti e).sz 1 = true) (hb1 : Nat.beq (E.ti e).bt 1 = true) (hy : ρ y = .int kk nn) (h : K (.own H.length 0 N) (dropId H oid ++ [some (.arr out e)])) :
    AStep E ⟨d, .call ⟨.builtin .append, #[x, y], #[t, t']⟩, ty, pos, after, g⟩ ρ H K := by
  subst hN; subst ho
  refine step_any (fun m w a hok hr hsim => ?_)
  obtain ⟨v, _, h2, i, h3, h4, h5, h6⟩ := zero_spec hok he hz
  have hs1' := Nat.eq_of_beq_eq_true hs1
  have hb1' := Nat.eq_of_beq_eq_true hb1
  have hy' := hr y
  rw [hy] at hy'
  subst hn
  have hcells : v.cells = #[.int .u8 0] := by
    have h7 : v.cells.size = 1 := by have := congrArg List.length h2; simpa using this
    have h8 : v.cells.toList.map ofV1 = [.int .u8 0] := h2
    obtain ⟨c, hc⟩ : ∃ c, v.cells.toList = [c] := by
      have h9 : v.cells.toList.length = 1 := by simpa using h7
      rcases hl : v.cells.toList with _ | ⟨c, _ | ⟨c2, r⟩⟩
      · rw [hl] at h9; cases h9
      · exact ⟨c, rfl⟩
      · rw [hl] at h9; simp at h9
    rw [hc] at h8
    have h10 : ofV1 c = .int .u8 0 := by simpa using h8
    have : c = .int .u8 0 := by
      unfold ofV1 at h10
      split at h10 <;> first | (cases h10; rfl) | contradiction | (cases h10)
    apply Array.ext'
    rw [hc, this]
  obtain ⟨vs, o1, o2, o3, o4⟩ := dst_spec hok he hsim (hr x) hd
  rw [hs1'] at o1
  have hfr : flat (List.replicate n (Value.int .u8 0)) = List.replicate n (Value.int .u8 0) := flat_one fun u hu => by rw [List.eq_of_mem_replicate hu]; rfl
  obtain ⟨v', w', r1, r2, r3, r4, r5⟩ := ap_zeros (P := E.P) w (ty := ty) (kk := kk) (tk_sl hok ht hk) (tk_int hok ht' hk') h3 h4 (by rw [h5, hs1']) (by rw [h6, hb1']) hcells o1 n hm
  have hrel : E.RelL m w (List.replicate n (u8A 0)) (List.replicate n (Value.int .u8 0)) := by
    have h9 : List.replicate n (u8A 0) = (List.replicate n (0 : UInt8)).map u8A := by simp
    have h10 : List.replicate n (Value.int .u8 0) = (List.replicate n (0 : UInt8)).map fun b => Value.int .u8 b.toNat := by simp
    rw [h9, h10]; exact relL_u8 _
  have hoid : ∀ id, oid = some id → id < m.length := fun id hid => by
    subst hid
    cases hx : ρ x with
    | own id' lo n =>
      have h8 := hr x
      rw [hx] at h8
      simp only [Env.Rel, Abs.Rel] at h8
      obtain ⟨_, _, _, _, _, h9, _⟩ := h8
      rw [hx] at hd
      simp only [dstA] at hd
      split at hd
      · split at hd
        · simp only [Option.some.injEq, Prod.mk.injEq] at hd
          rw [← hd.1]; exact h9
        · cases hd
      · cases hd
    | _ => rw [hx] at hd; simp [dstA] at hd
  have hko : ∀ u ∈ vs ++ List.replicate n (Value.int .u8 0), u.cells.size = (E.ti e).sz := fun u hu => by
    simp only [List.mem_append] at hu
    rcases hu with hu | hu
    · exact o3 u hu
    · rw [List.eq_of_mem_replicate hu, hs1']; rfl
  obtain ⟨m', g1, g2, g3⟩ := grown_sim (n := es.length + n) (es := es ++ List.replicate n (u8A 0)) (vs := vs ++ List.replicate n (Value.int .u8 0)) (oid := oid) hok he hsim o4 hoid (by simp) (by rw [flat_append, hfr, hs1']; exact r2) r3 r4 (o2.append hrel) hko r5
  refine ⟨v', w', m', _, _, ?_, g1, g2, g3, h⟩
  simp only [execOp, resolve, invoke, builtin, Sem.run_bind, Sem.run_pure, Result.andThen_ok, List.map_toArray, List.map_cons, List.map_nil, rel_int hy', r1]
end
end Go.Abs
namespace Go.Abs
section
open Go.RowKit Go.ChangeShapes Go.WideShapes
theorem arg_avS {E : Env} {H : Type} {enc : TypeId × Value → H} {W : World} (hok : E.Ok) (hX : ∀ b, ¬ E.X b) {f : Nat} {t : TypeId} {fs : List (Nat × TypeId)} {v : Value} {d : DataW H} {ps : List MemPlace} {base : Nat} (hp : plainT E f t = true) (hk : (E.ti t).k = .struct fs)
    (hval : Value.okWide E.P W .any base t v) (h : DataW.Trod enc E.P W 0 (fun _ => true) true t v d ps) : ∃ xs, E.Rel [] W (.agg xs) v ∧ hasC E f t xs := by
  obtain ⟨fuel, hf⟩ := h
  obtain ⟨xs, h1, h2, h3⟩ := trod_av hok hX f fuel t _ _ hp hf
  have ht : Nat.blt t E.n = true := by
    cases f with
    | zero => simp [plainT] at hp
    | succ f =>
      simp only [plainT, Bool.and_eq_true] at hp
      exact hp.1
  obtain ⟨F, hF, -⟩ := tk_struct hok ht hk
  obtain ⟨cs, rfl, -⟩ := okWide_struct hF hval
  exact ⟨xs, ⟨cs.toList, by simp, h1⟩, h2⟩
end
theorem las_of {X : Nat → Prop} {x : AV} (h : hasC (E0 X) 3 48 [x]) : ∃ l : List La, x = .sl 4 (l.map laA) ∧ l.length ≤ maxLen := by
  have h1 : ∃ es, [x] = [.sl 4 es] ∧ es.length ≤ maxLen ∧ ∀ y ∈ es, ∃ ys, y = elA true ys ∧ hasF (E0 X) (hasC (E0 X) 1) [(0, 3), (1, 3), (2, 3), (3, 3)] ys := h
  obtain ⟨es, h2, hlen, h3⟩ := h1
  simp only [List.cons.injEq, and_true] at h2
  subst h2
  obtain ⟨l, rfl⟩ := list_of (f := laA) fun y hy => by
    obtain ⟨ys, rfl, _, _, rfl, ⟨m0, rfl, _⟩, _, _, rfl, ⟨m1, rfl, _⟩, _, _, rfl, ⟨m2, rfl, _⟩, _, _, rfl, ⟨m3, rfl, _⟩, rfl⟩ := h3 y hy
    exact ⟨⟨m0, m1, m2, m3⟩, rfl⟩
  exact ⟨l, rfl, by simpa using hlen⟩
theorem super_of {X : Nat → Prop} {xs : List AV} (h : hasC (E0 X) 4 50 xs) : ∃ s : Sb, xs = sbL s ∧ s.fo.length ≤ maxLen := by
  have h1 : hasF (E0 X) (hasC (E0 X) 3) [(0, 3), (1, 3), (2, 3), (3, 3), (4, 3), (5, 29), (9, 29), (13, 48)] xs := h
  obtain ⟨_, _, rfl, ⟨n0, rfl, _⟩, _, _, rfl, ⟨n1, rfl, _⟩, _, _, rfl, ⟨n2, rfl, _⟩, _, _, rfl, ⟨n3, rfl, _⟩, _, _, rfl, ⟨n4, rfl, _⟩, a, _, rfl, ha, b, _, rfl, hb, c, _, rfl, hc, rfl⟩ := h1
  have ha2 : hasF (E0 X) (hasC (E0 X) 2) [(0, 3), (1, 3), (2, 3), (3, 3)] a := ha
  have hb2 : hasF (E0 X) (hasC (E0 X) 2) [(0, 3), (1, 3), (2, 3), (3, 3)] b := hb
  obtain ⟨_, _, rfl, ⟨m0, rfl, _⟩, _, _, rfl, ⟨m1, rfl, _⟩, _, _, rfl, ⟨m2, rfl, _⟩, _, _, rfl, ⟨m3, rfl, _⟩, rfl⟩ := ha2
  obtain ⟨_, _, rfl, ⟨k0, rfl, _⟩, _, _, rfl, ⟨k1, rfl, _⟩, _, _, rfl, ⟨k2, rfl, _⟩, _, _, rfl, ⟨k3, rfl, _⟩, rfl⟩ := hb2
  have hc1 : ∃ es, c = [.sl 4 es] ∧ es.length ≤ maxLen ∧ ∀ y ∈ es, ∃ ys, y = elA true ys ∧ hasC (E0 X) 2 29 ys := hc
  obtain ⟨es, rfl, _⟩ := hc1
  obtain ⟨l, h2, h3⟩ := las_of hc
  rw [h2]
  exact ⟨⟨n0, n1, n2, n3, n4, ⟨m0, m1, m2, m3⟩, ⟨k0, k1, k2, k3⟩, l⟩, rfl, h3⟩
def Sb.short (s : Sb) : Sb := { s with fo := s.fo.take 4 }
theorem short_len (s : Sb) : s.short.fo.length ≤ 4 := by simp [Sb.short]; omega
attribute [local irreducible] AStep aops AWp Nx awM
set_option maxHeartbeats 0 in
theorem short_c (X : Nat → Prop) (s : Sb) : ACalls (E0 X) 35 [sbA s] [] (fun r H' => r = sbA s.short ∧ H' = []) := by
  refine ACalls.cut0 ?_ sbA_ids
  have e1 : s.fo.take (min s.fo.length 4) = s.fo.take 4 := by
    rcases Nat.le_total s.fo.length 4 with h | h
    · rw [Nat.min_eq_left h, List.take_of_length_le (Nat.le_refl _), List.take_of_length_le h]
    · rw [Nat.min_eq_right h]
  show ACalls (E0 X) 35 [.agg [.int .i64 s.gen, .int .i64 s.phase, .int .i64 s.mig, .int .i64 s.tail, .int .i64 s.now, .int .i64 s.t.id, .int .i64 s.t.ver, .int .i64 s.t.rs, .int .i64 s.t.regs, .int .i64 s.h.id, .int .i64 s.h.ver, .int .i64 s.h.rs, .int .i64 s.h.regs, .sl 4 (s.fo.map laA)]] [] _
  refine acalls_of Proofs.Tryd.func35 rfl Proofs.Tryd.ntmps35 (by kernel_rfl) rfl ?_
  intro hH hargs
  clear hH hargs
  repeat' (first | ((refine Qa rfl ?_); (first | refine Q3 rfl rfl rfl ?_ | refine Q4 rfl rfl rfl rfl rfl ?_ | refine Q7 rfl rfl rfl ?_ | refine QE rfl rfl ?_ | refine QJ rfl rfl ?_ | refine QK rfl ?_); (refine QX rfl rfl ?_)) | refine Qa rfl ?_ | refine Qh ?_ | refine Ql ?_ | refine Qo rfl ?_)
  refine st_sls (l := 0) (h := min s.fo.length 4) (ys := s.fo.take 4) (bnd_none) (bnd_some rfl (by rw [List.length_map]; omega)) (by omega) (by omega) (by rw [List.drop_zero, e1]) rfl rfl rfl rfl rfl ?_
  first | refine nx rfl rfl ?_ | refine nx0 ?_
  repeat' (first | ((refine Qa rfl ?_); (first | refine Q3 rfl rfl rfl ?_ | refine Q4 rfl rfl rfl rfl rfl ?_); (refine QX rfl rfl ?_)) | (refine Qb rfl ?_; try (refine QS rfl rfl rfl rfl rfl rfl rfl ?_; (refine QX rfl rfl ?_))) | refine Qh ?_ | refine Ql ?_ | refine Qo rfl ?_ | refine Qs ?_)
  refine awp_ret ?_
  exact ⟨_, rfl, rfl⟩
end Go.Abs
namespace Go.Abs
theorem load_own (X : Nat → Prop) (H : Hp) (x : AV) (img : List UInt8) (hok : LoadOk img.length) (hl : img.length ≤ 1073741824) (hx : srcA (E0 X) H 1 x = some (img.map u8A)) :
    ACalls (E0 X) 30 [x] H (fun r H' => r = .ptr H.length 0 ∧ H' = H ++ devS H.length (Dv.fresh img)) := by
  refine (acalls_make (E := E0 X) (P := fun r H' => r = .ptr 0 0 ∧ H' = devH (Dv.fresh img)) (fun X => (load_sl X img hl).mono fun r H' h => by
      rcases h with ⟨_, rfl, rfl⟩ | ⟨h, _, _⟩
      · exact ⟨rfl, rfl⟩
      · exact absurd hok h)
    (fun r h' h => by
      obtain ⟨rfl, rfl⟩ := h
      exact ⟨rfl, noFz_dev _⟩) (Bor.sl (u8_ids _) hx .nil)).mono ?_
  rintro r H' ⟨r0, h', ⟨rfl, rfl⟩, rfl, rfl⟩
  exact ⟨by simp [rnA], by rw [mapH_dev]⟩
def pimg (l : List UInt8) : List UInt8 := l.take 256 ++ List.replicate (256 - min l.length 256) 0
theorem pimg_len (l : List UInt8) : (pimg l).length = 256 := by simp [pimg]; omega
theorem wq64 {k : Nat} (h : k < 2) : IntKind.i64.wrap ((k : Int) * 64) = ((k * 64 : Nat) : Int) := wrap_eq (by simp) (by omega) (by omega)
theorem wq64a {k : Nat} (h : k < 2) : IntKind.i64.wrap (IntKind.i64.wrap ((k : Int) * 64) + 64) = ((k * 64 + 64 : Nat) : Int) := by
  rw [wq64 h]; exact wrap_eq (by simp) (by omega) (by omega)
theorem spl_pubd {v : Dv} {s : Sb} : spl (v.image.map u8A) (secS s * 64) (((encS s (secS s)).map u8A).take (min 64 ((encS s (secS s)).map u8A).length)) = (v.pubd s).image.map u8A := by
  have hb := encS_len s (secS s)
  have h1 : ((encS s (secS s)).map u8A).length = 64 := by simp [hb]
  rw [h1, Nat.min_self, List.take_of_length_le (by omega)]
  simp [spl, Dv.pubd, Dv.put, hb, List.map_take, List.map_drop]
attribute [local irreducible] AStep aops AWp Nx awM
set_option maxHeartbeats 0 in
set_option maxRecDepth 100000 in
theorem pairPublish_c (X : Nat → Prop) (l : List UInt8) (s0 : Sb) (hl : l.length ≤ maxLen) : ACalls (E0 X) 8 [.sl 1 (l.map u8A), sbA s0] [] (fun r H' => r = .bool true ∧ H' = []) := by
  have hm : l.length ≤ 9223372036854775807 := by simp [maxLen] at hl; omega
  have hsh := fun X => short_c X s0
  have hfl := short_len s0
  generalize s0.short = s at *
  have e0 : l.take (min l.length 256) = l.take 256 := by
    rcases Nat.le_total l.length 256 with h | h
    · rw [Nat.min_eq_left h, List.take_of_length_le (Nat.le_refl _), List.take_of_length_le h]
    · rw [Nat.min_eq_right h]
  have hil := pimg_len l
  have hpi : (l.take 256).map u8A ++ List.replicate (256 - min l.length 256) (u8A 0) = (pimg l).map u8A := by simp [pimg]
  have hok : LoadOk (pimg l).length := by rw [hil]; exact ⟨by omega, by omega, by omega⟩
  have hlv := lv_fresh hok
  have hvi : (Dv.fresh (pimg l)).image = pimg l := rfl
  have hvw : (Dv.fresh (pimg l)).writes = 0 := rfl
  have hld := fun H x hx => load_own X H x (pimg l) hok (by omega) hx
  rw [hil] at hlv
  generalize Dv.fresh (pimg l) = v at *
  generalize pimg l = img at *
  subst hvi
  show ACalls (E0 X) 8 [.sl 1 (l.map u8A), .agg (sbL s0)] [] _
  refine acalls_of Proofs.Tryd.func8 rfl Proofs.Tryd.ntmps8 (by kernel_rfl) rfl ?_
  intro hH hargs
  clear hH hargs
  repeat' (first | ((refine Qa rfl ?_); (first | refine Q1 ?_ | refine Q3 rfl rfl rfl ?_ | refine QK rfl ?_); (refine QX rfl rfl ?_)) | refine Qa rfl ?_ | refine Qh ?_ | refine Ql ?_ | refine Qo rfl ?_)
  refine st_call (fun _ => rfl) rfl ?_
  refine ACalls.mono (acalls_pure (E := E0 X) (fun X => hsh X) (by simp [IdsLtL, IdsLt]) _) ?_
  rintro r H' ⟨rfl, rfl⟩
  first | refine nx rfl rfl ?_ | refine nx0 ?_
  repeat' (first | ((refine Qa rfl ?_); (first | refine Q0 ?_ | refine Q7 rfl rfl rfl ?_ | refine QE rfl rfl ?_); (refine QX rfl rfl ?_)) | refine Qa rfl ?_ | (refine Qb rfl ?_; try (refine QS rfl rfl rfl rfl rfl rfl rfl ?_; (refine QX rfl rfl ?_))) | refine Qh ?_ | refine Ql ?_ | refine Qo rfl ?_)
  refine st_sls (l := 0) (h := min l.length 256) (ys := l.take 256) (bnd_none) (bnd_some rfl (by rw [List.length_map]; omega)) (by omega) (by omega) (by rw [List.drop_zero, e0]) rfl rfl rfl rfl rfl ?_
  first | refine nx rfl rfl ?_ | refine nx0 ?_
  repeat' (refine Qa rfl ?_)
  refine st_app (oid := none) (es := []) (out := (l.take 256).map u8A) (n := min l.length 256) (rfl) (rfl) (oneEs_u8 _) (rfl) (by simp; omega) (by show _ ≤ 9223372036854775807; omega) (by show _ * 1 ≤ _; omega) rfl rfl rfl rfl rfl rfl rfl rfl ?_
  first | refine nx rfl rfl ?_ | refine nx0 ?_
  repeat' (first | ((refine Qa rfl ?_); (first | refine Q0 ?_ | refine Q2 rfl ?_ | refine Q7 rfl rfl rfl ?_ | refine QE rfl rfl ?_); (refine QX rfl rfl ?_)) | refine Qa rfl ?_)
  refine st_append_zs (oid := some 1) (n := 256 - min l.length 256) (N := 256) (es := (l.take 256).map u8A) (out := v.image.map u8A) ((by rw [List.length_map]; exact wrap_eq (by omega) (by omega) (by omega))) (dst_own rfl (by rw [List.length_map, List.length_take]; omega)) (by rw [List.length_map, List.length_take]; omega) (hpi) (by omega) rfl rfl rfl rfl rfl rfl rfl rfl rfl ?_
  first | refine nx rfl rfl ?_ | refine nx0 ?_
  repeat' (first | ((refine Qa rfl ?_); (first | refine Q0 ?_ | refine Q1 ?_); (refine QX rfl rfl ?_)) | refine Qa rfl ?_ | refine Qh ?_ | refine Ql ?_ | refine Qo rfl ?_)
  refine st_call (fun _ => rfl) rfl ?_
  refine ACalls.mono (hld _ _ (src_ownm' rfl rfl rfl (by omega) (by rw [List.drop_zero, List.take_of_length_le (by omega)]))) ?_
  rintro r H' ⟨rfl, rfl⟩
  first | refine nx rfl rfl ?_ | refine nx0 ?_
  repeat' (first | ((refine Qa rfl ?_); (first | refine Q0 ?_ | refine Q1 ?_ | refine Q3 rfl rfl rfl ?_); (refine QX rfl rfl ?_)) | refine Qa rfl ?_ | refine Qh ?_ | refine Ql ?_ | refine Qo rfl ?_)
  have hpb := fun L R s1 h => dev_at (fun X => publish_c X v hlv.inv.ok s (by omega)) ⟨sbA_ids, trivial⟩ trivial L R s1 h (X := X)
  have hva := fun X => rsvalid_c X s
  have heq : ∀ H x y (a : List UInt8), a.length = 256 → srcA (E0 X) H 1 x = some (a.map u8A) → srcA (E0 X) H 1 y = some (a.map u8A) → ACalls (E0 X) 28 [x, y] H (fun r H' => r = .bool true ∧ H' = H) := fun H x y a ha hx hy => by
    have := eq_b X H x y a a (by omega) hx hy
    rw [decide_eq_true rfl] at this
    exact this
  cases hb : sbB s with
  | false =>
    have hwr := fun L R s1 h => dev_at (fun X => writes_c X v) trivial trivial L R s1 h (X := X)
    rw [hvw] at hwr
    have hp : v.pub s = (4, v) := by unfold Dv.pub; rw [if_neg (by rw [hb]; simp)]
    rw [hp] at hpb
    dsimp only at hpb
    rw [hb] at hva
    refine st_call (fun _ => rfl) rfl ?_
    refine ACalls.mono (hpb [_, _, _] [] 3 rfl) ?_
    rintro r H' ⟨rfl, rfl⟩
    first | refine nx rfl rfl ?_ | refine nx0 ?_
    repeat' (first | ((refine Qa rfl ?_); (first | refine Q1 ?_ | refine Q3 rfl rfl rfl ?_); (refine QX rfl rfl ?_)) | refine Qa rfl ?_ | refine Qh ?_ | refine Ql ?_ | refine Qo rfl ?_)
    refine st_call (fun _ => rfl) rfl ?_
    refine ACalls.mono (acalls_pure (E := E0 X) (fun X => hva X) (by simp [IdsLtL, IdsLt]) _) ?_
    rintro r H' ⟨rfl, rfl⟩
    first | refine nx rfl rfl ?_ | refine nx0 ?_
    repeat' (first | ((refine Qa rfl ?_); (refine QD rfl ?_); (refine QX rfl rfl ?_)) | refine Qa rfl ?_ | refine Qh ?_ | refine Ql ?_ | refine Qo rfl ?_ | refine Qp rfl ?_)
    refine st_call (fun _ => rfl) rfl ?_
    refine ACalls.mono (acalls_pure (E := E0 X) (fun X => pawake_c X) (by simp [IdsLtL, IdsLt]) _) ?_
    rintro r H' ⟨rfl, rfl⟩
    first | refine nx rfl rfl ?_ | refine nx0 ?_
    repeat' (first | ((refine Qa rfl ?_); (first | refine Q0 ?_ | refine Q2 rfl ?_ | refine Q5 rfl ?_); (refine QX rfl rfl ?_)) | refine Qa rfl ?_)
    refine st_call (fun _ => rfl) rfl ?_
    refine ACalls.mono (hwr [_, _, _] [] 3 rfl) ?_
    rintro r H' ⟨rfl, rfl⟩
    first | refine nx rfl rfl ?_ | refine nx0 ?_
    repeat' (first | ((refine Qa rfl ?_); (first | refine Q0 ?_ | refine Q2 rfl ?_ | refine Q5 rfl ?_); (refine QX rfl rfl ?_)) | refine Qa rfl ?_)
    refine st_call (fun _ => rfl) rfl ?_
    refine ACalls.mono (dev_at (fun X => image_v X v (by omega)) trivial (idsL_map fun _ => u8A_ids) [_, _, _] [] 3 rfl (X := X)) ?_
    rintro r H' ⟨rfl, rfl⟩
    first | refine nx rfl rfl ?_ | refine nx0 ?_
    repeat' (first | ((refine Qa rfl ?_); (refine Q0 ?_); (refine QX rfl rfl ?_)) | refine Qa rfl ?_)
    refine st_call (fun _ => rfl) rfl ?_
    refine ACalls.mono (heq _ _ _ v.image hil rfl (src_ownm' rfl rfl rfl (by omega) (by rw [List.drop_zero, List.take_of_length_le (by omega)]))) ?_
    rintro r H' ⟨rfl, rfl⟩
    first | refine nx rfl rfl ?_ | refine nx0 ?_
    repeat' (first | ((refine Qa rfl ?_); (first | refine Q1 ?_ | refine Q5 rfl ?_); (refine QX rfl rfl ?_)) | refine Qh ?_ | refine Qs ?_)
    refine awp_pre (imp_cutk 0 (Nat.le_refl _) hok_nil rfl (by simp) (sl' := [(4, .bool true)]) ?_) ?_
    · repeat' (first | exact fa_nil | refine fa_cons ⟨?_, ?_⟩ ?_)
      all_goals (try first | exact rfl | exact trivial | (simp [IdsLt, IdsLtL]; done) | (simp [get_cons]; done) | (simp [get_cons, *]; done) | (refine congrArg (AV.int .i64) (wrap_eq ?_ ?_ ?_) <;> (first | omega | (simp; omega))))
    refine awp_ret ?_
    refine ⟨_, rfl, ?_, ?_⟩
    · rfl
    · rfl
  | true =>
    have hp := hlv.pub (by decide) hb
    rw [hp] at hpb
    dsimp only at hpb
    rw [hb] at hva
    refine st_call (fun _ => rfl) rfl ?_
    refine ACalls.mono (hpb [_, _, _] [] 3 rfl) ?_
    rintro r H' ⟨rfl, rfl⟩
    first | refine nx rfl rfl ?_ | refine nx0 ?_
    repeat' (first | ((refine Qa rfl ?_); (first | refine Q1 ?_ | refine Q3 rfl rfl rfl ?_); (refine QX rfl rfl ?_)) | refine Qa rfl ?_ | refine Qh ?_ | refine Ql ?_ | refine Qo rfl ?_)
    refine st_call (fun _ => rfl) rfl ?_
    refine ACalls.mono (acalls_pure (E := E0 X) (fun X => hva X) (by simp [IdsLtL, IdsLt]) _) ?_
    rintro r H' ⟨rfl, rfl⟩
    first | refine nx rfl rfl ?_ | refine nx0 ?_
    repeat' (first | ((refine Qa rfl ?_); (refine QD rfl ?_); (refine QX rfl rfl ?_)) | refine Qh ?_ | refine Ql ?_ | refine Qm ?_ | refine Qq rfl ?_)
    have hg := (sb_ok hb).gen
    have htm : s.gen.tmod 2 = (secS s : Int) := by
      unfold secS
      rw [Int.tmod_eq_emod_of_nonneg (by omega)]; omega
    have hk2 := secS_lt s
    have henc := fun X => rsenc_c X s (secS s) hb (by omega)
    have hel := encS_len s (secS s)
    have hsp := spl_pubd (v := v) (s := s)
    have hv2 := hlv.pubd (by decide) s
    have ho2 : (v.pubd s).old = [] := rfl
    have hw2 : (v.pubd s).writes = 1 := by
      show IntKind.i64.wrap (v.writes + 1) = 1
      rw [hvw]; rfl
    generalize v.pubd s = v2 at *
    generalize encS s (secS s) = eb at *
    generalize secS s = k at *
    have hwr := fun L R s1 h => dev_at (fun X => writes_c X v2) trivial trivial L R s1 h (X := X)
    rw [hw2] at hwr
    have hdi := fun L R s1 h => dev_at (fun X => dirty_c X v2) trivial trivial L R s1 h (X := X)
    rw [ho2] at hdi
    have hil2 := hv2.len
    refine awp_region_any [16] [] (by exact rfl) ?_
    refine any_lin (fuel := 0) [0, 1, 2, 3, 4, 5, 6, 7, 8, 9, 10, 11, 12, 13, 14, 15, 16] (by exact rfl) (by kernel_rfl) (by kernel_rfl) ?_
    repeat' ((apply Qd rfl rfl rfl rfl); (first | refine Q0 ?_ | refine Q2 rfl ?_ | refine Q3 rfl rfl rfl ?_ | refine Q4 rfl rfl rfl rfl rfl ?_ | refine QB rfl rfl (by decide) ?_); (exact QX rfl rfl ⟨rfl, rfl⟩))
    rw [htm]
    apply ds rfl rfl rfl rfl
    · refine st_slo (l := k * 64) (h := k * 64 + 64) (lo' := k * 64) (n' := 64) (bnd_some rfl (wq64 hk2)) (bnd_some rfl (wq64a hk2)) (by omega) (by first | omega | (simp; omega)) (by omega) (by omega) rfl rfl rfl rfl rfl rfl rfl ?_
      first
      | exact nx rfl rfl ⟨rfl, rfl⟩
      | exact nx0 ⟨rfl, rfl⟩
    repeat' ((apply Qd rfl rfl rfl rfl); (first | refine Q3 rfl rfl rfl ?_ | refine Q4 rfl rfl rfl rfl rfl ?_ | refine QB rfl rfl (by decide) ?_); (exact QX rfl rfl ⟨rfl, rfl⟩))
    rw [htm]
    apply ds rfl rfl rfl rfl
    · refine st_call (fun _ => rfl) rfl ?_
      refine ACalls.mono (acalls_pure (E := E0 X) (fun X => henc X) (by simp [IdsLtL, IdsLt]) _) ?_
      rintro r H' ⟨rfl, rfl⟩
      first
      | exact nx rfl rfl ⟨rfl, rfl⟩
      | exact nx0 ⟨rfl, rfl⟩
    skip
    refine ds_ef rfl rfl rfl ?_
    refine st_cpy (out := v2.image.map u8A) (q := 64) (by simp; omega) (rfl) (oneEs_u8 _) (hsp) (by simp [hel]) rfl rfl rfl rfl rfl rfl rfl rfl ?_
    first | refine nx rfl rfl ?_ | refine nx0 ?_
    repeat' (first | refine Qa rfl ?_ | refine Qk ?_ | refine Ql ?_ | refine Qo rfl ?_ | refine Qw (by kernel_rfl) ?_)
    refine st_call (fun _ => rfl) rfl ?_
    refine ACalls.mono (acalls_pure (E := E0 X) (fun X => pawake_c X) (by simp [IdsLtL, IdsLt]) _) ?_
    rintro r H' ⟨rfl, rfl⟩
    first | refine nx rfl rfl ?_ | refine nx0 ?_
    repeat' (first | ((refine Qa rfl ?_); (first | refine Q0 ?_ | refine Q2 rfl ?_ | refine Q5 rfl ?_); (refine QX rfl rfl ?_)) | refine Qa rfl ?_)
    refine st_call (fun _ => rfl) rfl ?_
    refine ACalls.mono (hdi [_, _, _] [] 3 rfl) ?_
    rintro r H' ⟨rfl, rfl⟩
    first | refine nx rfl rfl ?_ | refine nx0 ?_
    repeat' (first | ((refine Qa rfl ?_); (first | refine Q0 ?_ | refine Q2 rfl ?_ | refine Q5 rfl ?_); (refine QX rfl rfl ?_)) | refine Qa rfl ?_)
    refine st_call (fun _ => rfl) rfl ?_
    refine ACalls.mono (hwr [_, _, _] [] 3 rfl) ?_
    rintro r H' ⟨rfl, rfl⟩
    first | refine nx rfl rfl ?_ | refine nx0 ?_
    repeat' (first | ((refine Qa rfl ?_); (first | refine Q0 ?_ | refine Q2 rfl ?_ | refine Q5 rfl ?_); (refine QX rfl rfl ?_)) | refine Qa rfl ?_)
    refine st_call (fun _ => rfl) rfl ?_
    refine ACalls.mono (dev_at (fun X => image_v X v2 (by omega)) trivial (idsL_map fun _ => u8A_ids) [_, _, _] [] 3 rfl (X := X)) ?_
    rintro r H' ⟨rfl, rfl⟩
    first | refine nx rfl rfl ?_ | refine nx0 ?_
    repeat' (first | ((refine Qa rfl ?_); (refine Q0 ?_); (refine QX rfl rfl ?_)) | refine Qa rfl ?_)
    refine st_call (fun _ => rfl) rfl ?_
    refine ACalls.mono (heq _ _ _ v2.image hil2 rfl (src_ownm' rfl rfl rfl (by omega) (by rw [List.drop_zero, List.take_of_length_le (by omega)]))) ?_
    rintro r H' ⟨rfl, rfl⟩
    first | refine nx rfl rfl ?_ | refine nx0 ?_
    repeat' (first | ((refine Qa rfl ?_); (first | refine Q1 ?_ | refine Q5 rfl ?_); (refine QX rfl rfl ?_)) | refine Qh ?_ | refine Qs ?_)
    refine awp_pre (imp_cutk 0 (Nat.le_refl _) hok_nil rfl (by simp) (sl' := [(4, .bool true)]) ?_) ?_
    · repeat' (first | exact fa_nil | refine fa_cons ⟨?_, ?_⟩ ?_)
      all_goals (try first | exact rfl | exact trivial | (simp [IdsLt, IdsLtL]; done) | (simp [get_cons]; done) | (simp [get_cons, *]; done) | (refine congrArg (AV.int .i64) (wrap_eq ?_ ?_ ?_) <;> (first | omega | (simp; omega))))
    refine awp_ret ?_
    refine ⟨_, rfl, ?_, ?_⟩
    · rfl
    · rfl
end Go.Abs
namespace Go.Abs
theorem and_le (n : Int) (c : Nat) (hc : c < 9223372036854775808) : ∃ m : Nat, m ≤ c ∧ ibits .and .i64 n (c : Int) = m := by
  have h1 : (BitVec.ofInt 64 n &&& BitVec.ofInt 64 (c : Int)).toNat ≤ c := by
    rw [BitVec.toNat_and]
    refine Nat.le_trans Nat.and_le_right ?_
    rw [BitVec.toNat_ofInt]
    omega
  have h2 : ibits .and .i64 n (c : Int) = IntKind.i64.wrap ((BitVec.ofInt 64 n &&& BitVec.ofInt 64 (c : Int)).toNat : Nat) := rfl
  refine ⟨_, h1, ?_⟩
  rw [h2]
  exact wrap_in (by omega) (by omega)
theorem crash_kn (X : Nat → Prop) (v : Dv) (hv : v.Inv) (keep : List Bool) (L R : Hp) (s : Nat) (hs : L.length = s) :
    ACalls (E0 X) 54 [.ptr s 0, .sl 1 (keep.map boA), .nils] (L ++ devS s v ++ R) (fun r H' => r = .ptr (3 + s + R.length) 0 ∧ H' = L ++ devS s v ++ R ++ devS (3 + s + R.length) (v.crash keep [])) :=
  ACalls.weak (crash_at X v hv keep [] (by decide) L R s hs) fun m w vs h => by
    obtain ⟨u1, r1, rfl, h1, h⟩ := relL_cons.1 h
    obtain ⟨u2, r2, rfl, h2, h⟩ := relL_cons.1 h
    obtain ⟨u3, r3, rfl, h3, h⟩ := relL_cons.1 h
    exact RelL.cons h1 (RelL.cons h2 (RelL.cons (rel_nils 2 h3) h))
theorem crash_nt (X : Nat → Prop) (v : Dv) (hv : v.Inv) (ts : List Tr) (hts : ts.length ≤ 1073741824) (L R : Hp) (s : Nat) (hs : L.length = s) :
    ACalls (E0 X) 54 [.ptr s 0, .nils, .sl 2 (ts.map trA)] (L ++ devS s v ++ R) (fun r H' => r = .ptr (3 + s + R.length) 0 ∧ H' = L ++ devS s v ++ R ++ devS (3 + s + R.length) (v.crash [] ts)) :=
  ACalls.weak (crash_at X v hv [] ts hts L R s hs) fun m w vs h => by
    obtain ⟨u1, r1, rfl, h1, h⟩ := relL_cons.1 h
    obtain ⟨u2, r2, rfl, h2, h⟩ := relL_cons.1 h
    exact RelL.cons h1 (RelL.cons (rel_nils 1 h2) h)
theorem pickS_old {o : Option Sb} {k : Nat} {b : List UInt8} {s : Sb} (h : decS b k = some s) (h2 : ¬ genO o < s.gen) : pickS o k b = o := by
  simp only [pickS, h]; exact if_neg fun h => h2 h.2
theorem best_pair {img b : List UInt8} {s : Sb} (hs : sbB s = true) (h0 : ∀ j, j < 2 → (img.drop (j * 64)).take 64 = if j = secS s then encS s (secS s) else b) :
    (decS b (1 - secS s) = none → bestN img 2 = some s) ∧ (∀ t, decS b (1 - secS s) = some t → t.gen = s.gen + 1 → bestN img 2 = some t) := by
  have hg := (sb_ok hs).gen
  have h1 := secS_lt s
  have hi := fun k => secS_iff hg.1 k
  have hn : genO none = 0 := rfl
  have hsm : ∀ x : Sb, genO (some x) = x.gen := fun _ => rfl
  rw [bestN_two, h0 0 (by decide), h0 1 (by decide)]
  have hd := fun k => decS_encS hs k
  rcases (show secS s = 0 ∨ secS s = 1 by omega) with h | h
  · have h2 := (hi 0).1 (by rw [h])
    rw [h]
    rw [if_pos rfl, if_neg (by decide), pickS_some (hd 0) h2 (by rw [hn]; omega)]
    refine ⟨fun e => pickS_none e, fun t e hgt => pickS_some e (by omega) (by rw [hsm]; omega)⟩
  · have h2 := (hi 1).1 (by rw [h])
    rw [h]
    rw [if_neg (by decide), if_pos rfl]
    refine ⟨fun e => ?_, fun t e hgt => ?_⟩
    · rw [pickS_none e, pickS_some (hd 1) h2 (by rw [hn]; omega)]
    · rw [pickS_some e (by omega) (by rw [hn]; omega), pickS_old (hd 1) (by rw [hsm]; omega)]
theorem inv_pub {v : Dv} (h : v.Inv) (s : Sb) : (v.pub s).2.Inv := by
  unfold Dv.pub
  split
  · split
    · exact inv_write h _ _
    · exact inv_barrier (inv_write h _ _)
  · exact h
theorem write_fu {v : Dv} (hd : v.dead = false) {k : Nat} {b : List UInt8} (hb : b.length = 64) (f : Int) (hc : ({ v with fuse := f } : Dv).check (k : Int) = 0) :
    ({ v with fuse := f } : Dv).write (k : Int) b = if f = 0 then (1, { v with fuse := 0, dead := true }) else (0, { v.put k b with fuse := if 0 < f then f - 1 else f }) := by
  unfold Dv.write
  rw [if_neg (by rw [hc]; simp), if_neg (by omega)]
  obtain ⟨img, old, w, fu, de⟩ := v
  simp only at hd
  subst hd
  by_cases h0 : f = 0
  · subst h0
    simp [Dv.burn]
  · simp [Dv.burn, h0, Dv.put, Dv.sector]
    exact ite_congr rfl (fun _ => rfl) (fun _ => rfl)
theorem bar_fu {v : Dv} (hd : v.dead = false) : v.barrier = if v.fuse = 0 then (1, { v with dead := true }) else (0, { v with fuse := if 0 < v.fuse then v.fuse - 1 else v.fuse, old := [] }) := by
  obtain ⟨img, old, w, fu, de⟩ := v
  simp only at hd
  subst hd
  by_cases h0 : fu = 0
  · subst h0
    simp [Dv.barrier, Dv.burn]
  · simp [Dv.barrier, Dv.burn, h0]
theorem pub_fuse {v : Dv} {L : Nat} (h : Lv L v) (hL : 128 ≤ L) (ho : v.old = []) {t : Sb} (ht : sbB t = true) {n : Nat} (hn : n ≤ 3) :
    ∃ e v3, ({ v with fuse := max (n : Int) (-1) } : Dv).pub t = (e, v3) ∧ v3.Inv ∧ v3.image.length = L ∧
      ((e = 0 ∧ 2 ≤ n ∧ v3.image = (v.pubd t).image ∧ v3.old = []) ∨ (e = 1 ∧ n = 0 ∧ v3.dead = true ∧ v3.image = v.image ∧ v3.old = []) ∨
       (e = 1 ∧ n = 1 ∧ v3.dead = true ∧ v3.image = (v.pubd t).image ∧ v3.Gh v.image ∧ v3.old.length = 1)) := by
  have hk := secS_lt t
  have hel := encS_len t (secS t)
  have hf : max (n : Int) (-1) = n := by omega
  have hinv := inv_pub (v := { v with fuse := max (n : Int) (-1) }) (inv_fuse h.inv (by omega)) t
  have hc : ({ v with fuse := max (n : Int) (-1) } : Dv).check (secS t) = 0 := check_ok (v := { v with fuse := max (n : Int) (-1) }) (inv_fuse h.inv (by omega)) h.dead (by show _ ≤ v.image.length; rw [h.len]; omega)
  have hpl := put_len (v := v) (k := secS t) (b := encS t (secS t)) (by rw [h.len]; omega) (by omega)
  have hgh : (v.put (secS t) (encS t (secS t))).Gh v.image := gh_put h.inv (gh_clean ho) (by rw [h.len]; omega) (by omega)
  have hol : (v.put (secS t) (encS t (secS t))).old.length = 1 := by simp [Dv.put, ho]
  have hpd : (v.put (secS t) (encS t (secS t))).dead = false := h.dead
  have him : (v.pubd t).image = (v.put (secS t) (encS t (secS t))).image := rfl
  have hw := write_fu h.dead hel (max (n : Int) (-1)) hc
  rw [him]
  rw [h.len] at hpl
  obtain ⟨e, v3, he⟩ : ∃ e v3, ({ v with fuse := max (n : Int) (-1) } : Dv).pub t = (e, v3) := ⟨_, _, rfl⟩
  rw [he] at hinv
  refine ⟨e, v3, he, hinv, ?_⟩
  have hp : ({ v with fuse := max (n : Int) (-1) } : Dv).pub t = if (({ v with fuse := max (n : Int) (-1) } : Dv).write (secS t) (encS t (secS t))).1 ≠ 0 then ({ v with fuse := max (n : Int) (-1) } : Dv).write (secS t) (encS t (secS t)) else (({ v with fuse := max (n : Int) (-1) } : Dv).write (secS t) (encS t (secS t))).2.barrier := by
    unfold Dv.pub
    rw [if_pos ht]
  rw [hp, hw, hf] at he
  clear hp hw hinv hc
  generalize v.put (secS t) (encS t (secS t)) = w at *
  have hlen := h.len
  rcases (show n = 0 ∨ n = 1 ∨ n = 2 ∨ n = 3 by omega) with rfl | rfl | rfl | rfl
  · have he : ((1 : Int), ({ v with fuse := 0, dead := true } : Dv)) = (e, v3) := he
    simp only [Prod.mk.injEq] at he
    obtain ⟨rfl, rfl⟩ := he
    exact ⟨hlen, .inr (.inl ⟨rfl, rfl, rfl, rfl, ho⟩)⟩
  · have he : ({ w with fuse := 0 } : Dv).barrier = (e, v3) := he
    rw [bar_fu (v := { w with fuse := 0 }) hpd, if_pos rfl] at he
    simp only [Prod.mk.injEq] at he
    obtain ⟨rfl, rfl⟩ := he
    exact ⟨hpl, .inr (.inr ⟨rfl, rfl, rfl, rfl, ⟨hgh.len, hgh.sec, hgh.same⟩, hol⟩)⟩
  · have he : ({ w with fuse := 1 } : Dv).barrier = (e, v3) := he
    rw [bar_fu (v := { w with fuse := 1 }) hpd, if_neg (show ¬ (1 : Int) = 0 by decide)] at he
    simp only [Prod.mk.injEq] at he
    obtain ⟨rfl, rfl⟩ := he
    exact ⟨hpl, .inl ⟨rfl, by decide, rfl, rfl⟩⟩
  · have he : ({ w with fuse := 2 } : Dv).barrier = (e, v3) := he
    rw [bar_fu (v := { w with fuse := 2 }) hpd, if_neg (show ¬ (2 : Int) = 0 by decide)] at he
    simp only [Prod.mk.injEq] at he
    obtain ⟨rfl, rfl⟩ := he
    exact ⟨hpl, .inl ⟨rfl, by decide, rfl, rfl⟩⟩
def lz3 : List UInt8 := List.replicate ((3 : Int).toNat * 64) 0
theorem lz3_lv : Lv 192 (Dv.fresh lz3) := lv_new 3 (by decide) (by decide)
theorem lz3_sec (j : Nat) (hj : j < 2) : ((Dv.fresh lz3).image.drop (j * 64)).take 64 = List.replicate 64 0 := by
  simp only [Dv.fresh, lz3, List.drop_replicate, List.take_replicate]
  congr 1
  omega
/-- The device with the first superblock. -/
def dv1 (s : Sb) : Dv := (Dv.fresh lz3).pubd s
theorem dv1_lv (s : Sb) : Lv 192 (dv1 s) := lz3_lv.pubd (by decide) s
theorem dv1_sec (s : Sb) (j : Nat) (hj : j < 2) : ((dv1 s).image.drop (j * 64)).take 64 = if j = secS s then encS s (secS s) else List.replicate 64 0 := by
  have h1 := lz3_lv.len
  unfold dv1
  rw [pubd_sec (by rw [h1]; decide) (by rw [h1]; omega), lz3_sec j hj]
theorem dv1_best {s : Sb} (hs : sbB s = true) : bestN (dv1 s).image 2 = some s := (best_pair hs (dv1_sec s)).1 (decS_zero _)
theorem sec_next {s t : Sb} (hs : 1 ≤ s.gen) (hgt : t.gen = s.gen + 1) : secS t = 1 - secS s := by unfold secS; omega
theorem dv2_sec {s t : Sb} (hs : 1 ≤ s.gen) (hgt : t.gen = s.gen + 1) (j : Nat) (hj : j < 2) : (((dv1 s).pubd t).image.drop (j * 64)).take 64 = if j = secS s then encS s (secS s) else encS t (secS t) := by
  have h1 := (dv1_lv s).len
  have h2 := sec_next hs hgt
  have h3 := secS_lt s
  rw [pubd_sec (by rw [h1]; decide) (by rw [h1]; omega), dv1_sec s j hj]
  by_cases h : j = secS s
  · rw [if_pos h, if_neg (by omega), if_pos h]
  · rw [if_pos (by omega), if_neg h]
theorem dv2_best {s t : Sb} (hs : sbB s = true) (ht : sbB t = true) (hgt : t.gen = s.gen + 1) : bestN ((dv1 s).pubd t).image 2 = some t := by
  have hg := (sb_ok hs).gen
  refine (best_pair hs (dv2_sec hg.1 hgt)).2 t ?_ hgt
  rw [← sec_next hg.1 hgt]
  exact decS_encS ht _
theorem lv_crash {v : Dv} (h : v.Inv) (keep : List Bool) (ts : List Tr) : Lv v.image.length (v.crash keep ts) := ⟨inv_crash h _ _, rfl, rfl, crash_len h _ _⟩
theorem atomic_plain {s t : Sb} (hs : sbB s = true) (ht : sbB t = true) (hgt : t.gen = s.gen + 1) {n : Nat} (hn : n ≤ 3) (keep : Bool) :
    ∃ e v3 x, ({ dv1 s with fuse := max (n : Int) (-1) } : Dv).pub t = (e, v3) ∧ v3.Inv ∧ v3.image.length = 192 ∧ loadD (v3.crash [keep] []) = some x ∧ ((e = 0 ∧ x = t) ∨ (e = 1 ∧ v3.dead = true ∧ (x = s ∨ x = t))) := by
  obtain ⟨e, v3, h1, h2, h3, h4⟩ := pub_fuse (dv1_lv s) (by decide) rfl ht hn
  have hl : loadD (v3.crash [keep] []) = bestN (v3.crash [keep] []).image 2 := loadD_of (lv_crash h2 _ _) (by rw [h3]; decide)
  have k1 := dv1_best hs
  have k2 := dv2_best hs ht hgt
  rcases h4 with ⟨h5, _, h6, h7⟩ | ⟨h5, _, h6, h7, h8⟩ | ⟨h5, _, h6, h7, h8, h9⟩
  · exact ⟨e, v3, t, h1, h2, h3, by rw [hl, crash_clean h7, h6, k2], .inl ⟨h5, rfl⟩⟩
  · exact ⟨e, v3, s, h1, h2, h3, by rw [hl, crash_clean h8, h7, k1], .inr ⟨h5, h6, .inl rfl⟩⟩
  · cases keep with
    | true => exact ⟨e, v3, t, h1, h2, h3, by rw [hl, crash_all h2 h8 (fun k hk => by
        have : k = 0 := by omega
        subst this; rfl), h7, k2], .inr ⟨h5, h6, .inr rfl⟩⟩
    | false => exact ⟨e, v3, s, h1, h2, h3, by rw [hl, crash_none h2 h8 (fun k hk => by
        have : k = 0 := by omega
        subst this; rfl), k1], .inr ⟨h5, h6, .inl rfl⟩⟩
theorem sec_get (l : List UInt8) (a i : Nat) (h : i < 64) : ((l.drop a).take 64)[i]? = l[a + i]? := by
  rw [List.getElem?_take, if_pos h, List.getElem?_drop]
theorem torn_plain {s t : Sb} (hs : sbB s = true) (ht : sbB t = true) (hgt : t.gen = s.gen + 1) (N : Int) :
    ∃ v3 b, ({ dv1 s with fuse := max ((1 : Nat) : Int) (-1) } : Dv).pub t = (1, v3) ∧ v3.Inv ∧ v3.image.length = 192 ∧ ∀ j, j < 2 → ((v3.crash [] [⟨0, N⟩]).image.drop (j * 64)).take 64 = if j = secS s then encS s (secS s) else b := by
  obtain ⟨e, v3, h1, h2, h3, h4⟩ := pub_fuse (dv1_lv s) (by decide) rfl ht (n := 1) (by decide)
  have hg := (sb_ok hs).gen
  rcases h4 with ⟨_, h5, _⟩ | ⟨_, h5, _⟩ | ⟨h5, _, h6, h7, h8, h9⟩
  · omega
  · omega
  · subst h5
    refine ⟨v3, ((v3.crash [] [⟨0, N⟩]).image.drop ((1 - secS s) * 64)).take 64, h1, h2, h3, fun j hj => ?_⟩
    have hk := secS_lt s
    by_cases h : j = secS s
    · rw [if_pos h]
      subst h
      apply List.ext_getElem?
      intro i
      rcases Nat.lt_or_ge i 64 with hi | hi
      · have a1 : (encS s (secS s))[i]? = (dv1 s).image[secS s * 64 + i]? := by
          have := dv1_sec s (secS s) hk
          rw [if_pos rfl] at this
          rw [← this, sec_get _ _ _ hi]
        have a2 : (encS s (secS s))[i]? = ((dv1 s).pubd t).image[secS s * 64 + i]? := by
          have := dv2_sec hg.1 hgt (secS s) hk
          rw [if_pos rfl] at this
          rw [← this, sec_get _ _ _ hi]
        rw [sec_get _ _ _ hi, crash_get h2 h8, h7]
        split
        · exact a1.symm
        · exact a2.symm
      · rw [List.getElem?_eq_none (by simp; omega), List.getElem?_eq_none (by rw [encS_len]; exact hi)]
    · rw [if_neg h]
      have : j = 1 - secS s := by omega
      rw [this]
end Go.Abs
namespace Go.Abs
theorem new3_at (X : Nat → Prop) (H : Hp) : ACalls (E0 X) 19 [.int .i64 3] H (fun r H' => r = .ptr H.length 0 ∧ H' = H ++ devS H.length (Dv.fresh lz3)) := by
  refine (acalls_make (E := E0 X) (P := fun r H' => r = .ptr 0 0 ∧ H' = devH (Dv.fresh lz3)) (fun X => (new_c X 3).mono fun r H' h => by
      rcases h with ⟨_, _, h1, h2⟩ | ⟨h1, _⟩
      · refine ⟨h1, h2.trans ?_⟩
        unfold lz3; rfl
      · exact absurd ⟨by decide, by decide⟩ h1)
    (fun r h' h => by
      obtain ⟨rfl, rfl⟩ := h
      exact ⟨rfl, noFz_dev _⟩) (Bor.same trivial .nil)).mono ?_
  rintro r H' ⟨r0, h', ⟨rfl, rfl⟩, rfl, rfl⟩
  exact ⟨by simp [rnA], by rw [mapH_dev]⟩
theorem fuse_at (X : Nat → Prop) (v : Dv) (n : Int) (L R : Hp) (s : Nat) (hs : L.length = s) : ACalls (E0 X) 52 [.ptr s 0, .int .i64 n] (L ++ devS s v ++ R) (fun _ H' => H' = L ++ devS s { v with fuse := max n (-1) } ++ R) := by
  refine (dev_gen (fun X => fuse_c X v n) ⟨trivial, trivial⟩ L R s hs).mono ?_
  rintro r H' ⟨r1, h', rfl, rfl, rfl⟩
  show L ++ mapH (sh s R.length 3) (devH _) ++ R ++ [] = _
  rw [mapH_devQ, List.append_nil]
theorem hok_ss (s t : Sb) : HOk 2 [some (.cells (sbL s) 50), some (.cells (sbL t) 50)] := fun j o ho => by
  match j, ho with
  | 0, ho => cases ho; exact (sbA_ids (s := s) (n := 2) : IdsLt 2 (.agg (sbL s)))
  | 1, ho => cases ho; exact (sbA_ids (s := t) (n := 2) : IdsLt 2 (.agg (sbL t)))
def Sb.nx (s t : Sb) : Sb := { t with gen := s.gen + 1 }
theorem wrap1 {g : Int} (h1 : 1 ≤ g) (h2 : g ≤ 1099511627775) : IntKind.i64.wrap (g + 1) = g + 1 := wrap_in (by omega) (by omega)
attribute [local irreducible] AStep aops AWp Nx awM
set_option maxHeartbeats 0 in
set_option maxRecDepth 100000 in
theorem pairAtomic_c (X : Nat → Prop) (s0 t0 : Sb) (fuse : Int) (keep : Bool) : ACalls (E0 X) 13 [.agg (sbL s0 ++ (sbL t0 ++ [.int .i64 fuse, .bool keep]))] [] (fun r H' => r = .bool true ∧ H' = []) := by
  refine ACalls.cut0 ?_ trivial
  have hsh := fun X => short_c X s0
  have htsh := fun X => short_c X t0
  have hfs := short_len s0
  have hft := short_len t0
  show ACalls (E0 X) 13 [.agg [.int .i64 s0.gen, .int .i64 s0.phase, .int .i64 s0.mig, .int .i64 s0.tail, .int .i64 s0.now, .int .i64 s0.t.id, .int .i64 s0.t.ver, .int .i64 s0.t.rs, .int .i64 s0.t.regs, .int .i64 s0.h.id, .int .i64 s0.h.ver, .int .i64 s0.h.rs, .int .i64 s0.h.regs, .sl 4 (s0.fo.map laA), .int .i64 t0.gen, .int .i64 t0.phase, .int .i64 t0.mig, .int .i64 t0.tail, .int .i64 t0.now, .int .i64 t0.t.id, .int .i64 t0.t.ver, .int .i64 t0.t.rs, .int .i64 t0.t.regs, .int .i64 t0.h.id, .int .i64 t0.h.ver, .int .i64 t0.h.rs, .int .i64 t0.h.regs, .sl 4 (t0.fo.map laA), .int .i64 fuse, .bool keep]] [] _
  refine acalls_of Proofs.Tryd.func13 rfl Proofs.Tryd.ntmps13 (by kernel_rfl) rfl ?_
  intro hH hargs
  clear hH hargs
  repeat' (first | ((refine Qa rfl ?_); (first | refine Q1 ?_ | refine QK rfl ?_); (refine QX rfl rfl ?_)) | refine Qh ?_ | refine Ql ?_ | refine Qo rfl ?_)
  refine awp_pre (Imp.trans (imp_freezeP (id := 0) (cs := [.int .i64 s0.gen, .int .i64 s0.phase, .int .i64 s0.mig, .int .i64 s0.tail, .int .i64 s0.now, .int .i64 s0.t.id, .int .i64 s0.t.ver, .int .i64 s0.t.rs, .int .i64 s0.t.regs, .int .i64 s0.h.id, .int .i64 s0.h.ver, .int .i64 s0.h.rs, .int .i64 s0.h.regs, .sl 4 (s0.fo.map laA), .int .i64 t0.gen, .int .i64 t0.phase, .int .i64 t0.mig, .int .i64 t0.tail, .int .i64 t0.now, .int .i64 t0.t.id, .int .i64 t0.t.ver, .int .i64 t0.t.rs, .int .i64 t0.t.regs, .int .i64 t0.h.id, .int .i64 t0.h.ver, .int .i64 t0.h.rs, .int .i64 t0.h.regs, .sl 4 (t0.fo.map laA), .int .i64 fuse, .bool keep]) rfl) (imp_cutk 0 (Nat.zero_le _) hok_nil rfl (by simp) (sl' := [(1, .fp [.int .i64 s0.gen, .int .i64 s0.phase, .int .i64 s0.mig, .int .i64 s0.tail, .int .i64 s0.now, .int .i64 s0.t.id, .int .i64 s0.t.ver, .int .i64 s0.t.rs, .int .i64 s0.t.regs, .int .i64 s0.h.id, .int .i64 s0.h.ver, .int .i64 s0.h.rs, .int .i64 s0.h.regs, .sl 4 (s0.fo.map laA), .int .i64 t0.gen, .int .i64 t0.phase, .int .i64 t0.mig, .int .i64 t0.tail, .int .i64 t0.now, .int .i64 t0.t.id, .int .i64 t0.t.ver, .int .i64 t0.t.rs, .int .i64 t0.t.regs, .int .i64 t0.h.id, .int .i64 t0.h.ver, .int .i64 t0.h.rs, .int .i64 t0.h.regs, .sl 4 (t0.fo.map laA), .int .i64 fuse, .bool keep]), (2, .bool false)]) ?_)) ?_
  · refine fa_cons ⟨rfl, ?_⟩ (fa_cons ⟨rfl, trivial⟩ fa_nil)
    simp [IdsLt, IdsLtL, la_ids]
  refine awp_mid (s1 := ⟨[(2, .bool false), (3, .ptr 0 0), (4, .ptr 1 0), (5, .int .i64 fuse), (6, .bool keep)], [some (.cells (sbL s0.short) 50), some (.cells (sbL t0.short) 50)]⟩) ?_ ?_
  · refine awp_region_any [10, 11, 12, 13] [0, 1, 2, 3, 4, 5, 6, 7, 8, 9, 14, 15] (by exact rfl) ?_
    refine any_lin (fuel := 6) [0, 1, 2, 3, 4, 5, 6, 7, 8, 9] (by exact rfl) (by kernel_rfl) (by kernel_rfl) ?_
    repeat' ((apply Qe rfl rfl rfl rfl; intro H9); (first | refine Q3 rfl rfl rfl ?_ | refine Q4 rfl rfl rfl rfl rfl ?_); (exact QY rfl ⟨rfl, rfl⟩))
    apply ds_soN rfl rfl rfl rfl
    · intro H9
      refine st_call (fun _ => rfl) rfl ?_
      refine ACalls.mono (acalls_pure (E := E0 X) (fun X => hsh X) (by simp [IdsLtL, IdsLt]) _) ?_
      rintro r H' ⟨rfl, rfl⟩
      first | exact nxs rfl ⟨rfl, rfl⟩ | exact nx0 ⟨rfl, rfl⟩
    repeat' ((apply Qe rfl rfl rfl rfl; intro H9); (first | refine Q3 rfl rfl rfl ?_ | refine Q4 rfl rfl rfl rfl rfl ?_); (exact QY rfl ⟨rfl, rfl⟩))
    apply ds_soN rfl rfl rfl rfl
    · intro H9
      refine st_call (fun _ => rfl) rfl ?_
      refine ACalls.mono (acalls_pure (E := E0 X) (fun X => htsh X) (by simp [IdsLtL, IdsLt]) _) ?_
      rintro r H' ⟨rfl, rfl⟩
      first | exact nxs rfl ⟨rfl, rfl⟩ | exact nx0 ⟨rfl, rfl⟩
    repeat' (first | ((apply Qe rfl rfl rfl rfl; intro H9); (first | refine Q3 rfl rfl rfl ?_ | refine Q4 rfl rfl rfl rfl rfl ?_); (exact QY rfl ⟨rfl, rfl⟩)) | refine Qk ?_)
    refine any_br [10, 11] (by kernel_rfl) (br2 ?_ ?_)
    · refine mop_ef rfl rfl rfl ?_
      refine st_alloc rfl rfl ?_
      first | refine nx rfl rfl ?_ | refine nx0 ?_
      refine any_lin (fuel := 0) [11, 12, 13, 14, 15] (by exact rfl) (by kernel_rfl) (by kernel_rfl) ?_
      repeat' (first | ((first | refine Qc rfl rfl rfl ?_ | (apply Qe rfl rfl rfl rfl; intro H9)); (first | refine Q1 ?_ | refine QJ rfl rfl ?_); (first | exact QY rfl ⟨rfl, rfl⟩ | refine QX rfl rfl ?_)) | (refine Qf rfl rfl rfl ?_; refine QS rfl rfl rfl rfl rfl rfl rfl ?_; (refine QX rfl rfl ?_)) | refine Qk ?_ | refine Qw (by kernel_rfl) ?_)
      refine ⟨rfl, imp_tid 0 [0, 1] (os := [.cells (sbL s0.short) 50, .cells (sbL t0.short) 50]) (Nat.le_refl _) (Nat.zero_le _) (by simp) (by simp) (by simp [HOk]) rfl rfl ?_ ?_⟩
      · exact fa_cons (ren_lt rfl trivial) (fa_cons (ren_ptr rfl) (fa_cons (ren_ptr rfl) (fa_cons (ren_lt rfl trivial) (fa_cons (ren_lt rfl trivial) fa_nil))))
      · exact os_cons rfl (renO_old 0 (fun i h => absurd h (Nat.not_lt_zero i)) (sbA_ids (s := s0.short) (n := 0) : IdsLt 0 (.agg (sbL s0.short)))) (os_cons rfl (renO_old 0 (fun i h => absurd h (Nat.not_lt_zero i)) (sbA_ids (s := t0.short) (n := 0) : IdsLt 0 (.agg (sbL t0.short)))) os_nil)
    · refine mop_ef rfl rfl rfl ?_
      refine st_alloc rfl rfl ?_
      first | refine nx rfl rfl ?_ | refine nx0 ?_
      refine any_lin (fuel := 0) [10, 12, 13, 14, 15] (by exact rfl) (by kernel_rfl) (by kernel_rfl) ?_
      repeat' (first | ((first | refine Qc rfl rfl rfl ?_ | (apply Qe rfl rfl rfl rfl; intro H9)); (first | refine Q1 ?_ | refine QJ rfl rfl ?_); (first | exact QY rfl ⟨rfl, rfl⟩ | refine QX rfl rfl ?_)) | (refine Qf rfl rfl rfl ?_; refine QS rfl rfl rfl rfl rfl rfl rfl ?_; (refine QX rfl rfl ?_)) | refine Qk ?_ | refine Qw (by kernel_rfl) ?_)
      refine ⟨rfl, imp_tid 0 [1, 0] (os := [.cells (sbL s0.short) 50, .cells (sbL t0.short) 50]) (Nat.le_refl _) (Nat.zero_le _) (by simp) (by simp) (by simp [HOk]) rfl rfl ?_ ?_⟩
      · exact fa_cons (ren_lt rfl trivial) (fa_cons (ren_ptr rfl) (fa_cons (ren_ptr rfl) (fa_cons (ren_lt rfl trivial) (fa_cons (ren_lt rfl trivial) fa_nil))))
      · exact os_cons rfl (renO_old 0 (fun i h => absurd h (Nat.not_lt_zero i)) (sbA_ids (s := s0.short) (n := 0) : IdsLt 0 (.agg (sbL s0.short)))) (os_cons rfl (renO_old 0 (fun i h => absurd h (Nat.not_lt_zero i)) (sbA_ids (s := t0.short) (n := 0) : IdsLt 0 (.agg (sbL t0.short)))) os_nil)
  generalize s0.short = s at *
  generalize t0.short = t1 at *
  clear hsh htsh
  have hva := fun X => rsvalid_c X s
  repeat' (first | ((refine Qa rfl ?_); (first | refine Q3 rfl rfl rfl ?_ | refine Q4 rfl rfl rfl rfl rfl ?_); (refine QX rfl rfl ?_)) | refine Qa rfl ?_ | (refine Qb rfl ?_; try (refine QS rfl rfl rfl rfl rfl rfl rfl ?_; (refine QX rfl rfl ?_))) | refine Qh ?_ | refine Ql ?_ | refine Qo rfl ?_)
  refine st_call (fun _ => rfl) rfl ?_
  refine ACalls.mono (acalls_pure (E := E0 X) (fun X => hva X) (by simp [IdsLtL, IdsLt]) _) ?_
  rintro r H' ⟨rfl, rfl⟩
  first | refine nx rfl rfl ?_ | refine nx0 ?_
  cases hb : sbB s with
  | false =>
    repeat' (first | ((refine Qa rfl ?_); (first | refine Q0 ?_ | refine Q5 rfl ?_ | refine QD rfl ?_); (refine QX rfl rfl ?_)) | refine Qa rfl ?_ | refine Qh ?_ | refine Qi rfl ?_ | refine Ql ?_ | refine Qo rfl ?_ | refine Qp rfl ?_)
    refine st_call (fun _ => rfl) rfl ?_
    refine ACalls.mono (acalls_pure (E := E0 X) (fun X => pawake_c X) (by simp [IdsLtL, IdsLt]) _) ?_
    rintro r H' ⟨rfl, rfl⟩
    first | refine nx rfl rfl ?_ | refine nx0 ?_
    repeat' (first | ((refine Qa rfl ?_); (refine Q1 ?_); (refine QX rfl rfl ?_)) | refine Qh ?_ | refine Qs ?_)
    refine awp_ret ?_
    exact ⟨_, rfl, rfl⟩
  | true =>
    have hg := (sb_ok hb).gen
    repeat' (first | ((refine Qa rfl ?_); (first | refine Q0 ?_ | refine Q2 rfl ?_ | refine Q3 rfl rfl rfl ?_ | refine Q4 rfl rfl rfl rfl rfl ?_ | refine Q5 rfl ?_ | refine QD rfl ?_); (refine QX rfl rfl ?_)) | refine Qh ?_ | refine Qs ?_)
    refine awp_cond_dec rfl (fun h1 => ?_) (fun h1 => ?_)
    · skip
      repeat' (first | refine Qa rfl ?_ | refine Ql ?_ | refine Qo rfl ?_)
      refine st_call (fun _ => rfl) rfl ?_
      refine ACalls.mono (acalls_pure (E := E0 X) (fun X => pawake_c X) (by simp [IdsLtL, IdsLt]) _) ?_
      rintro r H' ⟨rfl, rfl⟩
      first | refine nx rfl rfl ?_ | refine nx0 ?_
      repeat' (first | ((refine Qa rfl ?_); (refine Q1 ?_); (refine QX rfl rfl ?_)) | refine Qh ?_ | refine Qs ?_)
      refine awp_ret ?_
      exact ⟨_, rfl, rfl⟩
    have hvt := fun X => rsvalid_c X (s.nx t1)
    repeat' (first | ((refine Qa rfl ?_); (first | refine Q2 rfl ?_ | refine Q3 rfl rfl rfl ?_ | refine Q4 rfl rfl rfl rfl rfl ?_); (refine QX rfl rfl ?_)) | refine Qa rfl ?_ | (refine Qb rfl ?_; try (refine QS rfl rfl rfl rfl rfl rfl rfl ?_; (refine QX rfl rfl ?_))) | refine Qh ?_ | refine Ql ?_ | refine Qm ?_ | refine Qo rfl ?_)
    rw [wrap1 hg.1 hg.2]
    refine st_call (fun _ => rfl) rfl ?_
    refine ACalls.mono (acalls_pure (E := E0 X) (fun X => hvt X) (by simp [IdsLtL, IdsLt]) _) ?_
    rintro r H' ⟨rfl, rfl⟩
    first | refine nx rfl rfl ?_ | refine nx0 ?_
    cases hbt : sbB (s.nx t1) with
    | false =>
      repeat' (first | ((refine Qa rfl ?_); (refine QD rfl ?_); (refine QX rfl rfl ?_)) | refine Qa rfl ?_ | refine Qh ?_ | refine Ql ?_ | refine Qo rfl ?_ | refine Qp rfl ?_)
      refine st_call (fun _ => rfl) rfl ?_
      refine ACalls.mono (acalls_pure (E := E0 X) (fun X => pawake_c X) (by simp [IdsLtL, IdsLt]) _) ?_
      rintro r H' ⟨rfl, rfl⟩
      first | refine nx rfl rfl ?_ | refine nx0 ?_
      repeat' (first | ((refine Qa rfl ?_); (refine Q1 ?_); (refine QX rfl rfl ?_)) | refine Qh ?_ | refine Qs ?_)
      refine awp_ret ?_
      exact ⟨_, rfl, rfl⟩
    | true =>
      obtain ⟨m, hm, hand⟩ := and_le fuse 3 (by decide)
      have hand : ibits .and .i64 fuse 3 = (m : Int) := hand
      obtain ⟨e, v3, x, a1, a2, a3, a4, a5⟩ := atomic_plain hb hbt rfl hm keep
      have hp1 : (Dv.fresh lz3).pub s = (0, dv1 s) := lz3_lv.pub (by decide) hb
      have hpb1 := fun L R s1 h => dev_at (fun X => publish_c X (Dv.fresh lz3) lz3_lv.inv.ok s (by omega)) ⟨sbA_ids, trivial⟩ trivial L R s1 h (X := X)
      rw [hp1] at hpb1
      dsimp only at hpb1
      have hfu := fun L R s1 h => fuse_at X (dv1 s) (m : Int) L R s1 h
      have hpb2 := fun L R s1 h => dev_at (fun X => publish_c X { dv1 s with fuse := max (m : Int) (-1) } (inv_fuse (dv1_lv s).inv (by omega)).ok (s.nx t1) (by show t1.fo.length ≤ _; omega)) ⟨sbA_ids, trivial⟩ trivial L R s1 h (X := X)
      rw [a1] at hpb2
      dsimp only at hpb2
      have hcr := fun L R s1 h => crash_kn X v3 a2 [keep] L R s1 h
      have hld := fun L R s1 h => dev_at (fun X => sload_c X (v3.crash [keep] []) (inv_crash a2 _ _)) trivial (by rw [a4]; exact ⟨sbA_ids, trivial, trivial⟩) L R s1 h (X := X)
      rw [a4] at hld
      have hde := fun L R s1 h => dev_at (fun X => dead_c X v3) trivial trivial L R s1 h (X := X)
      generalize v3.crash [keep] [] = c at *
      repeat' (first | ((refine Qa rfl ?_); (refine QD rfl ?_); (refine QX rfl rfl ?_)) | refine Qa rfl ?_ | refine Qh ?_ | refine Ql ?_ | refine Qm ?_ | refine Qo rfl ?_ | refine Qq rfl ?_)
      refine st_call (fun _ => rfl) rfl ?_
      refine ACalls.mono (new3_at X _) ?_
      rintro r H' ⟨rfl, rfl⟩
      first | refine nx rfl rfl ?_ | refine nx0 ?_
      generalize Dv.fresh lz3 = v0 at *
      repeat' (first | ((refine Qa rfl ?_); (first | refine Q0 ?_ | refine Q1 ?_ | refine Q3 rfl rfl rfl ?_); (refine QX rfl rfl ?_)) | refine Qa rfl ?_ | refine Qh ?_ | refine Ql ?_ | refine Qo rfl ?_)
      refine st_call (fun _ => rfl) rfl ?_
      refine ACalls.mono (hpb1 [_, _] [] 2 rfl) ?_
      rintro r H' ⟨rfl, rfl⟩
      first | refine nx rfl rfl ?_ | refine nx0 ?_
      repeat' (first | ((refine Qa rfl ?_); (first | refine Q0 ?_ | refine Q2 rfl ?_); (refine QX rfl rfl ?_)) | refine Qa rfl ?_ | refine Qh ?_ | refine Ql ?_ | refine Qm ?_ | refine Qo rfl ?_ | refine Qq rfl ?_)
      rw [hand]
      refine st_call (fun _ => rfl) rfl ?_
      refine ACalls.mono (hfu [_, _] [] 2 rfl) ?_
      rintro r H' rfl
      first | refine nx rfl rfl ?_ | refine nx0 ?_
      repeat' (first | ((refine Qa rfl ?_); (first | refine Q0 ?_ | refine Q3 rfl rfl rfl ?_); (refine QX rfl rfl ?_)) | refine Qa rfl ?_ | refine Qh ?_ | refine Ql ?_ | refine Qo rfl ?_)
      refine st_call (fun _ => rfl) rfl ?_
      refine ACalls.mono (hpb2 [_, _] [] 2 rfl) ?_
      rintro r H' ⟨rfl, rfl⟩
      first | refine nx rfl rfl ?_ | refine nx0 ?_
      repeat' (first | ((refine Qa rfl ?_); (first | refine Q0 ?_ | refine Q1 ?_ | refine QR rfl rfl rfl rfl rfl rfl rfl rfl rfl rfl rfl rfl ?_); (refine QX rfl rfl ?_)) | refine Qa rfl ?_ | refine Qh ?_ | refine Ql ?_ | refine Qo rfl ?_)
      refine st_call (fun _ => rfl) rfl ?_
      refine ACalls.mono (hcr [_, _] [] 2 rfl) ?_
      rintro r H' ⟨rfl, rfl⟩
      first | refine nx rfl rfl ?_ | refine nx0 ?_
      repeat' (refine Qa rfl ?_)
      refine st_call (fun _ => rfl) rfl ?_
      refine ACalls.mono (hld [_, _, _, _, _] [] 5 rfl) ?_
      rintro r H' ⟨rfl, rfl⟩
      first | refine nx rfl rfl ?_ | refine nx0 ?_
      have hne : ¬ s.nx t1 = s := fun h => by
        have h2 := congrArg Sb.gen h
        have h3 : s.gen + 1 = s.gen := h2
        omega
      have hts : (s.nx t1).fo.length ≤ 4 := hft
      have hs1 := fun X => seq_c X (s.nx t1) (s.nx t1) (by omega)
      have hs2 := fun X => seq_c X s s (by omega)
      have hs3 := fun X => seq_c X (s.nx t1) s (by omega)
      rw [decide_eq_true rfl] at hs1
      rw [decide_eq_true rfl] at hs2
      rw [decide_eq_false hne] at hs3
      rcases a5 with ⟨rfl, rfl⟩ | ⟨rfl, a6, rfl | rfl⟩
      · skip
        repeat' (first | ((refine Qa rfl ?_); (first | refine Q0 ?_ | refine Q1 ?_ | refine Q2 rfl ?_ | refine QC rfl rfl ?_ | refine QD rfl ?_ | refine QJ rfl rfl ?_); (refine QX rfl rfl ?_)) | refine Qa rfl ?_ | (refine Qb rfl ?_; try (refine QS rfl rfl rfl rfl rfl rfl rfl ?_; (refine QX rfl rfl ?_))) | refine Qh ?_ | refine Ql ?_ | refine Qm ?_ | refine Qo rfl ?_ | refine Qp rfl ?_ | refine Qq rfl ?_)
        refine st_call (fun _ => rfl) rfl ?_
        refine ACalls.mono (acalls_pure (E := E0 X) (fun X => pawake_c X) (by simp [IdsLtL, IdsLt]) _) ?_
        rintro r H' ⟨rfl, rfl⟩
        first | refine nx rfl rfl ?_ | refine nx0 ?_
        repeat' (first | ((refine Qa rfl ?_); (first | refine Q0 ?_ | refine Q3 rfl rfl rfl ?_); (refine QX rfl rfl ?_)) | refine Qa rfl ?_)
        refine st_call (fun _ => rfl) rfl ?_
        refine ACalls.mono (acalls_pure (E := E0 X) (fun X => hs1 X) (by simp [IdsLtL, IdsLt]) _) ?_
        rintro r H' ⟨rfl, rfl⟩
        first | refine nx rfl rfl ?_ | refine nx0 ?_
        repeat' (first | ((refine Qa rfl ?_); (first | refine Q1 ?_ | refine Q5 rfl ?_); (refine QX rfl rfl ?_)) | refine Qh ?_ | refine Qs ?_)
        refine awp_ret ?_
        exact ⟨_, rfl, rfl⟩
      · rw [a6] at hde
        repeat' (first | ((refine Qa rfl ?_); (first | refine Q0 ?_ | refine Q1 ?_ | refine Q2 rfl ?_ | refine QC rfl rfl ?_ | refine QD rfl ?_ | refine QJ rfl rfl ?_); (refine QX rfl rfl ?_)) | refine Qa rfl ?_ | (refine Qb rfl ?_; try (refine QS rfl rfl rfl rfl rfl rfl rfl ?_; (refine QX rfl rfl ?_))) | refine Qh ?_ | refine Ql ?_ | refine Qm ?_ | refine Qo rfl ?_ | refine Qq rfl ?_)
        refine st_call (fun _ => rfl) rfl ?_
        refine ACalls.mono (acalls_pure (E := E0 X) (fun X => pawake_c X) (by simp [IdsLtL, IdsLt]) _) ?_
        rintro r H' ⟨rfl, rfl⟩
        first | refine nx rfl rfl ?_ | refine nx0 ?_
        repeat' (first | ((refine Qa rfl ?_); (first | refine Q0 ?_ | refine Q2 rfl ?_ | refine Q5 rfl ?_); (refine QX rfl rfl ?_)) | refine Qa rfl ?_)
        refine st_call (fun _ => rfl) rfl ?_
        refine ACalls.mono (hde [_, _] [_, _, _, _] 2 rfl) ?_
        rintro r H' ⟨rfl, rfl⟩
        first | refine nx rfl rfl ?_ | refine nx0 ?_
        repeat' (first | ((refine Qa rfl ?_); (first | refine Q0 ?_ | refine Q3 rfl rfl rfl ?_ | refine Q5 rfl ?_); (refine QX rfl rfl ?_)) | refine Qa rfl ?_)
        refine st_call (fun _ => rfl) rfl ?_
        refine ACalls.mono (acalls_pure (E := E0 X) (fun X => hs2 X) (by simp [IdsLtL, IdsLt]) _) ?_
        rintro r H' ⟨rfl, rfl⟩
        first | refine nx rfl rfl ?_ | refine nx0 ?_
        repeat' (first | ((refine Qa rfl ?_); (first | refine Q0 ?_ | refine Q1 ?_ | refine Q5 rfl ?_); (refine QX rfl rfl ?_)) | refine Qh ?_ | refine Qi rfl ?_ | refine Qs ?_)
        refine awp_ret ?_
        exact ⟨_, rfl, rfl⟩
      · rw [a6] at hde
        repeat' (first | ((refine Qa rfl ?_); (first | refine Q0 ?_ | refine Q1 ?_ | refine Q2 rfl ?_ | refine QC rfl rfl ?_ | refine QD rfl ?_ | refine QJ rfl rfl ?_); (refine QX rfl rfl ?_)) | refine Qa rfl ?_ | (refine Qb rfl ?_; try (refine QS rfl rfl rfl rfl rfl rfl rfl ?_; (refine QX rfl rfl ?_))) | refine Qh ?_ | refine Ql ?_ | refine Qm ?_ | refine Qo rfl ?_ | refine Qq rfl ?_)
        refine st_call (fun _ => rfl) rfl ?_
        refine ACalls.mono (acalls_pure (E := E0 X) (fun X => pawake_c X) (by simp [IdsLtL, IdsLt]) _) ?_
        rintro r H' ⟨rfl, rfl⟩
        first | refine nx rfl rfl ?_ | refine nx0 ?_
        repeat' (first | ((refine Qa rfl ?_); (first | refine Q0 ?_ | refine Q2 rfl ?_ | refine Q5 rfl ?_); (refine QX rfl rfl ?_)) | refine Qa rfl ?_)
        refine st_call (fun _ => rfl) rfl ?_
        refine ACalls.mono (hde [_, _] [_, _, _, _] 2 rfl) ?_
        rintro r H' ⟨rfl, rfl⟩
        first | refine nx rfl rfl ?_ | refine nx0 ?_
        repeat' (first | ((refine Qa rfl ?_); (first | refine Q0 ?_ | refine Q3 rfl rfl rfl ?_ | refine Q5 rfl ?_); (refine QX rfl rfl ?_)) | refine Qa rfl ?_)
        refine st_call (fun _ => rfl) rfl ?_
        refine ACalls.mono (acalls_pure (E := E0 X) (fun X => hs3 X) (by simp [IdsLtL, IdsLt]) _) ?_
        rintro r H' ⟨rfl, rfl⟩
        first | refine nx rfl rfl ?_ | refine nx0 ?_
        repeat' (first | ((refine Qa rfl ?_); (first | refine Q0 ?_ | refine Q3 rfl rfl rfl ?_); (refine QX rfl rfl ?_)) | refine Qa rfl ?_)
        refine st_call (fun _ => rfl) rfl ?_
        refine ACalls.mono (acalls_pure (E := E0 X) (fun X => hs1 X) (by simp [IdsLtL, IdsLt]) _) ?_
        rintro r H' ⟨rfl, rfl⟩
        first | refine nx rfl rfl ?_ | refine nx0 ?_
        repeat' (first | ((refine Qa rfl ?_); (first | refine Q1 ?_ | refine Q5 rfl ?_); (refine QX rfl rfl ?_)) | refine Qh ?_ | refine Qs ?_)
        refine awp_ret ?_
        exact ⟨_, rfl, rfl⟩
end Go.Abs
namespace Go.Abs
theorem image_at (X : Nat → Prop) (v : Dv) (hl : v.image.length ≤ 1073741824) (L R : Hp) (s : Nat) (hs : L.length = s) : ACalls (E0 X) 29 [.ptr s 0] (L ++ devS s v ++ R) (fun r H' => r = .sl 1 (v.image.map u8A) ∧ H' = L ++ devS s v ++ R) :=
  dev_at (fun X => image_v X v hl) trivial (idsL_map fun _ => u8A_ids) L R s hs
attribute [local irreducible] AStep aops AWp Nx awM
set_option maxHeartbeats 0 in
set_option maxRecDepth 100000 in
theorem pairTorn_c (X : Nat → Prop) (s0 t0 : Sb) (N : Int) : ACalls (E0 X) 14 [sbA s0, sbA t0, .int .i64 N] [] (fun r H' => r = .bool true ∧ H' = []) := by
  refine ACalls.cut0 ?_ trivial
  have hsh := fun X => short_c X s0
  have htsh := fun X => short_c X t0
  have hfs := short_len s0
  have hft := short_len t0
  show ACalls (E0 X) 14 [.agg [.int .i64 s0.gen, .int .i64 s0.phase, .int .i64 s0.mig, .int .i64 s0.tail, .int .i64 s0.now, .int .i64 s0.t.id, .int .i64 s0.t.ver, .int .i64 s0.t.rs, .int .i64 s0.t.regs, .int .i64 s0.h.id, .int .i64 s0.h.ver, .int .i64 s0.h.rs, .int .i64 s0.h.regs, .sl 4 (s0.fo.map laA)], .agg [.int .i64 t0.gen, .int .i64 t0.phase, .int .i64 t0.mig, .int .i64 t0.tail, .int .i64 t0.now, .int .i64 t0.t.id, .int .i64 t0.t.ver, .int .i64 t0.t.rs, .int .i64 t0.t.regs, .int .i64 t0.h.id, .int .i64 t0.h.ver, .int .i64 t0.h.rs, .int .i64 t0.h.regs, .sl 4 (t0.fo.map laA)], .int .i64 N] [] _
  refine acalls_of Proofs.Tryd.func14 rfl Proofs.Tryd.ntmps14 (by kernel_rfl) rfl ?_
  intro hH hargs
  clear hH hargs
  repeat' (first | ((refine Qa rfl ?_); (first | refine Q1 ?_ | refine QK rfl ?_); (refine QX rfl rfl ?_)) | refine Qh ?_ | refine Ql ?_ | refine Qo rfl ?_)
  refine awp_mid (s1 := ⟨[(2, .int .i64 N), (3, .ptr 0 0), (4, .ptr 1 0), (6, .bool false)], [some (.cells (sbL s0.short) 50), some (.cells (sbL t0.short) 50)]⟩) ?_ ?_
  · refine awp_region_any [4, 5] [1, 3] (by exact rfl) ?_
    refine any_lin (fuel := 0) [0, 1, 2, 3, 4, 5] (by exact rfl) (by kernel_rfl) (by kernel_rfl) ?_
    repeat' ((first | apply Qd rfl rfl rfl rfl | (apply Qe rfl rfl rfl rfl; intro H9)); (refine Q3 rfl rfl rfl ?_); (exact QX rfl rfl ⟨rfl, rfl⟩))
    apply ds_soN rfl rfl rfl rfl
    · intro H9
      refine st_call (fun _ => rfl) rfl ?_
      refine ACalls.mono (acalls_pure (E := E0 X) (fun X => hsh X) (by simp [IdsLtL, IdsLt]) _) ?_
      rintro r H' ⟨rfl, rfl⟩
      first | exact nxs rfl ⟨rfl, rfl⟩ | exact nx0 ⟨rfl, rfl⟩
    repeat' ((first | apply Qd rfl rfl rfl rfl | (apply Qe rfl rfl rfl rfl; intro H9)); (refine Q3 rfl rfl rfl ?_); (exact QX rfl rfl ⟨rfl, rfl⟩))
    apply ds_soN rfl rfl rfl rfl
    · intro H9
      refine st_call (fun _ => rfl) rfl ?_
      refine ACalls.mono (acalls_pure (E := E0 X) (fun X => htsh X) (by simp [IdsLtL, IdsLt]) _) ?_
      rintro r H' ⟨rfl, rfl⟩
      first | exact nxs rfl ⟨rfl, rfl⟩ | exact nx0 ⟨rfl, rfl⟩
    repeat' (first | (refine Qf rfl rfl rfl ?_; refine QS rfl rfl rfl rfl rfl rfl rfl ?_; (refine QX rfl rfl ?_)) | refine Qk ?_ | refine Qw (by kernel_rfl) ?_)
    refine ⟨rfl, imp_cutk 2 (Nat.zero_le _) (hok_ss _ _) rfl (by simp) ?_⟩
    repeat' (first | exact fa_nil | refine fa_cons ⟨?_, ?_⟩ ?_)
    all_goals (try first | exact rfl | exact trivial | (simp [IdsLt, IdsLtL]; done) | (simp [get_cons]; done) | (simp [get_cons, *]; done) | (refine congrArg (AV.int .i64) (wrap_eq ?_ ?_ ?_) <;> (first | omega | (simp; omega))))
  generalize s0.short = s at *
  generalize t0.short = t1 at *
  clear hsh htsh
  have hva := fun X => rsvalid_c X s
  repeat' (first | ((refine Qa rfl ?_); (first | refine Q3 rfl rfl rfl ?_ | refine Q4 rfl rfl rfl rfl rfl ?_); (refine QX rfl rfl ?_)) | refine Qa rfl ?_ | (refine Qb rfl ?_; try (refine QS rfl rfl rfl rfl rfl rfl rfl ?_; (refine QX rfl rfl ?_))) | refine Qh ?_ | refine Ql ?_ | refine Qo rfl ?_)
  refine st_call (fun _ => rfl) rfl ?_
  refine ACalls.mono (acalls_pure (E := E0 X) (fun X => hva X) (by simp [IdsLtL, IdsLt]) _) ?_
  rintro r H' ⟨rfl, rfl⟩
  first | refine nx rfl rfl ?_ | refine nx0 ?_
  cases hb : sbB s with
  | false =>
    repeat' (first | ((refine Qa rfl ?_); (first | refine Q0 ?_ | refine Q5 rfl ?_ | refine QD rfl ?_); (refine QX rfl rfl ?_)) | refine Qa rfl ?_ | refine Qh ?_ | refine Qi rfl ?_ | refine Ql ?_ | refine Qo rfl ?_ | refine Qp rfl ?_)
    refine st_call (fun _ => rfl) rfl ?_
    refine ACalls.mono (acalls_pure (E := E0 X) (fun X => pawake_c X) (by simp [IdsLtL, IdsLt]) _) ?_
    rintro r H' ⟨rfl, rfl⟩
    first | refine nx rfl rfl ?_ | refine nx0 ?_
    repeat' (first | ((refine Qa rfl ?_); (refine Q1 ?_); (refine QX rfl rfl ?_)) | refine Qh ?_ | refine Qs ?_)
    refine awp_ret ?_
    exact ⟨_, rfl, rfl⟩
  | true =>
    have hg := (sb_ok hb).gen
    repeat' (first | ((refine Qa rfl ?_); (first | refine Q0 ?_ | refine Q2 rfl ?_ | refine Q3 rfl rfl rfl ?_ | refine Q4 rfl rfl rfl rfl rfl ?_ | refine Q5 rfl ?_ | refine QD rfl ?_); (refine QX rfl rfl ?_)) | refine Qh ?_ | refine Qs ?_)
    refine awp_cond_dec rfl (fun h1 => ?_) (fun h1 => ?_)
    · skip
      repeat' (first | refine Qa rfl ?_ | refine Ql ?_ | refine Qo rfl ?_)
      refine st_call (fun _ => rfl) rfl ?_
      refine ACalls.mono (acalls_pure (E := E0 X) (fun X => pawake_c X) (by simp [IdsLtL, IdsLt]) _) ?_
      rintro r H' ⟨rfl, rfl⟩
      first | refine nx rfl rfl ?_ | refine nx0 ?_
      repeat' (first | ((refine Qa rfl ?_); (refine Q1 ?_); (refine QX rfl rfl ?_)) | refine Qh ?_ | refine Qs ?_)
      refine awp_ret ?_
      exact ⟨_, rfl, rfl⟩
    have hvt := fun X => rsvalid_c X (s.nx t1)
    repeat' (first | ((refine Qa rfl ?_); (first | refine Q2 rfl ?_ | refine Q3 rfl rfl rfl ?_ | refine Q4 rfl rfl rfl rfl rfl ?_); (refine QX rfl rfl ?_)) | refine Qa rfl ?_ | (refine Qb rfl ?_; try (refine QS rfl rfl rfl rfl rfl rfl rfl ?_; (refine QX rfl rfl ?_))) | refine Qh ?_ | refine Ql ?_ | refine Qm ?_ | refine Qo rfl ?_)
    rw [wrap1 hg.1 hg.2]
    refine st_call (fun _ => rfl) rfl ?_
    refine ACalls.mono (acalls_pure (E := E0 X) (fun X => hvt X) (by simp [IdsLtL, IdsLt]) _) ?_
    rintro r H' ⟨rfl, rfl⟩
    first | refine nx rfl rfl ?_ | refine nx0 ?_
    cases hbt : sbB (s.nx t1) with
    | false =>
      repeat' (first | ((refine Qa rfl ?_); (refine QD rfl ?_); (refine QX rfl rfl ?_)) | refine Qa rfl ?_ | refine Qh ?_ | refine Ql ?_ | refine Qo rfl ?_ | refine Qp rfl ?_)
      refine st_call (fun _ => rfl) rfl ?_
      refine ACalls.mono (acalls_pure (E := E0 X) (fun X => pawake_c X) (by simp [IdsLtL, IdsLt]) _) ?_
      rintro r H' ⟨rfl, rfl⟩
      first | refine nx rfl rfl ?_ | refine nx0 ?_
      repeat' (first | ((refine Qa rfl ?_); (refine Q1 ?_); (refine QX rfl rfl ?_)) | refine Qh ?_ | refine Qs ?_)
      refine awp_ret ?_
      exact ⟨_, rfl, rfl⟩
    | true =>
      obtain ⟨v3, b, a1, a2, a3, a4⟩ := torn_plain hb hbt rfl N
      have hp1 : (Dv.fresh lz3).pub s = (0, dv1 s) := lz3_lv.pub (by decide) hb
      have hpb1 := fun L R s1 h => dev_at (fun X => publish_c X (Dv.fresh lz3) lz3_lv.inv.ok s (by omega)) ⟨sbA_ids, trivial⟩ trivial L R s1 h (X := X)
      rw [hp1] at hpb1
      dsimp only at hpb1
      have hfu := fun L R s1 h => fuse_at X (dv1 s) ((1 : Nat) : Int) L R s1 h
      have hpb2 := fun L R s1 h => dev_at (fun X => publish_c X { dv1 s with fuse := max ((1 : Nat) : Int) (-1) } (inv_fuse (dv1_lv s).inv (by decide)).ok (s.nx t1) (by show t1.fo.length ≤ _; omega)) ⟨sbA_ids, trivial⟩ trivial L R s1 h (X := X)
      rw [a1] at hpb2
      dsimp only at hpb2
      have hcr := fun L R s1 h => crash_nt X v3 a2 [⟨0, N⟩] (by simp) L R s1 h
      have hcl := lv_crash a2 [] [⟨0, N⟩]
      rw [a3] at hcl
      have hld := fun L R s1 h => dev_at (fun X => sload_c X (v3.crash [] [⟨0, N⟩]) hcl.inv) trivial (by unfold optS; split <;> exact ⟨sbA_ids, trivial, trivial⟩) L R s1 h (X := X)
      rw [loadD_of hcl (by decide), optS_eq] at hld
      have hbp := best_pair hb a4
      have him := fun L R s1 h => image_at X (v3.crash [] [⟨0, N⟩]) (by rw [hcl.len]; decide) L R s1 h
      have hil := hcl.len
      have hk := secS_lt s
      have hsb := a4 (1 - secS s) (by omega)
      rw [if_neg (by omega)] at hsb
      have htm : (s.gen + 1).tmod 2 = ((1 - secS s : Nat) : Int) := by
        unfold secS
        rw [Int.tmod_eq_emod_of_nonneg (by omega)]; omega
      generalize v3.crash [] [⟨0, N⟩] = c at *
      have hk2 : 1 - secS s < 2 := by omega
      have hbl : b.length = 64 := by rw [← hsb]; simp; omega
      generalize 1 - secS s = k at *
      have hdc := fun X => rsdec_c X b k (by omega) (by omega)
      rw [optS_eq] at hdc
      have hts : (s.nx t1).fo.length ≤ 4 := hft
      have hne : ¬ s.nx t1 = s := fun h => by
        have h2 := congrArg Sb.gen h
        have h3 : s.gen + 1 = s.gen := h2
        omega
      have hs1 := fun X => seq_c X (s.nx t1) (s.nx t1) (by omega)
      have hs2 := fun X => seq_c X s s (by omega)
      have hs3 := fun X => seq_c X (s.nx t1) s (by omega)
      rw [decide_eq_true rfl] at hs1
      rw [decide_eq_true rfl] at hs2
      rw [decide_eq_false hne] at hs3
      repeat' (first | ((refine Qa rfl ?_); (refine QD rfl ?_); (refine QX rfl rfl ?_)) | refine Qa rfl ?_ | refine Qh ?_ | refine Ql ?_ | refine Qm ?_ | refine Qo rfl ?_ | refine Qq rfl ?_)
      refine st_call (fun _ => rfl) rfl ?_
      refine ACalls.mono (new3_at X _) ?_
      rintro r H' ⟨rfl, rfl⟩
      first | refine nx rfl rfl ?_ | refine nx0 ?_
      generalize Dv.fresh lz3 = v0 at *
      repeat' (first | ((refine Qa rfl ?_); (first | refine Q0 ?_ | refine Q1 ?_ | refine Q3 rfl rfl rfl ?_); (refine QX rfl rfl ?_)) | refine Qa rfl ?_ | refine Qh ?_ | refine Ql ?_ | refine Qo rfl ?_)
      refine st_call (fun _ => rfl) rfl ?_
      refine ACalls.mono (hpb1 [_, _] [] 2 rfl) ?_
      rintro r H' ⟨rfl, rfl⟩
      first | refine nx rfl rfl ?_ | refine nx0 ?_
      repeat' (first | ((refine Qa rfl ?_); (first | refine Q0 ?_ | refine Q2 rfl ?_); (refine QX rfl rfl ?_)) | refine Qa rfl ?_ | refine Qh ?_ | refine Ql ?_ | refine Qm ?_ | refine Qo rfl ?_ | refine Qq rfl ?_)
      refine st_call (fun _ => rfl) rfl ?_
      refine ACalls.mono (hfu [_, _] [] 2 rfl) ?_
      rintro r H' rfl
      first | refine nx rfl rfl ?_ | refine nx0 ?_
      repeat' (first | ((refine Qa rfl ?_); (first | refine Q0 ?_ | refine Q3 rfl rfl rfl ?_); (refine QX rfl rfl ?_)) | refine Qa rfl ?_ | refine Qh ?_ | refine Ql ?_ | refine Qo rfl ?_)
      refine st_call (fun _ => rfl) rfl ?_
      refine ACalls.mono (hpb2 [_, _] [] 2 rfl) ?_
      rintro r H' ⟨rfl, rfl⟩
      first | refine nx rfl rfl ?_ | refine nx0 ?_
      repeat' (first | ((refine Qa rfl ?_); (first | refine Q0 ?_ | refine QP rfl rfl rfl rfl rfl rfl ?_ | refine QQ rfl rfl rfl rfl rfl rfl rfl rfl rfl rfl rfl ?_); (refine QX rfl rfl ?_)) | refine Qa rfl ?_ | refine Qh ?_ | refine Ql ?_ | refine Qo rfl ?_)
      refine st_call (fun _ => rfl) rfl ?_
      refine ACalls.mono (hcr [_, _] [] 2 rfl) ?_
      rintro r H' ⟨rfl, rfl⟩
      first | refine nx rfl rfl ?_ | refine nx0 ?_
      repeat' (first | ((refine Qa rfl ?_); (first | refine Q0 ?_ | refine Q1 ?_); (refine QX rfl rfl ?_)) | refine Qa rfl ?_ | refine Qh ?_ | refine Ql ?_ | refine Qo rfl ?_)
      refine st_call (fun _ => rfl) rfl ?_
      refine ACalls.mono (him [_, _, _, _, _] [] 5 rfl) ?_
      rintro r H' ⟨rfl, rfl⟩
      first | refine nx rfl rfl ?_ | refine nx0 ?_
      repeat' (first | ((refine Qa rfl ?_); (first | refine Q0 ?_ | refine Q1 ?_ | refine Q2 rfl ?_ | refine Q7 rfl rfl rfl ?_); (refine QX rfl rfl ?_)) | refine Qh ?_ | refine Ql ?_ | refine Qo rfl ?_ | refine Qs ?_)
      rw [decide_eq_false (show ¬ ((c.image.map u8A).length : Int) ≠ 192 by rw [List.length_map, hil]; decide)]
      repeat' (first | ((refine Qa rfl ?_); (refine Q0 ?_); (refine QX rfl rfl ?_)) | refine Qa rfl ?_ | refine Ql ?_ | refine Qm ?_ | refine Qo rfl ?_ | refine Qq rfl ?_)
      refine st_call (fun _ => rfl) rfl ?_
      refine ACalls.mono (hld [_, _, _, _, _] [] 5 rfl) ?_
      rintro r H' ⟨rfl, rfl⟩
      first | refine nx rfl rfl ?_ | refine nx0 ?_
      repeat' (first | ((refine Qa rfl ?_); (first | refine Q0 ?_ | refine Q1 ?_ | refine Q2 rfl ?_ | refine Q3 rfl rfl rfl ?_ | refine Q4 rfl rfl rfl rfl rfl ?_ | refine QB rfl rfl (by decide) ?_ | refine QC rfl rfl ?_ | refine QJ rfl rfl ?_); (refine QX rfl rfl ?_)) | refine Qa rfl ?_ | (refine Qb rfl ?_; try (refine QS rfl rfl rfl rfl rfl rfl rfl ?_; (refine QX rfl rfl ?_))) | refine Qh ?_ | refine Ql ?_ | refine Qo rfl ?_)
      rw [htm]
      refine st_sls (l := k * 64) (h := k * 64 + 64) (ys := b) (bnd_some rfl (wq64 hk2)) (bnd_some rfl (wq64a hk2)) (by omega) (by omega) (by rw [← hsb, List.drop_take]; congr 1; omega) rfl rfl rfl rfl rfl ?_
      first | refine nx rfl rfl ?_ | refine nx0 ?_
      repeat' (first | ((refine Qa rfl ?_); (refine Q0 ?_); (refine QX rfl rfl ?_)) | refine Qa rfl ?_)
      refine st_call (fun _ => rfl) rfl ?_
      refine ACalls.mono (acalls_pure (E := E0 X) (fun X => hdc X) (by simp [IdsLtL, IdsLt]) _) ?_
      rintro r H' ⟨rfl, rfl⟩
      first | refine nx rfl rfl ?_ | refine nx0 ?_
      cases hd : decS b k with
      | none =>
        have hbs := hbp.1 hd
        rw [hbs]
        repeat' (first | ((refine Qa rfl ?_); (first | refine Q0 ?_ | refine Q1 ?_ | refine Q5 rfl ?_ | refine QC rfl rfl ?_ | refine QJ rfl rfl ?_); (refine QX rfl rfl ?_)) | refine Qa rfl ?_ | (refine Qb rfl ?_; try (refine QS rfl rfl rfl rfl rfl rfl rfl ?_; (refine QX rfl rfl ?_))) | refine Qh ?_ | refine Qi rfl ?_ | refine Ql ?_ | refine Qm ?_ | refine Qo rfl ?_ | refine Qq rfl ?_)
        refine st_call (fun _ => rfl) rfl ?_
        refine ACalls.mono (acalls_pure (E := E0 X) (fun X => pawake_c X) (by simp [IdsLtL, IdsLt]) _) ?_
        rintro r H' ⟨rfl, rfl⟩
        first | refine nx rfl rfl ?_ | refine nx0 ?_
        repeat' (first | ((refine Qa rfl ?_); (first | refine Q0 ?_ | refine Q3 rfl rfl rfl ?_ | refine Q5 rfl ?_); (refine QX rfl rfl ?_)) | refine Qa rfl ?_)
        refine st_call (fun _ => rfl) rfl ?_
        refine ACalls.mono (acalls_pure (E := E0 X) (fun X => hs2 X) (by simp [IdsLtL, IdsLt]) _) ?_
        rintro r H' ⟨rfl, rfl⟩
        first | refine nx rfl rfl ?_ | refine nx0 ?_
        repeat' (first | ((refine Qa rfl ?_); (first | refine Q0 ?_ | refine Q1 ?_ | refine Q5 rfl ?_); (refine QX rfl rfl ?_)) | refine Qh ?_ | refine Qi rfl ?_ | refine Qs ?_)
        refine awp_ret ?_
        exact ⟨_, rfl, rfl⟩
      | some y =>
        have hyl := (sb_ok (decS_valid hd).1).len
        repeat' (first | ((refine Qa rfl ?_); (first | refine Q0 ?_ | refine Q1 ?_ | refine Q3 rfl rfl rfl ?_ | refine QC rfl rfl ?_ | refine QJ rfl rfl ?_); (refine QX rfl rfl ?_)) | refine Qa rfl ?_ | (refine Qb rfl ?_; try (refine QS rfl rfl rfl rfl rfl rfl rfl ?_; (refine QX rfl rfl ?_))) | refine Qh ?_ | refine Ql ?_ | refine Qo rfl ?_)
        by_cases hyt : y = s.nx t1
        · subst hyt
          have hbs := hbp.2 _ hd rfl
          rw [hbs]
          refine st_call (fun _ => rfl) rfl ?_
          refine ACalls.mono (acalls_pure (E := E0 X) (fun X => hs1 X) (by simp [IdsLtL, IdsLt]) _) ?_
          rintro r H' ⟨rfl, rfl⟩
          first | refine nx rfl rfl ?_ | refine nx0 ?_
          repeat' (first | ((refine Qa rfl ?_); (first | refine Q5 rfl ?_ | refine QD rfl ?_); (refine QX rfl rfl ?_)) | refine Qa rfl ?_ | refine Qh ?_ | refine Ql ?_ | refine Qm ?_ | refine Qo rfl ?_ | refine Qq rfl ?_)
          refine st_call (fun _ => rfl) rfl ?_
          refine ACalls.mono (acalls_pure (E := E0 X) (fun X => pawake_c X) (by simp [IdsLtL, IdsLt]) _) ?_
          rintro r H' ⟨rfl, rfl⟩
          first | refine nx rfl rfl ?_ | refine nx0 ?_
          repeat' (first | ((refine Qa rfl ?_); (first | refine Q0 ?_ | refine Q3 rfl rfl rfl ?_ | refine Q5 rfl ?_); (refine QX rfl rfl ?_)) | refine Qa rfl ?_)
          refine st_call (fun _ => rfl) rfl ?_
          refine ACalls.mono (acalls_pure (E := E0 X) (fun X => hs3 X) (by simp [IdsLtL, IdsLt]) _) ?_
          rintro r H' ⟨rfl, rfl⟩
          first | refine nx rfl rfl ?_ | refine nx0 ?_
          repeat' (first | ((refine Qa rfl ?_); (first | refine Q0 ?_ | refine Q3 rfl rfl rfl ?_); (refine QX rfl rfl ?_)) | refine Qa rfl ?_)
          refine st_call (fun _ => rfl) rfl ?_
          refine ACalls.mono (acalls_pure (E := E0 X) (fun X => hs1 X) (by simp [IdsLtL, IdsLt]) _) ?_
          rintro r H' ⟨rfl, rfl⟩
          first | refine nx rfl rfl ?_ | refine nx0 ?_
          repeat' (first | ((refine Qa rfl ?_); (first | refine Q1 ?_ | refine Q5 rfl ?_); (refine QX rfl rfl ?_)) | refine Qh ?_ | refine Qs ?_)
          refine awp_ret ?_
          exact ⟨_, rfl, rfl⟩
        · have hs4 := fun X => seq_c X y (s.nx t1) (by omega)
          rw [decide_eq_false hyt] at hs4
          refine st_call (fun _ => rfl) rfl ?_
          refine ACalls.mono (acalls_pure (E := E0 X) (fun X => hs4 X) (by simp [IdsLtL, IdsLt]) _) ?_
          rintro r H' ⟨rfl, rfl⟩
          first | refine nx rfl rfl ?_ | refine nx0 ?_
          repeat' (first | ((refine Qa rfl ?_); (first | refine Q5 rfl ?_ | refine QD rfl ?_); (refine QX rfl rfl ?_)) | refine Qa rfl ?_ | refine Qh ?_ | refine Ql ?_ | refine Qo rfl ?_ | refine Qp rfl ?_)
          refine st_call (fun _ => rfl) rfl ?_
          refine ACalls.mono (acalls_pure (E := E0 X) (fun X => pawake_c X) (by simp [IdsLtL, IdsLt]) _) ?_
          rintro r H' ⟨rfl, rfl⟩
          first | refine nx rfl rfl ?_ | refine nx0 ?_
          repeat' (first | ((refine Qa rfl ?_); (refine Q1 ?_); (refine QX rfl rfl ?_)) | refine Qh ?_ | refine Qs ?_)
          refine awp_ret ?_
          exact ⟨_, rfl, rfl⟩
end Go.Abs
namespace Go.Abs
def twoL (p : Sb × Sb × Int × Bool) : List AV := sbL p.1 ++ (sbL p.2.1 ++ [.int .i64 p.2.2.1, .bool p.2.2.2])
theorem two_of {X : Nat → Prop} {xs : List AV} (h : hasC (E0 X) 5 97 xs) : ∃ p, xs = twoL p ∧ True := by
  have h1 : hasF (E0 X) (hasC (E0 X) 4) [(0, 50), (14, 50), (28, 3), (29, 4)] xs := h
  obtain ⟨a, _, rfl, ha, b, _, rfl, hb, _, _, rfl, ⟨n, rfl, _⟩, _, _, rfl, ⟨c, rfl⟩, rfl⟩ := h1
  obtain ⟨s, rfl, _⟩ := super_of ha
  obtain ⟨t, rfl, _⟩ := super_of hb
  exact ⟨(s, t, n, c), rfl, trivial⟩
end Go.Abs
namespace Go.Proofs.YtlndakkehobnpaaDoor
open Go.Abs Go.RowKit Go.ChangeShapes Go.WideShapes
set_option maxRecDepth 100000 in
theorem pairTornLifted (os : Os) (started : os.Started) (H : Type) (enc : TypeId × Value → H) :
    ReturnsInHanded {} Tryd.checked os 14 .any (fun w args => (Rows.pairTornSpec.pre enc Tryd.prog Tryd.f14 [] false w args ∧ laidMetH Tryd.prog [("flashcache/crc.table", Rows.laid_flashcache_crc_table)] w) ∧ sizedMet enc Tryd.prog Tryd.f14 (OpenSpec.ofChange Rows.pairTornSpec) false w args)
      (Rows.pairTornSpec.post enc Tryd.prog Tryd.f14 false Rows.pairTornRow.fresh Rows.pairTornRow.handsOn Rows.pairTornRow.again) := by
  refine returnsInHanded_of_change_and (C := Tryd.checked) (X := fun w _ => laidMetH Tryd.prog [("flashcache/crc.table", Rows.laid_flashcache_crc_table)] w) (fun _ _ _ hh h => h.of_heap hh) own0 started (by kernel_rfl) Tryd.func14
    (ChangeSpec.witness_shaped (enc := enc) (C := Tryd.checked) (os := os) (X := fun w _ => laidMetH Tryd.prog [("flashcache/crc.table", Rows.laid_flashcache_crc_table)] w) false (World.doorLaid Tryd.prog 400 os) #[.agg #[.int .i64 0, .int .i64 0, .int .i64 0, .int .i64 0, .int .i64 0, .int .i64 0, .int .i64 0, .int .i64 0, .int .i64 0, .int .i64 0, .int .i64 0, .int .i64 0, .int .i64 0, .slice none 0 0], .agg #[.int .i64 0, .int .i64 0, .int .i64 0, .int .i64 0, .int .i64 0, .int .i64 0, .int .i64 0, .int .i64 0, .int .i64 0, .int .i64 0, .int .i64 0, .int .i64 0, .int .i64 0, .slice none 0 0], .int .i64 0] 8 rfl (World.shaped_of_RefB (by kernel_rfl) (by kernel_rfl)) (by kernel_rfl) (by kernel_rfl) (by kernel_rfl) (door_met os _)) ?_
  intro W base args ds gs before hval0 hW _ _ hL _
  have hval : ∀ (j : Nat) t v, Tryd.f14.params[j]? = some t → args[j]? = some v → Value.okWide Tryd.prog W .any base t v := hval0
  have hW2 := hW
  obtain ⟨p, q, hA0, hV, _, _, _⟩ := hW2
  have hA : DataW.TrodAll enc Tryd.prog W 0 (fun _ => true) true [50, 50, 3] args.toList ds p := hA0
  obtain ⟨rfl, rfl⟩ := trodVars_none hV
  obtain ⟨v0, v1, v2, d0, d1, d2, p0, p1, p2, rfl, rfl, rfl, t0, t1, t2⟩ := trodAll_three hA
  obtain ⟨x0, r0, c0⟩ := arg_avS (E := E0 fun _ => False) (E0_ok _) (fun _ h => h) (f := 4) rfl rfl (hval 0 50 v0 rfl rfl) t0
  obtain ⟨x1, r1, c1⟩ := arg_avS (E := E0 fun _ => False) (E0_ok _) (fun _ h => h) (f := 4) rfl rfl (hval 1 50 v1 rfl rfl) t1
  obtain ⟨x2, r2, c2⟩ := arg_av (E := E0 fun _ => False) (E0_ok _) (fun _ h => h) (f := 1) rfl rfl (hval 2 3 v2 rfl rfl) t2
  obtain ⟨l0, rfl, h0⟩ := super_of c0
  obtain ⟨l1, rfl, h1⟩ := super_of c1
  obtain ⟨l2, rfl, g2, h2⟩ := int_of c2
  exact law_trueG (E := E0 fun _ => False) (avs := [sbA l0, sbA l1, .int .i64 l2]) (tb := 4) (E0_ok _) (glob_of_laid hL) (by kernel_rfl) rfl (by kernel_rfl) (by kernel_rfl) (by kernel_rfl) rfl rfl rfl hW (fun _ h => h)
    (RelL.cons r0 (RelL.cons r1 (RelL.cons r2 (by simp [Abs.RelL])))) (pairTorn_c _ l0 l1 l2)
theorem pairTorn_holds : Rows.PairTornSaid :=
  OpenClaim.holds_of_wide 14 Tryd.f14 rfl rfl rfl rfl rfl rfl rfl ⟨rfl, rfl, rfl, rfl, rfl⟩ rfl rfl rfl rfl rfl (by kernel_rfl) Tryd.func14 (by kernel_rfl)
    (of_decide_eq_true (by kernel_rfl)) (by unfold Func.isWrapper; rw [if_neg (of_decide_eq_false (by kernel_rfl))]; exact ⟨rfl, rfl⟩)
    (fun os started H enc _ => pairTornLifted os started H enc)
theorem pairTorn_card : Rows.PairTornCardSaid :=
  Claim7.holds_tied_plain_at .later [] [.data] true (true, "ef1fa8f3014c6e3fe2b1907d4f734f2c932dc2d5fe76d3eb980f0835b0714608") false
    pairTorn_holds (fun _ h => by cases h) (by kernel_rfl) (fun _ h => by cases h) pairTorn_row_tie rfl ⟨rfl, rfl⟩ (by kernel_rfl) rfl
    (fun f fn hf hfn => by
      obtain rfl : f = 14 := Option.some.inj ((show Tryd.prog.funcNamed "flashcache/flashcachelaw09.PairTorn" = some 14 by kernel_rfl).symm.trans hf) |>.symm
      obtain rfl : fn = Tryd.f14 := (Option.some.inj (Tryd.func14.symm.trans hfn)).symm
      exact ⟨by kernel_rfl, fun j t ht => by
        have ht : (#[50, 50, 3] : Array TypeId)[j]? = some t := ht
        have hm : t ∈ [50, 50, 3] := by simpa using Array.mem_of_getElem? ht
        have hall : ([50, 50, 3].all fun u => !Tryd.prog.wantsStandIn u) = true := by kernel_rfl
        exact (show Tryd.prog.wantsStandIn t = false by simpa using List.all_eq_true.1 hall t hm)⟩)
    (by kernel_rfl)
end Go.Proofs.YtlndakkehobnpaaDoor
