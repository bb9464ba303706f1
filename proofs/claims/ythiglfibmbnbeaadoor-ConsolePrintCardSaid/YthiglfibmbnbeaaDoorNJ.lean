/- The reference: Print. Printed by gen_rprint.py. Joined texts, each with what its own name promises; no condition beyond those stated. -/
import Derived.Test.YthiglfibmbnbeaaDoorNI
import Derived.Test.YthiglfibmbnbeaaDoorRows
import Derived.Test.YthiglfibmbnbeaaDoorTie
import Derived.Test.YthiglfibmbnbeaaDoorCards
import Derived.ProofKit
import Derived.LaidMore
import Derived.OpenShut
import Derived.Stop.Joined
import Derived.SevenTiedAt
import Derived.Lib.LaidTab
import Derived.Lay
namespace Go.Abs
attribute [local irreducible] AStep aops AWp Nx awM APanic
def tearR (t : Tr) : List UInt8 := [32] ++ numW t.k ++ [58] ++ numW t.n
def keepR (l : List Bool) : List UInt8 := l.map bitC ++ (if l = [] then [45] else [])
/-- The line that the reference writes. -/
def lineR (o : Opv) : List UInt8 :=
  if o.kind = 1 then [103, 101, 116, 32] ++ txtW o.key
  else if o.kind = 2 then [115, 101, 116, 32] ++ txtW o.key ++ [32] ++ txtW o.val ++ [32] ++ numW o.n
  else if o.kind = 3 then [100, 101, 108, 101, 116, 101, 32] ++ txtW o.key
  else if o.kind = 4 then [102, 108, 117, 115, 104]
  else if o.kind = 5 then [115, 121, 110, 99]
  else if o.kind = 8 then [117, 112, 103, 114, 97, 100, 101]
  else if o.kind = 9 then [115, 116, 101, 112]
  else if o.kind = 10 then [97, 98, 111, 114, 116]
  else if o.kind = 6 then [116, 105, 99, 107, 32] ++ numW o.n
  else if o.kind = 11 then [102, 117, 115, 101, 32] ++ numW o.n
  else if o.kind = 7 then [114, 101, 115, 105, 122, 101, 32] ++ numW o.a ++ [32] ++ numW o.b
  else if o.kind = 12 then [99, 114, 97, 115, 104, 32] ++ keepR o.keep ++ o.tears.flatMap tearR
  else []
theorem numW_len (n : Int) : (numW n).length ≤ 6 := by
  unfold numW
  split
  · exact dec_long _ (by omega)
  · simp
theorem tearR_len (t : Tr) : (tearR t).length ≤ 14 := by
  have h1 := numW_len t.k
  have h2 := numW_len t.n
  unfold tearR
  simp; omega
theorem tearsR_len : ∀ l : List Tr, (l.flatMap tearR).length ≤ 14 * l.length
  | [] => by simp
  | t :: l => by
    have h1 := tearR_len t
    have h2 := tearsR_len l
    rw [List.flatMap_cons, List.length_append, List.length_cons]
    omega
theorem tearR_take {l : List Tr} {i : Nat} {t : Tr} (h : l[i]? = some t) : (l.take (i + 1)).flatMap tearR = (l.take i).flatMap tearR ++ tearR t := by
  rw [List.take_add_one, h]
  simp
structure OpS (o : Opv) : Prop where
  key : o.key.length ≤ 600
  val : o.val.length ≤ 600
  keep : o.keep.length ≤ 1000
  tears : o.tears.length ≤ 399
theorem lineR_len {o : Opv} (ho : OpS o) : (lineR o).length ≤ 100000 := by
  have h1 := ho.key
  have h2 := ho.val
  have h3 := ho.keep
  have h4 := ho.tears
  have h5 := txtW_len o.key
  have h6 := txtW_len o.val
  have h7 := numW_len o.n
  have h8 := numW_len o.a
  have h9 := numW_len o.b
  have h10 := tearsR_len o.tears
  have h11 : (keepR o.keep).length ≤ o.keep.length + 1 := by
    unfold keepR
    rw [List.length_append, List.length_map]
    split <;> simp
  have key : ∀ (p : Prop) [Decidable p] (x y : List UInt8), x.length ≤ 100000 → y.length ≤ 100000 → (if p then x else y).length ≤ 100000 := fun p _ x y hx hy => by
    split
    · exact hx
    · exact hy
  unfold lineR
  iterate 12 (refine key _ _ _ ?_ ?_; rotate_left)
  all_goals simp [-List.length_flatMap]
  all_goals omega
theorem cmdP_kv {w : List UInt8} {l : List (List UInt8)} {o : Opv} (K : Nat) (h : cmdP w l = some o) (hs : ∀ s ∈ l, s.length ≤ K) : o.key.length ≤ K ∧ o.val.length ≤ K := by
  have ht : ∀ (j : Nat) k, j < l.length → textP (l.getD j []) = some k → k.length ≤ K := fun j k hj h1 => by
    have h2 := hs (l.getD j []) (by rw [List.getD_eq_getElem?_getD, List.getElem?_eq_getElem hj]; exact List.getElem_mem hj)
    unfold textP at h1
    split at h1
    · cases h1; simp
    · split at h1
      · cases h1
      · have := pairs_len _ _ h1
        omega
  unfold cmdP at h
  split at h
  · cases h; exact ⟨Nat.zero_le _, Nat.zero_le _⟩
  split at h
  · rename_i h1
    simp only [Option.map_eq_some_iff] at h
    obtain ⟨k, h2, rfl⟩ := h
    exact ⟨ht 0 k (by omega) h2, Nat.zero_le _⟩
  split at h
  · rename_i h1
    simp only [Option.map_eq_some_iff] at h
    obtain ⟨k, h2, rfl⟩ := h
    exact ⟨ht 0 k (by omega) h2, Nat.zero_le _⟩
  split at h
  · rename_i h1
    split at h
    · rename_i k v n e1 e2 e3
      cases h
      exact ⟨ht 0 k (by omega) e1, ht 1 v (by omega) e2⟩
    · cases h
  split at h
  · simp only [Option.map_eq_some_iff] at h
    obtain ⟨k, h2, rfl⟩ := h
    exact ⟨Nat.zero_le _, Nat.zero_le _⟩
  split at h
  · simp only [Option.map_eq_some_iff] at h
    obtain ⟨k, h2, rfl⟩ := h
    exact ⟨Nat.zero_le _, Nat.zero_le _⟩
  split at h
  · split at h
    · cases h; exact ⟨Nat.zero_le _, Nat.zero_le _⟩
    · cases h
  split at h
  · split at h
    · cases h; exact ⟨Nat.zero_le _, Nat.zero_le _⟩
    · cases h
  cases h
theorem parseP_kv {s : List UInt8} {o : Opv} (h : parseP s = some o) : o.key.length ≤ 1000 ∧ o.val.length ≤ 1000 := by
  unfold parseP at h
  split at h
  · cases h
  · have hb := words_bytes 32 s
    split at h
    · rename_i w l hw
      rw [hw] at hb
      refine cmdP_kv 1000 h fun x hx => ?_
      have := hb x (List.mem_cons_of_mem _ hx)
      omega
    · cases h
noncomputable def printR (o : Opv) : Option (List UInt8) := if parseP (lineR o) = some o then some (lineR o) else none
theorem hok_op (o : Opv) : HOk 1 [some (.cells (opC o) 26)] := fun j a ha => by
  match j, ha with
  | 0, ha => cases ha; exact opC_ids _
set_option maxHeartbeats 0 in
set_option maxRecDepth 100000 in
theorem rprint_c (X : Nat → Prop) (o : Opv) (ho : OpS o) : ACalls (E0 X) 13 [opS o] [] (fun r H' => r = resS (printR o) ∧ H' = []) := by
  refine ACalls.cut0 ?_ (resS_ids _)
  have hll := lineR_len ho
  have hk1 := ho.key
  have hk2 := ho.val
  have hk3 := ho.keep
  have hk4 := ho.tears
  have hk5 := txtW_len o.key
  have hk6 := txtW_len o.val
  refine acalls_of Proofs.Tryd.func13 rfl Proofs.Tryd.ntmps13 (by kernel_rfl) rfl ?_
  intro hH hargs
  clear hH hargs
  repeat' (first | ((refine Qa rfl ?_); (first | refine Q1 ?_ | refine Q3 rfl rfl rfl ?_ | refine Q4 rfl rfl rfl rfl rfl ?_ | refine QK rfl ?_); (refine QX rfl rfl ?_)) | refine Qh ?_ | refine Ql ?_ | refine Qo rfl ?_ | refine Qs ?_)
  refine awp_mid (s1 := ⟨[(1, .ptr 0 0), (4, .str (lineR o))], [some (.cells (opC o) 26)]⟩) ?_ ?_
  · refine Qn ?_
    repeat' (first | ((refine Qa rfl ?_); (first | refine Q1 ?_ | refine Q2 rfl ?_); (refine QX rfl rfl ?_)) | refine Qh ?_ | refine Ql ?_ | refine Qo rfl ?_ | refine Qs ?_)
    refine awp_cond_dec rfl (fun k1 => ?_) (fun k1 => ?_)
    · repeat' (first | ((refine Qa rfl ?_); (first | refine Q3 rfl rfl rfl ?_ | refine Q4 rfl rfl rfl rfl rfl ?_); (refine QX rfl rfl ?_)) | refine Qa rfl ?_ | refine Qo rfl ?_)
      refine st_call (fun _ => rfl) rfl ?_
      refine ACalls.mono (acalls_pure (E := E0 X) (fun X => rtext_c X o.key ho.key) ⟨u8_ids' _, trivial⟩ _) ?_
      rintro r H' ⟨rfl, rfl⟩
      first | refine nx rfl rfl ?_ | refine nx0 ?_
      repeat' (refine Qa rfl ?_)
      refine st_sadd rfl rfl (by simp; omega) ?_
      first | refine nx rfl rfl ?_ | refine nx0 ?_
      repeat' (first | ((refine Qa rfl ?_); (refine Q1 ?_); (refine QX rfl rfl ?_)) | refine Qh ?_ | refine Qu ?_)
      refine ⟨rfl, imp_cutk 1 (Nat.zero_le _) (hok_op o) rfl (by simp) (fa_cons ⟨rfl, Nat.zero_lt_one⟩ (fa_cons ⟨?_, trivial⟩ fa_nil))⟩
      refine congrArg AV.str ?_
      rw [lineR, if_pos k1]
    repeat' (first | ((refine Qa rfl ?_); (first | refine Q1 ?_ | refine Q2 rfl ?_); (refine QX rfl rfl ?_)) | refine Qh ?_ | refine Ql ?_ | refine Qo rfl ?_ | refine Qs ?_)
    refine awp_cond_dec rfl (fun k2 => ?_) (fun k2 => ?_)
    · have hn := numW_len o.n
      skip
      refine awp_region_auto2 [] [] (by exact rfl) (by kernel_rfl) ?_
      repeat' ((apply Qd rfl rfl rfl rfl); (first | refine Q3 rfl rfl rfl ?_ | refine Q4 rfl rfl rfl rfl rfl ?_); (exact QX rfl rfl ⟨rfl, rfl⟩))
      apply ds rfl rfl rfl rfl
      · refine st_call (fun _ => rfl) rfl ?_
        refine ACalls.mono (acalls_pure (E := E0 X) (fun X => rtext_c X o.key ho.key) ⟨u8_ids' _, trivial⟩ _) ?_
        rintro r H' ⟨rfl, rfl⟩
        first
        | exact nx rfl rfl ⟨rfl, rfl⟩
        | exact nx0 ⟨rfl, rfl⟩
      apply ds rfl rfl rfl rfl
      · refine st_sadd rfl rfl (by simp; omega) ?_
        first | exact nx rfl rfl ⟨rfl, rfl⟩ | exact nx0 ⟨rfl, rfl⟩
      apply ds rfl rfl rfl rfl
      · refine st_sadd rfl rfl (by simp; omega) ?_
        first | exact nx rfl rfl ⟨rfl, rfl⟩ | exact nx0 ⟨rfl, rfl⟩
      repeat' ((apply Qd rfl rfl rfl rfl); (first | refine Q3 rfl rfl rfl ?_ | refine Q4 rfl rfl rfl rfl rfl ?_); (exact QX rfl rfl ⟨rfl, rfl⟩))
      apply ds rfl rfl rfl rfl
      · refine st_call (fun _ => rfl) rfl ?_
        refine ACalls.mono (acalls_pure (E := E0 X) (fun X => rtext_c X o.val ho.val) ⟨u8_ids' _, trivial⟩ _) ?_
        rintro r H' ⟨rfl, rfl⟩
        first
        | exact nx rfl rfl ⟨rfl, rfl⟩
        | exact nx0 ⟨rfl, rfl⟩
      apply ds rfl rfl rfl rfl
      · refine st_sadd rfl rfl (by simp; omega) ?_
        first | exact nx rfl rfl ⟨rfl, rfl⟩ | exact nx0 ⟨rfl, rfl⟩
      apply ds rfl rfl rfl rfl
      · refine st_sadd rfl rfl (by simp; omega) ?_
        first | exact nx rfl rfl ⟨rfl, rfl⟩ | exact nx0 ⟨rfl, rfl⟩
      repeat' ((apply Qd rfl rfl rfl rfl); (first | refine Q3 rfl rfl rfl ?_ | refine Q4 rfl rfl rfl rfl rfl ?_); (exact QX rfl rfl ⟨rfl, rfl⟩))
      apply ds rfl rfl rfl rfl
      · refine st_call (fun _ => rfl) rfl ?_
        refine ACalls.mono (acalls_pure (E := E0 X) (fun X => rtnum_c X o.n) (by simp [IdsLtL, IdsLt]) _) ?_
        rintro r H' ⟨rfl, rfl⟩
        first
        | exact nx rfl rfl ⟨rfl, rfl⟩
        | exact nx0 ⟨rfl, rfl⟩
      apply ds rfl rfl rfl rfl
      · refine st_sadd rfl rfl (by simp; omega) ?_
        first | exact nx rfl rfl ⟨rfl, rfl⟩ | exact nx0 ⟨rfl, rfl⟩
      repeat' (first | ((apply Qd rfl rfl rfl rfl); (refine Q1 ?_); (exact QX rfl rfl ⟨rfl, rfl⟩)) | refine Qk ?_ | refine Qu ?_)
      refine ⟨rfl, imp_cutk 1 (Nat.zero_le _) (hok_op o) rfl (by simp) (fa_cons ⟨rfl, Nat.zero_lt_one⟩ (fa_cons ⟨?_, trivial⟩ fa_nil))⟩
      refine congrArg AV.str ?_
      rw [lineR, if_neg k1, if_pos k2]
    repeat' (first | ((refine Qa rfl ?_); (first | refine Q1 ?_ | refine Q2 rfl ?_); (refine QX rfl rfl ?_)) | refine Qh ?_ | refine Ql ?_ | refine Qo rfl ?_ | refine Qs ?_)
    refine awp_cond_dec rfl (fun k3 => ?_) (fun k3 => ?_)
    · repeat' (first | ((refine Qa rfl ?_); (first | refine Q3 rfl rfl rfl ?_ | refine Q4 rfl rfl rfl rfl rfl ?_); (refine QX rfl rfl ?_)) | refine Qa rfl ?_ | refine Qo rfl ?_)
      refine st_call (fun _ => rfl) rfl ?_
      refine ACalls.mono (acalls_pure (E := E0 X) (fun X => rtext_c X o.key ho.key) ⟨u8_ids' _, trivial⟩ _) ?_
      rintro r H' ⟨rfl, rfl⟩
      first | refine nx rfl rfl ?_ | refine nx0 ?_
      repeat' (refine Qa rfl ?_)
      refine st_sadd rfl rfl (by simp; omega) ?_
      first | refine nx rfl rfl ?_ | refine nx0 ?_
      repeat' (first | ((refine Qa rfl ?_); (refine Q1 ?_); (refine QX rfl rfl ?_)) | refine Qh ?_ | refine Qu ?_)
      refine ⟨rfl, imp_cutk 1 (Nat.zero_le _) (hok_op o) rfl (by simp) (fa_cons ⟨rfl, Nat.zero_lt_one⟩ (fa_cons ⟨?_, trivial⟩ fa_nil))⟩
      refine congrArg AV.str ?_
      rw [lineR, if_neg k1, if_neg k2, if_pos k3]
    repeat' (first | ((refine Qa rfl ?_); (first | refine Q1 ?_ | refine Q2 rfl ?_); (refine QX rfl rfl ?_)) | refine Qh ?_ | refine Ql ?_ | refine Qo rfl ?_ | refine Qs ?_)
    refine awp_cond_dec rfl (fun k4 => ?_) (fun k4 => ?_)
    · repeat' (first | ((refine Qa rfl ?_); (refine Q1 ?_); (refine QX rfl rfl ?_)) | refine Qh ?_ | refine Qo rfl ?_ | refine Qu ?_)
      refine ⟨rfl, imp_cutk 1 (Nat.zero_le _) (hok_op o) rfl (by simp) (fa_cons ⟨rfl, Nat.zero_lt_one⟩ (fa_cons ⟨?_, trivial⟩ fa_nil))⟩
      refine congrArg AV.str ?_
      rw [lineR, if_neg k1, if_neg k2, if_neg k3, if_pos k4]
    repeat' (first | ((refine Qa rfl ?_); (first | refine Q1 ?_ | refine Q2 rfl ?_); (refine QX rfl rfl ?_)) | refine Qh ?_ | refine Ql ?_ | refine Qo rfl ?_ | refine Qs ?_)
    refine awp_cond_dec rfl (fun k5 => ?_) (fun k5 => ?_)
    · repeat' (first | ((refine Qa rfl ?_); (refine Q1 ?_); (refine QX rfl rfl ?_)) | refine Qh ?_ | refine Qo rfl ?_ | refine Qu ?_)
      refine ⟨rfl, imp_cutk 1 (Nat.zero_le _) (hok_op o) rfl (by simp) (fa_cons ⟨rfl, Nat.zero_lt_one⟩ (fa_cons ⟨?_, trivial⟩ fa_nil))⟩
      refine congrArg AV.str ?_
      rw [lineR, if_neg k1, if_neg k2, if_neg k3, if_neg k4, if_pos k5]
    repeat' (first | ((refine Qa rfl ?_); (first | refine Q1 ?_ | refine Q2 rfl ?_); (refine QX rfl rfl ?_)) | refine Qh ?_ | refine Ql ?_ | refine Qo rfl ?_ | refine Qs ?_)
    refine awp_cond_dec rfl (fun k8 => ?_) (fun k8 => ?_)
    · repeat' (first | ((refine Qa rfl ?_); (refine Q1 ?_); (refine QX rfl rfl ?_)) | refine Qh ?_ | refine Qo rfl ?_ | refine Qu ?_)
      refine ⟨rfl, imp_cutk 1 (Nat.zero_le _) (hok_op o) rfl (by simp) (fa_cons ⟨rfl, Nat.zero_lt_one⟩ (fa_cons ⟨?_, trivial⟩ fa_nil))⟩
      refine congrArg AV.str ?_
      rw [lineR, if_neg k1, if_neg k2, if_neg k3, if_neg k4, if_neg k5, if_pos k8]
    repeat' (first | ((refine Qa rfl ?_); (first | refine Q1 ?_ | refine Q2 rfl ?_); (refine QX rfl rfl ?_)) | refine Qh ?_ | refine Ql ?_ | refine Qo rfl ?_ | refine Qs ?_)
    refine awp_cond_dec rfl (fun k9 => ?_) (fun k9 => ?_)
    · repeat' (first | ((refine Qa rfl ?_); (refine Q1 ?_); (refine QX rfl rfl ?_)) | refine Qh ?_ | refine Qo rfl ?_ | refine Qu ?_)
      refine ⟨rfl, imp_cutk 1 (Nat.zero_le _) (hok_op o) rfl (by simp) (fa_cons ⟨rfl, Nat.zero_lt_one⟩ (fa_cons ⟨?_, trivial⟩ fa_nil))⟩
      refine congrArg AV.str ?_
      rw [lineR, if_neg k1, if_neg k2, if_neg k3, if_neg k4, if_neg k5, if_neg k8, if_pos k9]
    repeat' (first | ((refine Qa rfl ?_); (first | refine Q1 ?_ | refine Q2 rfl ?_); (refine QX rfl rfl ?_)) | refine Qh ?_ | refine Ql ?_ | refine Qo rfl ?_ | refine Qs ?_)
    refine awp_cond_dec rfl (fun k10 => ?_) (fun k10 => ?_)
    · repeat' (first | ((refine Qa rfl ?_); (refine Q1 ?_); (refine QX rfl rfl ?_)) | refine Qh ?_ | refine Qo rfl ?_ | refine Qu ?_)
      refine ⟨rfl, imp_cutk 1 (Nat.zero_le _) (hok_op o) rfl (by simp) (fa_cons ⟨rfl, Nat.zero_lt_one⟩ (fa_cons ⟨?_, trivial⟩ fa_nil))⟩
      refine congrArg AV.str ?_
      rw [lineR, if_neg k1, if_neg k2, if_neg k3, if_neg k4, if_neg k5, if_neg k8, if_neg k9, if_pos k10]
    repeat' (first | ((refine Qa rfl ?_); (first | refine Q1 ?_ | refine Q2 rfl ?_); (refine QX rfl rfl ?_)) | refine Qh ?_ | refine Ql ?_ | refine Qo rfl ?_ | refine Qs ?_)
    refine awp_cond_dec rfl (fun k6 => ?_) (fun k6 => ?_)
    · have hn := numW_len o.n
      repeat' (first | ((refine Qa rfl ?_); (first | refine Q3 rfl rfl rfl ?_ | refine Q4 rfl rfl rfl rfl rfl ?_); (refine QX rfl rfl ?_)) | refine Qa rfl ?_ | refine Qo rfl ?_)
      refine st_call (fun _ => rfl) rfl ?_
      refine ACalls.mono (acalls_pure (E := E0 X) (fun X => rtnum_c X o.n) (by simp [IdsLtL, IdsLt]) _) ?_
      rintro r H' ⟨rfl, rfl⟩
      first | refine nx rfl rfl ?_ | refine nx0 ?_
      repeat' (refine Qa rfl ?_)
      refine st_sadd rfl rfl (by simp; omega) ?_
      first | refine nx rfl rfl ?_ | refine nx0 ?_
      repeat' (first | ((refine Qa rfl ?_); (refine Q1 ?_); (refine QX rfl rfl ?_)) | refine Qh ?_ | refine Qu ?_)
      refine ⟨rfl, imp_cutk 1 (Nat.zero_le _) (hok_op o) rfl (by simp) (fa_cons ⟨rfl, Nat.zero_lt_one⟩ (fa_cons ⟨?_, trivial⟩ fa_nil))⟩
      refine congrArg AV.str ?_
      rw [lineR, if_neg k1, if_neg k2, if_neg k3, if_neg k4, if_neg k5, if_neg k8, if_neg k9, if_neg k10, if_pos k6]
    repeat' (first | ((refine Qa rfl ?_); (first | refine Q1 ?_ | refine Q2 rfl ?_); (refine QX rfl rfl ?_)) | refine Qh ?_ | refine Ql ?_ | refine Qo rfl ?_ | refine Qs ?_)
    refine awp_cond_dec rfl (fun k11 => ?_) (fun k11 => ?_)
    · have hn := numW_len o.n
      repeat' (first | ((refine Qa rfl ?_); (first | refine Q3 rfl rfl rfl ?_ | refine Q4 rfl rfl rfl rfl rfl ?_); (refine QX rfl rfl ?_)) | refine Qa rfl ?_ | refine Qo rfl ?_)
      refine st_call (fun _ => rfl) rfl ?_
      refine ACalls.mono (acalls_pure (E := E0 X) (fun X => rtnum_c X o.n) (by simp [IdsLtL, IdsLt]) _) ?_
      rintro r H' ⟨rfl, rfl⟩
      first | refine nx rfl rfl ?_ | refine nx0 ?_
      repeat' (refine Qa rfl ?_)
      refine st_sadd rfl rfl (by simp; omega) ?_
      first | refine nx rfl rfl ?_ | refine nx0 ?_
      repeat' (first | ((refine Qa rfl ?_); (refine Q1 ?_); (refine QX rfl rfl ?_)) | refine Qh ?_ | refine Qu ?_)
      refine ⟨rfl, imp_cutk 1 (Nat.zero_le _) (hok_op o) rfl (by simp) (fa_cons ⟨rfl, Nat.zero_lt_one⟩ (fa_cons ⟨?_, trivial⟩ fa_nil))⟩
      refine congrArg AV.str ?_
      rw [lineR, if_neg k1, if_neg k2, if_neg k3, if_neg k4, if_neg k5, if_neg k8, if_neg k9, if_neg k10, if_neg k6, if_pos k11]
    repeat' (first | ((refine Qa rfl ?_); (first | refine Q1 ?_ | refine Q2 rfl ?_); (refine QX rfl rfl ?_)) | refine Qh ?_ | refine Ql ?_ | refine Qo rfl ?_ | refine Qs ?_)
    refine awp_cond_dec rfl (fun k7 => ?_) (fun k7 => ?_)
    · have hn := numW_len o.a
      have hm := numW_len o.b
      skip
      refine awp_region_auto2 [] [] (by exact rfl) (by kernel_rfl) ?_
      repeat' ((apply Qd rfl rfl rfl rfl); (first | refine Q3 rfl rfl rfl ?_ | refine Q4 rfl rfl rfl rfl rfl ?_); (exact QX rfl rfl ⟨rfl, rfl⟩))
      apply ds rfl rfl rfl rfl
      · refine st_call (fun _ => rfl) rfl ?_
        refine ACalls.mono (acalls_pure (E := E0 X) (fun X => rtnum_c X o.a) (by simp [IdsLtL, IdsLt]) _) ?_
        rintro r H' ⟨rfl, rfl⟩
        first
        | exact nx rfl rfl ⟨rfl, rfl⟩
        | exact nx0 ⟨rfl, rfl⟩
      apply ds rfl rfl rfl rfl
      · refine st_sadd rfl rfl (by simp; omega) ?_
        first | exact nx rfl rfl ⟨rfl, rfl⟩ | exact nx0 ⟨rfl, rfl⟩
      apply ds rfl rfl rfl rfl
      · refine st_sadd rfl rfl (by simp; omega) ?_
        first | exact nx rfl rfl ⟨rfl, rfl⟩ | exact nx0 ⟨rfl, rfl⟩
      repeat' ((apply Qd rfl rfl rfl rfl); (first | refine Q3 rfl rfl rfl ?_ | refine Q4 rfl rfl rfl rfl rfl ?_); (exact QX rfl rfl ⟨rfl, rfl⟩))
      apply ds rfl rfl rfl rfl
      · refine st_call (fun _ => rfl) rfl ?_
        refine ACalls.mono (acalls_pure (E := E0 X) (fun X => rtnum_c X o.b) (by simp [IdsLtL, IdsLt]) _) ?_
        rintro r H' ⟨rfl, rfl⟩
        first
        | exact nx rfl rfl ⟨rfl, rfl⟩
        | exact nx0 ⟨rfl, rfl⟩
      apply ds rfl rfl rfl rfl
      · refine st_sadd rfl rfl (by simp; omega) ?_
        first | exact nx rfl rfl ⟨rfl, rfl⟩ | exact nx0 ⟨rfl, rfl⟩
      repeat' (first | ((apply Qd rfl rfl rfl rfl); (refine Q1 ?_); (exact QX rfl rfl ⟨rfl, rfl⟩)) | refine Qk ?_ | refine Qu ?_)
      refine ⟨rfl, imp_cutk 1 (Nat.zero_le _) (hok_op o) rfl (by simp) (fa_cons ⟨rfl, Nat.zero_lt_one⟩ (fa_cons ⟨?_, trivial⟩ fa_nil))⟩
      refine congrArg AV.str ?_
      rw [lineR, if_neg k1, if_neg k2, if_neg k3, if_neg k4, if_neg k5, if_neg k8, if_neg k9, if_neg k10, if_neg k6, if_neg k11, if_pos k7]
    repeat' (first | ((refine Qa rfl ?_); (first | refine Q1 ?_ | refine Q2 rfl ?_); (refine QX rfl rfl ?_)) | refine Qh ?_ | refine Ql ?_ | refine Qo rfl ?_ | refine Qs ?_)
    refine awp_cond_dec rfl (fun k12 => ?_) (fun k12 => ?_)
    · repeat' (first | ((refine Qa rfl ?_); (refine Q1 ?_); (refine QX rfl rfl ?_)) | refine Qh ?_ | refine Ql ?_ | refine Qn ?_ | refine Qo rfl ?_)
      refine awp_loop2 (fun i : Nat => ⟨[(1, .ptr 0 0), (4, .str (([99, 114, 97, 115, 104, 32] : List UInt8) ++ (o.keep.take i).map bitC)), (5, .int .i64 (i : Int))], [some (.cells (opC o) 26)]⟩) (fun i => i ≤ o.keep.length) (fun i => o.keep.length - i) 0 (Nat.zero_le _) ?_ ?_
      · exact imp_cutk 1 (Nat.zero_le _) (hok_op o) rfl (by simp) (fa_cons ⟨rfl, Nat.zero_lt_one⟩ (fa_cons ⟨rfl, trivial⟩ (fa_cons ⟨rfl, trivial⟩ fa_nil)))
      intro i hi
      have hl3 : (o.keep.take i).length ≤ o.keep.length := by rw [List.length_take]; omega
      unfold opC
      repeat' (first | ((refine Qa rfl ?_); (first | refine Q0 ?_ | refine Q2 rfl ?_ | refine Q3 rfl rfl rfl ?_ | refine Q4 rfl rfl rfl rfl rfl ?_ | refine Q7 rfl rfl rfl ?_); (refine QX rfl rfl ?_)) | refine Ql ?_ | refine Qo rfl ?_)
      by_cases hik : i < o.keep.length
      · obtain ⟨x, hx⟩ : ∃ x, o.keep[i]? = some x := ⟨_, List.getElem?_eq_getElem hik⟩
        refine Qy rfl rfl (fun _ => ?_) (fun h => absurd (by simp; omega) h)
        repeat' (first | ((refine Qa rfl ?_); (first | refine Q0 ?_ | refine Q2 rfl ?_ | refine Q5 rfl ?_); (refine QX rfl rfl ?_)) | refine Qh ?_ | refine Qs ?_)
        refine awp_cond_dec rfl (fun g => ?_) (fun g => ?_)
        rotate_left
        · exact absurd (by omega) g
        repeat' (first | ((refine Qa rfl ?_); (first | refine Q0 ?_ | refine Q3 rfl rfl rfl ?_ | refine Q4 rfl rfl rfl rfl rfl ?_); (refine QX rfl rfl ?_)) | refine Qa rfl ?_ | refine Ql ?_ | refine Qm ?_ | refine Qn ?_ | refine Qo rfl ?_)
        refine st_ixm hx rfl rfl rfl rfl rfl rfl rfl (by first | rfl | omega) rfl ?_
        first | refine nx rfl rfl ?_ | refine nx0 ?_
        repeat' (first | ((refine Qa rfl ?_); (refine Q3 rfl rfl rfl ?_); (refine QX rfl rfl ?_)) | refine Qh ?_ | refine Qs ?_)
        have fin : ∀ (y : List UInt8), y = bitC x :: [] → Imp (E0 X) 144 0 ⟨[(5, .int .i64 (IntKind.i64.wrap ((i : Int) + 1))), (4, .str ((([99, 114, 97, 115, 104, 32] : List UInt8) ++ (o.keep.take i).map bitC) ++ y)), (1, .ptr 0 0)], [some (.cells (opC o) 26)]⟩ ⟨[(1, .ptr 0 0), (4, .str (([99, 114, 97, 115, 104, 32] : List UInt8) ++ (o.keep.take (i + 1)).map bitC)), (5, .int .i64 ((i + 1 : Nat) : Int))], [some (.cells (opC o) 26)]⟩ := by
          intro y hy
          refine imp_cutk 1 (Nat.zero_le _) (hok_op o) rfl (by simp) (fa_cons ⟨rfl, Nat.zero_lt_one⟩ (fa_cons ⟨?_, trivial⟩ (fa_cons ⟨?_, trivial⟩ fa_nil)))
          · exact congrArg AV.str (by rw [ch_take hx, hy, List.append_assoc])
          · exact congrArg (AV.int .i64) (by rw [wrap_in (by omega) (by omega)]; simp)
        have sub : ∀ sl y z, get sl 1 = .ptr 0 0 → get sl 4 = .str y → get sl 5 = z → Imp (E0 X) 144 0 ⟨sl, [some (.cells (opC o) 26)]⟩ ⟨[(5, z), (4, .str y), (1, .ptr 0 0)], [some (.cells (opC o) 26)]⟩ := fun sl y z g1 g2 g3 => imp_sub (sub_cons g3 (sub_cons g2 (sub_cons g1 sub_nil)))
        cases x with
        | true =>
          repeat' (first | ((refine Qa rfl ?_); (refine Q0 ?_); (refine QX rfl rfl ?_)) | refine Qa rfl ?_ | refine Qo rfl ?_ | refine Qp rfl ?_)
          refine st_sadd rfl rfl (by simp; omega) ?_
          first | refine nx rfl rfl ?_ | refine nx0 ?_
          repeat' (first | ((refine Qa rfl ?_); (first | refine Q0 ?_ | refine Q1 ?_ | refine Q2 rfl ?_); (refine QX rfl rfl ?_)) | refine Qh ?_ | refine Qo rfl ?_ | refine Qs ?_)
          exact ⟨i + 1, by show i + 1 ≤ _; omega, by show o.keep.length - (i + 1) < o.keep.length - i; omega, (sub _ _ _ rfl rfl rfl).trans (fin _ rfl)⟩
        | false =>
          repeat' (first | ((refine Qa rfl ?_); (refine Q0 ?_); (refine QX rfl rfl ?_)) | refine Qa rfl ?_ | refine Qo rfl ?_ | refine Qq rfl ?_)
          refine st_sadd rfl rfl (by simp; omega) ?_
          first | refine nx rfl rfl ?_ | refine nx0 ?_
          repeat' (first | ((refine Qa rfl ?_); (first | refine Q0 ?_ | refine Q1 ?_ | refine Q2 rfl ?_); (refine QX rfl rfl ?_)) | refine Qh ?_ | refine Qo rfl ?_ | refine Qs ?_)
          exact ⟨i + 1, by show i + 1 ≤ _; omega, by show o.keep.length - (i + 1) < o.keep.length - i; omega, (sub _ _ _ rfl rfl rfl).trans (fin _ rfl)⟩
      have hie : i = o.keep.length := by omega
      subst hie
      rw [List.take_length]
      refine Qy rfl rfl (fun h => absurd h (by simp)) (fun _ => ?_)
      repeat' (first | ((refine Qa rfl ?_); (first | refine Q2 rfl ?_ | refine Q3 rfl rfl rfl ?_ | refine Q4 rfl rfl rfl rfl rfl ?_ | refine Q5 rfl ?_ | refine Q7 rfl rfl rfl ?_); (refine QX rfl rfl ?_)) | refine Qh ?_ | refine Qi rfl ?_ | refine Ql ?_ | refine Qo rfl ?_ | refine Qq rfl ?_ | refine Qr ?_ | refine Qs ?_)
      refine awp_mid (s1 := ⟨[(1, .ptr 0 0), (4, .str (([99, 114, 97, 115, 104, 32] : List UInt8) ++ keepR o.keep))], [some (.cells (opC o) 26)]⟩) ?_ ?_
      · refine awp_cond_dec rfl (fun ke => ?_) (fun ke => ?_)
        · have hk0 : o.keep = [] := List.eq_nil_of_length_eq_zero (by simpa using ke)
          repeat' (first | ((refine Qa rfl ?_); (refine Q0 ?_); (refine QX rfl rfl ?_)) | refine Qa rfl ?_ | refine Qo rfl ?_)
          refine st_sadd rfl rfl (by simp; omega) ?_
          first | refine nx rfl rfl ?_ | refine nx0 ?_
          repeat' (first | ((refine Qa rfl ?_); (refine Q1 ?_); (refine QX rfl rfl ?_)) | refine Qh ?_)
          refine ⟨rfl, imp_cutk 1 (Nat.zero_le _) (hok_op o) rfl (by simp) (fa_cons ⟨rfl, Nat.zero_lt_one⟩ (fa_cons ⟨?_, trivial⟩ fa_nil))⟩
          exact congrArg AV.str (by rw [keepR, if_pos hk0, List.append_assoc])
        · have hk0 : o.keep ≠ [] := fun e => ke (by rw [e]; rfl)
          repeat' (refine Qm ?_)
          refine ⟨rfl, imp_cutk 1 (Nat.zero_le _) (hok_op o) rfl (by simp) (fa_cons ⟨rfl, Nat.zero_lt_one⟩ (fa_cons ⟨?_, trivial⟩ fa_nil))⟩
          exact congrArg AV.str (by rw [keepR, if_neg hk0, List.append_nil])
      have hkr : (keepR o.keep).length ≤ o.keep.length + 1 := by
        unfold keepR
        rw [List.length_append, List.length_map]
        split <;> simp
      unfold opC
      repeat' (first | ((refine Qa rfl ?_); (refine Q1 ?_); (refine QX rfl rfl ?_)) | refine Qh ?_ | refine Ql ?_ | refine Qn ?_ | refine Qo rfl ?_)
      refine awp_loop2 (fun i : Nat => ⟨[(1, .ptr 0 0), (4, .str (([99, 114, 97, 115, 104, 32] : List UInt8) ++ keepR o.keep ++ (o.tears.take i).flatMap tearR)), (6, .int .i64 (i : Int))], [some (.cells (opC o) 26)]⟩) (fun i => i ≤ o.tears.length) (fun i => o.tears.length - i) 0 (Nat.zero_le _) ?_ ?_
      · refine imp_cutk 1 (Nat.zero_le _) (hok_op o) rfl (by simp) (fa_cons ⟨rfl, Nat.zero_lt_one⟩ (fa_cons ⟨?_, trivial⟩ (fa_cons ⟨rfl, trivial⟩ fa_nil)))
        exact congrArg AV.str (by simp)
      intro i hi
      have hl4 := tearsR_len (o.tears.take i)
      have hl5 : (o.tears.take i).length ≤ o.tears.length := by rw [List.length_take]; omega
      unfold opC
      repeat' (first | ((refine Qa rfl ?_); (first | refine Q0 ?_ | refine Q2 rfl ?_ | refine Q3 rfl rfl rfl ?_ | refine Q4 rfl rfl rfl rfl rfl ?_ | refine Q7 rfl rfl rfl ?_); (refine QX rfl rfl ?_)) | refine Ql ?_ | refine Qo rfl ?_)
      by_cases hik : i < o.tears.length
      · obtain ⟨u, hu⟩ : ∃ u, o.tears[i]? = some u := ⟨_, List.getElem?_eq_getElem hik⟩
        have hu1 := numW_len u.k
        have hu2 := numW_len u.n
        refine Qy rfl rfl (fun _ => ?_) (fun h => absurd (by simp; omega) h)
        repeat' (first | ((refine Qa rfl ?_); (first | refine Q0 ?_ | refine Q2 rfl ?_ | refine Q5 rfl ?_); (refine QX rfl rfl ?_)) | refine Qh ?_ | refine Qs ?_)
        refine awp_cond_dec rfl (fun g => ?_) (fun g => ?_)
        rotate_left
        · exact absurd (by omega) g
        repeat' (first | refine Ql ?_ | refine Qm ?_ | refine Qn ?_)
        refine awp_region_auto2 [] [] (by exact rfl) (by kernel_rfl) ?_
        repeat' ((apply Qd rfl rfl rfl rfl); (first | refine Q0 ?_ | refine Q3 rfl rfl rfl ?_ | refine Q4 rfl rfl rfl rfl rfl ?_); (exact QX rfl rfl ⟨rfl, rfl⟩))
        apply ds rfl rfl rfl rfl
        · refine st_ixm hu rfl rfl rfl rfl rfl rfl rfl (by first | rfl | omega) rfl ?_
          first | exact nx rfl rfl ⟨rfl, rfl⟩ | exact nx0 ⟨rfl, rfl⟩
        repeat' ((apply Qd rfl rfl rfl rfl); (first | refine Q3 rfl rfl rfl ?_ | refine Q4 rfl rfl rfl rfl rfl ?_); (exact QX rfl rfl ⟨rfl, rfl⟩))
        apply ds rfl rfl rfl rfl
        · refine st_call (fun _ => rfl) rfl ?_
          refine ACalls.mono (acalls_pure (E := E0 X) (fun X => rtnum_c X u.k) (by simp [IdsLtL, IdsLt]) _) ?_
          rintro r H' ⟨rfl, rfl⟩
          first
          | exact nx rfl rfl ⟨rfl, rfl⟩
          | exact nx0 ⟨rfl, rfl⟩
        apply ds rfl rfl rfl rfl
        · refine st_sadd rfl rfl (by simp; omega) ?_
          first | exact nx rfl rfl ⟨rfl, rfl⟩ | exact nx0 ⟨rfl, rfl⟩
        apply ds rfl rfl rfl rfl
        · refine st_sadd rfl rfl (by simp; omega) ?_
          first | exact nx rfl rfl ⟨rfl, rfl⟩ | exact nx0 ⟨rfl, rfl⟩
        repeat' ((apply Qd rfl rfl rfl rfl); (first | refine Q0 ?_ | refine Q3 rfl rfl rfl ?_ | refine Q4 rfl rfl rfl rfl rfl ?_); (exact QX rfl rfl ⟨rfl, rfl⟩))
        apply ds rfl rfl rfl rfl
        · refine st_ixm hu rfl rfl rfl rfl rfl rfl rfl (by first | rfl | omega) rfl ?_
          first | exact nx rfl rfl ⟨rfl, rfl⟩ | exact nx0 ⟨rfl, rfl⟩
        repeat' ((apply Qd rfl rfl rfl rfl); (first | refine Q3 rfl rfl rfl ?_ | refine Q4 rfl rfl rfl rfl rfl ?_); (exact QX rfl rfl ⟨rfl, rfl⟩))
        apply ds rfl rfl rfl rfl
        · refine st_call (fun _ => rfl) rfl ?_
          refine ACalls.mono (acalls_pure (E := E0 X) (fun X => rtnum_c X u.n) (by simp [IdsLtL, IdsLt]) _) ?_
          rintro r H' ⟨rfl, rfl⟩
          first
          | exact nx rfl rfl ⟨rfl, rfl⟩
          | exact nx0 ⟨rfl, rfl⟩
        apply ds rfl rfl rfl rfl
        · refine st_sadd rfl rfl (by simp; omega) ?_
          first | exact nx rfl rfl ⟨rfl, rfl⟩ | exact nx0 ⟨rfl, rfl⟩
        apply ds rfl rfl rfl rfl
        · refine st_sadd rfl rfl (by simp [-List.length_flatMap]; omega) ?_
          first | exact nx rfl rfl ⟨rfl, rfl⟩ | exact nx0 ⟨rfl, rfl⟩
        repeat' (first | ((first | refine Qa rfl ?_ | apply Qd rfl rfl rfl rfl); (first | refine Q0 ?_ | refine Q1 ?_ | refine Q2 rfl ?_); (first | exact QX rfl rfl ⟨rfl, rfl⟩ | refine QX rfl rfl ?_)) | refine Qh ?_ | refine Qk ?_ | refine Qo rfl ?_ | refine Qs ?_)
        refine ⟨i + 1, by show i + 1 ≤ _; omega, by show o.tears.length - (i + 1) < o.tears.length - i; omega, imp_cutk 1 (Nat.zero_le _) (hok_op o) rfl (by simp) (fa_cons ⟨rfl, Nat.zero_lt_one⟩ (fa_cons ⟨?_, trivial⟩ (fa_cons ⟨?_, trivial⟩ fa_nil)))⟩
        · exact congrArg AV.str (by rw [tearR_take hu]; simp [tearR])
        · exact congrArg (AV.int .i64) (by rw [wrap_in (by omega) (by omega)]; simp)
      have hie : i = o.tears.length := by omega
      subst hie
      rw [List.take_length]
      refine Qy rfl rfl (fun h => absurd h (by simp)) (fun _ => ?_)
      repeat' (first | ((refine Qa rfl ?_); (refine Q5 rfl ?_); (refine QX rfl rfl ?_)) | refine Qh ?_ | refine Qi rfl ?_ | refine Qq rfl ?_ | refine Qr ?_ | refine Qt ?_ | refine Qu ?_ | refine Qv ?_)
      refine ⟨rfl, imp_cutk 1 (Nat.zero_le _) (hok_op o) rfl (by simp) (fa_cons ⟨rfl, Nat.zero_lt_one⟩ (fa_cons ⟨?_, trivial⟩ fa_nil))⟩
      refine congrArg AV.str ?_
      rw [lineR, if_neg k1, if_neg k2, if_neg k3, if_neg k4, if_neg k5, if_neg k8, if_neg k9, if_neg k10, if_neg k6, if_neg k11, if_neg k7, if_pos k12]
    repeat' (first | refine Qm ?_ | refine Qu ?_)
    refine ⟨rfl, imp_cutk 1 (Nat.zero_le _) (hok_op o) rfl (by simp) (fa_cons ⟨rfl, Nat.zero_lt_one⟩ (fa_cons ⟨?_, trivial⟩ fa_nil))⟩
    refine congrArg AV.str ?_
    rw [lineR, if_neg k1, if_neg k2, if_neg k3, if_neg k4, if_neg k5, if_neg k8, if_neg k9, if_neg k10, if_neg k6, if_neg k11, if_neg k7, if_neg k12]
    all_goals rfl
  unfold opC
  cases hp : parseP (lineR o) with
  | none =>
    have hP : printR o = none := by rw [printR, hp, if_neg (by simp)]
    rw [hP]
    repeat' (first | ((refine Qa rfl ?_); (refine Q0 ?_); (refine QX rfl rfl ?_)) | refine Qa rfl ?_ | refine Ql ?_ | refine Qo rfl ?_)
    refine st_call (fun _ => rfl) rfl ?_
    refine ACalls.mono (acalls_pure (E := E0 X) (fun X => rparse_c X (lineR o) (by omega)) (by simp [IdsLtL, IdsLt]) _) ?_
    rintro r H' ⟨rfl, rfl⟩
    first | refine nx rfl rfl ?_ | refine nx0 ?_
    rw [hp]
    repeat' (first | ((refine Qa rfl ?_); (first | refine Q0 ?_ | refine Q1 ?_ | refine Q5 rfl ?_ | refine QC rfl rfl ?_ | refine QD rfl ?_ | refine QJ rfl rfl ?_); (refine QX rfl rfl ?_)) | (refine Qb rfl ?_; try (refine QS rfl rfl rfl rfl rfl rfl rfl ?_; (refine QX rfl rfl ?_))) | refine Qh ?_ | refine Qi rfl ?_ | refine Ql ?_ | refine Qo rfl ?_ | refine Qp rfl ?_ | refine Qs ?_)
    refine awp_ret ?_
    exact ⟨_, rfl, rfl⟩
  | some x =>
    have hsm := parseP_small hp
    have hkv := parseP_kv hp
    repeat' (first | ((refine Qa rfl ?_); (refine Q0 ?_); (refine QX rfl rfl ?_)) | refine Qa rfl ?_ | refine Ql ?_ | refine Qo rfl ?_)
    refine st_call (fun _ => rfl) rfl ?_
    refine ACalls.mono (acalls_pure (E := E0 X) (fun X => rparse_c X (lineR o) (by omega)) (by simp [IdsLtL, IdsLt]) _) ?_
    rintro r H' ⟨rfl, rfl⟩
    first | refine nx rfl rfl ?_ | refine nx0 ?_
    rw [hp]
    repeat' (first | ((refine Qa rfl ?_); (first | refine Q0 ?_ | refine Q1 ?_ | refine Q3 rfl rfl rfl ?_ | refine QC rfl rfl ?_ | refine QD rfl ?_ | refine QJ rfl rfl ?_); (refine QX rfl rfl ?_)) | refine Qa rfl ?_ | (refine Qb rfl ?_; try (refine QS rfl rfl rfl rfl rfl rfl rfl ?_; (refine QX rfl rfl ?_))) | refine Qh ?_ | refine Ql ?_ | refine Qo rfl ?_)
    refine st_call (fun _ => rfl) rfl ?_
    refine ACalls.mono (acalls_pure (E := E0 X) (fun X => req_c X x o (by omega) (by omega) (by omega) (by omega)) ⟨opC_ids x, opC_ids o, trivial⟩ _) ?_
    rintro r H' ⟨rfl, rfl⟩
    first | refine nx rfl rfl ?_ | refine nx0 ?_
    by_cases hx : x = o
    · subst hx
      have hP : printR x = some (lineR x) := by rw [printR, hp, if_pos rfl]
      rw [hP, decide_eq_true rfl]
      repeat' (first | ((refine Qa rfl ?_); (first | refine Q0 ?_ | refine Q1 ?_ | refine Q5 rfl ?_ | refine QD rfl ?_); (refine QX rfl rfl ?_)) | refine Qh ?_ | refine Ql ?_ | refine Qm ?_ | refine Qo rfl ?_ | refine Qq rfl ?_ | refine Qs ?_)
      refine awp_ret ?_
      exact ⟨_, rfl, rfl⟩
    · have hP : printR o = none := by rw [printR, hp, if_neg (by simpa using hx)]
      rw [hP, decide_eq_false hx]
      repeat' (first | ((refine Qa rfl ?_); (first | refine Q1 ?_ | refine Q5 rfl ?_ | refine QD rfl ?_); (refine QX rfl rfl ?_)) | refine Qh ?_ | refine Ql ?_ | refine Qo rfl ?_ | refine Qp rfl ?_ | refine Qs ?_)
      refine awp_ret ?_
      exact ⟨_, rfl, rfl⟩
end Go.Abs
namespace Go.Abs
def s0 : List UInt8 := [115, 101, 116, 32, 54, 49, 32, 55, 56, 32, 48]
def o0 : Opv := { op0 2 with key := [97], val := [120], n := 0 }
theorem parse0 : parseP s0 = some o0 := by kernel_rfl
theorem line0 : lineO o0 = s0 := parseP_line parse0
theorem print0 : printP o0 = some s0 := by rw [printP, line0, if_pos parse0]
theorem i64B_0 : i64B 0 := by unfold i64B; omega
theorem opB0 : OpB o0 := ⟨by unfold i64B o0 op0; simp, i64B_0, i64B_0, i64B_0, by simp [o0, op0], by simp [o0, op0], by simp [o0, op0], by simp [o0, op0], by simp [o0, op0]⟩
def numB (n : Int) : Prop := 0 ≤ n ∧ n ≤ 999999
structure InR (o : Opv) : Prop where
  k : 0 ≤ o.kind ∧ o.kind ≤ 12
  n : numB o.n
  a : numB o.a
  b : numB o.b
  tr : ∀ t ∈ o.tears, numB t.k ∧ numB t.n
theorem numB_0 : numB 0 := by unfold numB; omega
theorem numB_of {s : List UInt8} {n : Nat} (h : numP s = some n) : numB (n : Int) := by
  have := numP_lt h
  unfold numB; omega
theorem tearsP_r : ∀ (l : List (List UInt8)) (ts : List Tr), tearsP l = some ts → ∀ t ∈ ts, numB t.k ∧ numB t.n
  | [], ts, h, t, ht => by simp [tearsP] at h; subst h; simp at ht
  | s :: l, ts, h, t, ht => by
    unfold tearsP at h
    cases hs : tearP s with
    | none => rw [hs] at h; cases h
    | some u =>
      rw [hs] at h
      simp only [Option.map_eq_some_iff] at h
      obtain ⟨ts', h1, rfl⟩ := h
      rcases List.mem_cons.1 ht with rfl | ht2
      · unfold tearP at hs
        cases ha : numP (cutB s 58).1 with
        | none => rw [ha] at hs; cases hs
        | some a =>
          cases hb : numP (cutB s 58).2.1 with
          | none => rw [ha, hb] at hs; cases hs
          | some b =>
            rw [ha, hb] at hs
            cases hs
            exact ⟨numB_of ha, numB_of hb⟩
      · exact tearsP_r l ts' h1 t ht2
theorem cmdP_r {w : List UInt8} {l : List (List UInt8)} {o : Opv} (h : cmdP w l = some o) : InR o := by
  unfold cmdP at h
  split at h
  · rename_i h1
    cases h
    refine ⟨?_, numB_0, numB_0, numB_0, fun t ht => by simp [op0] at ht⟩
    rcases idx_plain h1.1 with ⟨e, _⟩ | ⟨e, _⟩ | ⟨e, _⟩ | ⟨e, _⟩ | ⟨e, _⟩ <;> (show 0 ≤ idxS plainL w 0 ∧ idxS plainL w 0 ≤ 12; omega)
  split at h
  · simp only [Option.map_eq_some_iff] at h
    obtain ⟨k, h2, rfl⟩ := h
    exact ⟨by simp [op0], numB_0, numB_0, numB_0, fun t ht => by simp [op0] at ht⟩
  split at h
  · simp only [Option.map_eq_some_iff] at h
    obtain ⟨k, h2, rfl⟩ := h
    exact ⟨by simp [op0], numB_0, numB_0, numB_0, fun t ht => by simp [op0] at ht⟩
  split at h
  · split at h
    · rename_i k v n e1 e2 e3
      cases h
      exact ⟨by simp [op0], numB_of e3, numB_0, numB_0, fun t ht => by simp [op0] at ht⟩
    · cases h
  split at h
  · simp only [Option.map_eq_some_iff] at h
    obtain ⟨k, h2, rfl⟩ := h
    exact ⟨by simp [op0], numB_of h2, numB_0, numB_0, fun t ht => by simp [op0] at ht⟩
  split at h
  · simp only [Option.map_eq_some_iff] at h
    obtain ⟨k, h2, rfl⟩ := h
    exact ⟨by simp [op0], numB_of h2, numB_0, numB_0, fun t ht => by simp [op0] at ht⟩
  split at h
  · split at h
    · rename_i a b e1 e2
      cases h
      exact ⟨by simp [op0], numB_0, numB_of e1, numB_of e2, fun t ht => by simp [op0] at ht⟩
    · cases h
  split at h
  · split at h
    · rename_i k t e1 e2
      cases h
      exact ⟨by simp [op0], numB_0, numB_0, numB_0, tearsP_r _ _ e2⟩
    · cases h
  cases h
theorem parseP_r {s : List UInt8} {o : Opv} (h : parseP s = some o) : InR o := by
  unfold parseP at h
  split at h
  · cases h
  · split at h
    · exact cmdP_r h
    · cases h
theorem i64B_of {n : Int} (h : numB n) : i64B n := by unfold numB at h; unfold i64B; omega
theorem parseP_B {s : List UInt8} {o : Opv} (h : parseP s = some o) : OpB o := by
  have hr := parseP_r h
  have h1 := parseP_kv h
  have h2 := parseP_small h
  exact ⟨by have := hr.k; unfold i64B; omega, i64B_of hr.n, i64B_of hr.a, i64B_of hr.b, h1.1, h1.2, h2.1, h2.2, fun t ht => ⟨i64B_of (hr.tr t ht).1, i64B_of (hr.tr t ht).2⟩⟩
theorem zB : OpB (op0 0) := ⟨i64B_0, i64B_0, i64B_0, i64B_0, Nat.zero_le _, Nat.zero_le _, Nat.zero_le _, Nat.zero_le _, fun t ht => by simp [op0] at ht⟩
theorem numW_itoa {n : Int} (h : numB n) : numW n = Lib.itoa n := by
  have h2 := h
  unfold numB at h2
  rw [numW, if_pos h2, Lib.itoa, if_neg (by omega)]
theorem join_cons2 (x y : List UInt8) (l : List (List UInt8)) (c : UInt8) : Lib.join (x :: y :: l) [c] = x ++ [c] ++ Lib.join (y :: l) [c] := by
  rw [Lib.join_cons, Lib.join_cons]
  simp [Lib.joinTail]
theorem keepR_ch (l : List Bool) : keepR l = chW l := by
  unfold keepR chW
  split
  · rename_i e; subst e; rfl
  · rw [List.append_nil]
theorem tears_join : ∀ (l : List Tr) (x : List UInt8), (∀ t ∈ l, numB t.k ∧ numB t.n) → Lib.join (x :: l.map tearW) [32] = x ++ l.flatMap tearR
  | [], x, _ => by rw [List.map_nil, Lib.join_one]; simp
  | t :: l, x, h => by
    have h1 := h t (by simp)
    have ih := tears_join l (tearW t) fun u hu => h u (List.mem_cons_of_mem _ hu)
    rw [List.map_cons, join_cons2, ih, List.flatMap_cons]
    unfold tearR tearW
    rw [numW_itoa h1.1, numW_itoa h1.2]
    simp
/-- The two lines are one where the numbers have a form. -/
theorem lines_eq {o : Opv} (h : InR o) : lineR o = lineO o := by
  have hn := numW_itoa h.n
  have ha := numW_itoa h.a
  have hb := numW_itoa h.b
  have hk := h.k
  unfold lineR lineO wordsO
  by_cases h1 : o.kind = 1
  · simp only [if_pos h1, join_cons2, Lib.join_one]; rfl
  by_cases h2 : o.kind = 2
  · simp only [if_neg h1, if_pos h2, if_neg (show ¬ o.kind = 3 by omega), join_cons2, Lib.join_one, hn]; simp
  by_cases h3 : o.kind = 3
  · simp only [if_neg h1, if_neg h2, if_pos h3, join_cons2, Lib.join_one]; rfl
  by_cases h4 : o.kind = 4
  · simp only [h4]; rfl
  by_cases h5 : o.kind = 5
  · simp only [h5]; rfl
  by_cases h8 : o.kind = 8
  · simp only [h8]; rfl
  by_cases h9 : o.kind = 9
  · simp only [h9]; rfl
  by_cases h10 : o.kind = 10
  · simp only [h10]; rfl
  by_cases h6 : o.kind = 6
  · simp only [if_neg h1, if_neg h2, if_neg h3, if_neg h4, if_neg h5, if_neg h8, if_neg h9, if_neg h10, if_pos h6, join_cons2, Lib.join_one, hn]; rfl
  by_cases h11 : o.kind = 11
  · simp only [if_neg h1, if_neg h2, if_neg h3, if_neg h4, if_neg h5, if_neg h8, if_neg h9, if_neg h10, if_neg h6, if_pos h11, join_cons2, Lib.join_one, hn]; rfl
  by_cases h7 : o.kind = 7
  · simp only [if_neg h1, if_neg h2, if_neg h3, if_neg h4, if_neg h5, if_neg h8, if_neg h9, if_neg h10, if_neg h6, if_neg h11, if_pos h7, join_cons2, Lib.join_one, ha, hb]; simp
  by_cases h12 : o.kind = 12
  · simp only [if_neg h1, if_neg h2, if_neg h3, if_neg h4, if_neg h5, if_neg h8, if_neg h9, if_neg h10, if_neg h6, if_neg h11, if_neg h7, if_pos h12, join_cons2]
    rw [tears_join _ _ h.tr, keepR_ch]
    simp
  · simp only [if_neg h1, if_neg h2, if_neg h3, if_neg h4, if_neg h5, if_neg h8, if_neg h9, if_neg h10, if_neg h6, if_neg h11, if_neg h7, if_neg h12]
    rw [if_neg (by omega)]; rfl
theorem prints_eq (o : Opv) : printR o = printP o := by
  unfold printR printP
  by_cases h : InR o
  · rw [lines_eq h]
  · rw [if_neg (fun e => h (parseP_r e)), if_neg (fun e => h (parseP_r e))]
attribute [local irreducible] AStep aops AWp Nx awM APanic
set_option maxHeartbeats 0 in
theorem awake_c (X : Nat → Prop) : ACalls (E0 X) 9 [] [] (fun r H' => r = .bool true ∧ H' = []) := by
  refine ACalls.cut0 ?_ trivial
  refine acalls_of Proofs.Tryd.func9 rfl Proofs.Tryd.ntmps9 (by kernel_rfl) rfl ?_
  intro hH hargs
  clear hH hargs
  repeat' (first | ((refine Qa rfl ?_); (refine Q1 ?_); (refine QX rfl rfl ?_)) | refine Qa rfl ?_ | refine Qh ?_ | refine Ql ?_ | refine Qo rfl ?_)
  refine st_call (fun _ => rfl) rfl ?_
  refine ACalls.mono (acalls_pure (E := E0 X) (fun X => parse_c X s0 (by decide)) (by simp [IdsLtL, IdsLt]) _) ?_
  rintro r H' ⟨rfl, rfl⟩
  first | refine nx rfl rfl ?_ | refine nx0 ?_
  repeat' (first | ((refine Qa rfl ?_); (first | refine Q0 ?_ | refine Q1 ?_ | refine Q3 rfl rfl rfl ?_ | refine QC rfl rfl ?_ | refine QJ rfl rfl ?_); (refine QX rfl rfl ?_)) | refine Qa rfl ?_ | (refine Qb rfl ?_; try (refine QS rfl rfl rfl rfl rfl rfl rfl ?_; (refine QX rfl rfl ?_))) | refine Qh ?_ | refine Ql ?_ | refine Qo rfl ?_)
  refine st_call (fun _ => rfl) rfl ?_
  refine ACalls.mono (acalls_pure (E := E0 X) (fun X => print_c X o0 opB0) ⟨opC_ids _, trivial⟩ _) ?_
  rintro r H' ⟨rfl, rfl⟩
  first | refine nx rfl rfl ?_ | refine nx0 ?_
  rw [print0]
  repeat' (first | ((refine Qa rfl ?_); (first | refine Q0 ?_ | refine Q1 ?_ | refine Q2 rfl ?_ | refine Q5 rfl ?_ | refine QC rfl rfl ?_); (refine QX rfl rfl ?_)) | refine Qa rfl ?_ | refine Qh ?_ | refine Ql ?_ | refine Qo rfl ?_)
  refine st_call (fun _ => rfl) rfl ?_
  refine ACalls.mono (acalls_pure (E := E0 X) (fun X => err_c X 10 (by unfold i64B; omega)) (by simp [IdsLtL, IdsLt]) _) ?_
  rintro r H' ⟨rfl, rfl⟩
  first | refine nx rfl rfl ?_ | refine nx0 ?_
  repeat' (first | ((refine Qa rfl ?_); (first | refine Q1 ?_ | refine Q2 rfl ?_ | refine Q5 rfl ?_); (refine QX rfl rfl ?_)) | refine Qh ?_ | refine Qs ?_)
  refine awp_ret ?_
  exact ⟨_, rfl, rfl⟩
end Go.Abs
namespace Go.Abs
def Opv.short (o : Opv) : Opv := { o with key := o.key.take 300, val := o.val.take 300, keep := o.keep.take 40, tears := o.tears.take 6 }
theorem tk_min {α : Type} (l : List α) (n : Nat) : l.take (min l.length n) = l.take n := by
  rcases Nat.le_total l.length n with h | h
  · rw [Nat.min_eq_left h, List.take_of_length_le (Nat.le_refl _), List.take_of_length_le h]
  · rw [Nat.min_eq_right h]
attribute [local irreducible] AStep aops AWp Nx awM APanic
set_option maxHeartbeats 0 in
set_option maxRecDepth 100000 in
theorem short_c (X : Nat → Prop) (o : Opv) : ACalls (E0 X) 11 [opS o] [] (fun r H' => r = opS o.short ∧ H' = []) := by
  refine ACalls.cut0 ?_ (opC_ids _)
  refine acalls_of Proofs.Tryd.func11 rfl Proofs.Tryd.ntmps11 (by kernel_rfl) rfl ?_
  intro hH hargs
  clear hH hargs
  repeat' (refine Ql ?_)
  refine Qo rfl ?_
  repeat' (first | ((refine Qa rfl ?_); (first | refine QJ rfl rfl ?_ | refine QK rfl ?_); (refine QX rfl rfl ?_)) | refine Qh ?_ | refine Ql ?_)
  refine awp_region_any [29, 31, 33, 35] [0, 2, 4, 5, 6, 7, 9, 11, 12, 13, 14, 16, 18, 19, 20, 21, 23, 25, 26, 27, 28, 30, 32, 34] (by exact rfl) ?_
  refine any_lin (fuel := 0) [0, 2, 7, 9, 14, 16, 21, 23, 1, 3, 4, 5, 6, 8, 10, 11, 12, 13, 15, 17, 18, 19, 20, 22, 24, 25, 26, 27, 28, 29, 30, 31, 32, 33, 34, 35] (by exact rfl) (by kernel_rfl) (by kernel_rfl) ?_
  repeat' ((first | apply Qd rfl rfl rfl rfl | (apply Qe rfl rfl rfl rfl; intro H9)); (first | refine Q3 rfl rfl rfl ?_ | refine Q4 rfl rfl rfl rfl rfl ?_ | refine Q7 rfl rfl rfl ?_ | refine QE rfl rfl ?_); (first | exact QX rfl rfl ⟨rfl, rfl⟩ | exact QY rfl ⟨rfl, rfl⟩))
  apply ds_soN rfl rfl rfl rfl
  · intro H9
    refine st_sls (l := 0) (h := min o.key.length 300) (ys := o.key.take 300) (bnd_none) (bnd_some rfl (by rw [List.length_map]; omega)) (by omega) (by omega) (by rw [List.drop_zero, tk_min]) rfl rfl rfl rfl rfl ?_
    exact nx0 ⟨rfl, rfl⟩
  repeat' ((first | apply Qd rfl rfl rfl rfl | (apply Qe rfl rfl rfl rfl; intro H9)); (first | refine Q3 rfl rfl rfl ?_ | refine Q7 rfl rfl rfl ?_ | refine QE rfl rfl ?_); (first | exact QX rfl rfl ⟨rfl, rfl⟩ | exact QY rfl ⟨rfl, rfl⟩))
  apply ds_soN rfl rfl rfl rfl
  · intro H9
    refine st_sls (l := 0) (h := min o.val.length 300) (ys := o.val.take 300) (bnd_none) (bnd_some rfl (by rw [List.length_map]; omega)) (by omega) (by omega) (by rw [List.drop_zero, tk_min]) rfl rfl rfl rfl rfl ?_
    exact nx0 ⟨rfl, rfl⟩
  repeat' ((first | apply Qd rfl rfl rfl rfl | (apply Qe rfl rfl rfl rfl; intro H9)); (first | refine Q3 rfl rfl rfl ?_ | refine Q7 rfl rfl rfl ?_ | refine QE rfl rfl ?_); (first | exact QX rfl rfl ⟨rfl, rfl⟩ | exact QY rfl ⟨rfl, rfl⟩))
  apply ds_soN rfl rfl rfl rfl
  · intro H9
    refine st_sls (l := 0) (h := min o.keep.length 40) (ys := o.keep.take 40) (bnd_none) (bnd_some rfl (by rw [List.length_map]; omega)) (by omega) (by omega) (by rw [List.drop_zero, tk_min]) rfl rfl rfl rfl rfl ?_
    exact nx0 ⟨rfl, rfl⟩
  repeat' ((first | apply Qd rfl rfl rfl rfl | (apply Qe rfl rfl rfl rfl; intro H9)); (first | refine Q3 rfl rfl rfl ?_ | refine Q7 rfl rfl rfl ?_ | refine QE rfl rfl ?_); (first | exact QX rfl rfl ⟨rfl, rfl⟩ | exact QY rfl ⟨rfl, rfl⟩))
  apply ds_soN rfl rfl rfl rfl
  · intro H9
    refine st_sls (l := 0) (h := min o.tears.length 6) (ys := o.tears.take 6) (bnd_none) (bnd_some rfl (by rw [List.length_map]; omega)) (by omega) (by omega) (by rw [List.drop_zero, tk_min]) rfl rfl rfl rfl rfl ?_
    exact nx0 ⟨rfl, rfl⟩
  repeat' (first | ((first | refine Qa rfl ?_ | (apply Qe rfl rfl rfl rfl; intro H9)); (first | refine Q3 rfl rfl rfl ?_ | refine Q4 rfl rfl rfl rfl rfl ?_); (first | exact QY rfl ⟨rfl, rfl⟩ | refine QX rfl rfl ?_)) | (refine Qb rfl ?_; try (refine QS rfl rfl rfl rfl rfl rfl rfl ?_; (refine QX rfl rfl ?_))) | refine Qh ?_ | (refine Qf rfl rfl rfl ?_; refine QS rfl rfl rfl rfl rfl rfl rfl ?_; (refine QX rfl rfl ?_)) | refine Qk ?_ | refine Ql ?_ | refine Qo rfl ?_ | refine Qs ?_ | refine Qw (by kernel_rfl) ?_)
  first
  | (refine awp_ret ?_; exact ⟨_, rfl, rfl⟩)
  | exact ⟨_, rfl, rfl⟩
end Go.Abs
namespace Go.Abs
attribute [local irreducible] AStep aops AWp Nx awM APanic
theorem eqB {a b : Opv} (h : a = b) : decide (a = b) = true := decide_eq_true h
theorem printz : printP (op0 0) = none := by
  have h : parseP (lineO (op0 0)) = none := by kernel_rfl
  rw [printP, h, if_neg (by simp)]
theorem printz_c (X : Nat → Prop) : ACalls (E0 X) 12 [opS (op0 0)] [] (fun r H' => r = .tup [.str [], .bool false] ∧ H' = []) := by
  have h := print_c X (op0 0) zB
  rw [printz] at h
  exact h
set_option maxHeartbeats 0 in
theorem consoleParse_c (X : Nat → Prop) (s : List UInt8) (hs : s.length ≤ 9223372036854775807) : ACalls (E0 X) 3 [.str s] [] (fun r H' => r = .bool true ∧ H' = []) := by
  refine ACalls.cut0 ?_ trivial
  have hl : (s.take 200).length ≤ 200 := by rw [List.length_take]; omega
  refine acalls_of Proofs.Tryd.func3 rfl Proofs.Tryd.ntmps3 (by kernel_rfl) rfl ?_
  intro hH hargs
  clear hH hargs
  repeat' (first | ((refine Qa rfl ?_); (first | refine Q0 ?_ | refine Q1 ?_ | refine Q8 rfl rfl rfl ?_ | refine QE rfl rfl ?_); (refine QX rfl rfl ?_)) | refine Qa rfl ?_ | refine Qh ?_ | refine Ql ?_ | refine Qo rfl ?_)
  refine st_sst (l := 0) (h := min s.length 200) (ys := s.take 200) (bnd_none) (bnd_some rfl (by omega)) (by omega) (by omega) (by rw [List.drop_zero, tk_min]) rfl rfl rfl ?_
  first | refine nx rfl rfl ?_ | refine nx0 ?_
  repeat' (first | ((refine Qa rfl ?_); (first | refine Q0 ?_ | refine Q1 ?_); (refine QX rfl rfl ?_)) | refine Qa rfl ?_ | refine Qh ?_ | refine Ql ?_ | refine Qo rfl ?_)
  generalize s.take 200 = t at hl ⊢
  cases hp : parseP t with
  | none =>
    refine st_call (fun _ => rfl) rfl ?_
    refine ACalls.mono (acalls_pure (E := E0 X) (fun X => parse_c X t (by omega)) (by simp [IdsLtL, IdsLt]) _) ?_
    rintro r H' ⟨rfl, rfl⟩
    first | refine nx rfl rfl ?_ | refine nx0 ?_
    rw [hp]
    repeat' (first | ((refine Qa rfl ?_); (first | refine Q0 ?_ | refine Q1 ?_ | refine QC rfl rfl ?_ | refine QJ rfl rfl ?_); (refine QX rfl rfl ?_)) | refine Qa rfl ?_ | (refine Qb rfl ?_; try (refine QS rfl rfl rfl rfl rfl rfl rfl ?_; (refine QX rfl rfl ?_))) | refine Qh ?_ | refine Ql ?_ | refine Qo rfl ?_)
    refine st_call (fun _ => rfl) rfl ?_
    refine ACalls.mono (acalls_pure (E := E0 X) (fun X => rparse_c X t (by omega)) (by simp [IdsLtL, IdsLt]) _) ?_
    rintro r H' ⟨rfl, rfl⟩
    first | refine nx rfl rfl ?_ | refine nx0 ?_
    rw [hp]
    repeat' (first | ((refine Qa rfl ?_); (first | refine Q0 ?_ | refine Q1 ?_ | refine QC rfl rfl ?_ | refine QJ rfl rfl ?_); (refine QX rfl rfl ?_)) | refine Qa rfl ?_ | (refine Qb rfl ?_; try (refine QS rfl rfl rfl rfl rfl rfl rfl ?_; (refine QX rfl rfl ?_))) | refine Qh ?_ | refine Ql ?_ | refine Qo rfl ?_)
    refine st_call (fun _ => rfl) rfl ?_
    refine ACalls.mono (acalls_pure (E := E0 X) (fun X => awake_c X) (by simp [IdsLtL]) _) ?_
    rintro r H' ⟨rfl, rfl⟩
    first | refine nx rfl rfl ?_ | refine nx0 ?_
    repeat' (first | ((refine Qa rfl ?_); (first | refine Q0 ?_ | refine Q3 rfl rfl rfl ?_ | refine Q5 rfl ?_ | refine QH rfl rfl rfl ?_); (refine QX rfl rfl ?_)) | refine Qa rfl ?_)
    refine st_call (fun _ => rfl) rfl ?_
    refine ACalls.mono (acalls_pure (E := E0 X) (fun X => req_c X (op0 0) (op0 0) (Nat.zero_le _) (Nat.zero_le _) (Nat.zero_le _) (Nat.zero_le _)) ⟨opC_ids _, opC_ids _, trivial⟩ _) ?_
    rintro r H' ⟨rfl, rfl⟩
    first | refine nx rfl rfl ?_ | refine nx0 ?_
    rw [eqB rfl]
    repeat' (first | ((refine Qa rfl ?_); (first | refine Q1 ?_ | refine Q5 rfl ?_); (refine QX rfl rfl ?_)) | refine Qh ?_ | refine Qs ?_)
    first
    | (refine awp_ret ?_; exact ⟨_, rfl, rfl⟩)
    | exact ⟨_, rfl, rfl⟩
  | some o =>
    have h1 := parseP_small hp
    have h2 := parseP_kv hp
    refine st_call (fun _ => rfl) rfl ?_
    refine ACalls.mono (acalls_pure (E := E0 X) (fun X => parse_c X t (by omega)) (by simp [IdsLtL, IdsLt]) _) ?_
    rintro r H' ⟨rfl, rfl⟩
    first | refine nx rfl rfl ?_ | refine nx0 ?_
    rw [hp]
    repeat' (first | ((refine Qa rfl ?_); (first | refine Q0 ?_ | refine Q1 ?_ | refine QC rfl rfl ?_ | refine QJ rfl rfl ?_); (refine QX rfl rfl ?_)) | refine Qa rfl ?_ | (refine Qb rfl ?_; try (refine QS rfl rfl rfl rfl rfl rfl rfl ?_; (refine QX rfl rfl ?_))) | refine Qh ?_ | refine Ql ?_ | refine Qo rfl ?_)
    refine st_call (fun _ => rfl) rfl ?_
    refine ACalls.mono (acalls_pure (E := E0 X) (fun X => rparse_c X t (by omega)) (by simp [IdsLtL, IdsLt]) _) ?_
    rintro r H' ⟨rfl, rfl⟩
    first | refine nx rfl rfl ?_ | refine nx0 ?_
    rw [hp]
    repeat' (first | ((refine Qa rfl ?_); (first | refine Q0 ?_ | refine Q1 ?_ | refine QC rfl rfl ?_ | refine QJ rfl rfl ?_); (refine QX rfl rfl ?_)) | refine Qa rfl ?_ | (refine Qb rfl ?_; try (refine QS rfl rfl rfl rfl rfl rfl rfl ?_; (refine QX rfl rfl ?_))) | refine Qh ?_ | refine Ql ?_ | refine Qo rfl ?_)
    refine st_call (fun _ => rfl) rfl ?_
    refine ACalls.mono (acalls_pure (E := E0 X) (fun X => awake_c X) (by simp [IdsLtL]) _) ?_
    rintro r H' ⟨rfl, rfl⟩
    first | refine nx rfl rfl ?_ | refine nx0 ?_
    repeat' (first | ((refine Qa rfl ?_); (first | refine Q0 ?_ | refine Q3 rfl rfl rfl ?_ | refine Q5 rfl ?_ | refine QH rfl rfl rfl ?_); (refine QX rfl rfl ?_)) | refine Qa rfl ?_)
    refine st_call (fun _ => rfl) rfl ?_
    refine ACalls.mono (acalls_pure (E := E0 X) (fun X => req_c X o o (by omega) (by omega) (by omega) (by omega)) ⟨opC_ids _, opC_ids _, trivial⟩ _) ?_
    rintro r H' ⟨rfl, rfl⟩
    first | refine nx rfl rfl ?_ | refine nx0 ?_
    rw [eqB rfl]
    repeat' (first | ((refine Qa rfl ?_); (first | refine Q1 ?_ | refine Q5 rfl ?_); (refine QX rfl rfl ?_)) | refine Qh ?_ | refine Qs ?_)
    first
    | (refine awp_ret ?_; exact ⟨_, rfl, rfl⟩)
    | exact ⟨_, rfl, rfl⟩
set_option maxHeartbeats 0 in
theorem consoleLine_c (X : Nat → Prop) (s : List UInt8) (hs : s.length ≤ 9223372036854775807) : ACalls (E0 X) 5 [.str s] [] (fun r H' => r = .bool true ∧ H' = []) := by
  refine ACalls.cut0 ?_ trivial
  have hl : (s.take 200).length ≤ 200 := by rw [List.length_take]; omega
  refine acalls_of Proofs.Tryd.func5 rfl Proofs.Tryd.ntmps5 (by kernel_rfl) rfl ?_
  intro hH hargs
  clear hH hargs
  repeat' (first | ((refine Qa rfl ?_); (first | refine Q0 ?_ | refine Q1 ?_ | refine Q8 rfl rfl rfl ?_ | refine QE rfl rfl ?_); (refine QX rfl rfl ?_)) | refine Qa rfl ?_ | refine Qh ?_ | refine Ql ?_ | refine Qo rfl ?_)
  refine st_sst (l := 0) (h := min s.length 200) (ys := s.take 200) (bnd_none) (bnd_some rfl (by omega)) (by omega) (by omega) (by rw [List.drop_zero, tk_min]) rfl rfl rfl ?_
  first | refine nx rfl rfl ?_ | refine nx0 ?_
  repeat' (first | ((refine Qa rfl ?_); (first | refine Q0 ?_ | refine Q1 ?_); (refine QX rfl rfl ?_)) | refine Qa rfl ?_ | refine Qh ?_ | refine Ql ?_ | refine Qo rfl ?_)
  generalize s.take 200 = t at hl ⊢
  cases hp : parseP t with
  | none =>
    refine st_call (fun _ => rfl) rfl ?_
    refine ACalls.mono (acalls_pure (E := E0 X) (fun X => parse_c X t (by omega)) (by simp [IdsLtL, IdsLt]) _) ?_
    rintro r H' ⟨rfl, rfl⟩
    first | refine nx rfl rfl ?_ | refine nx0 ?_
    rw [hp]
    repeat' (first | ((refine Qa rfl ?_); (first | refine Q0 ?_ | refine Q1 ?_ | refine Q3 rfl rfl rfl ?_ | refine QC rfl rfl ?_ | refine QJ rfl rfl ?_); (refine QX rfl rfl ?_)) | refine Qa rfl ?_ | (refine Qb rfl ?_; try (refine QS rfl rfl rfl rfl rfl rfl rfl ?_; (refine QX rfl rfl ?_))) | refine Qh ?_ | refine Ql ?_ | refine Qo rfl ?_)
    refine st_call (fun _ => rfl) rfl ?_
    refine ACalls.mono (acalls_pure (E := E0 X) (fun X => printz_c X) ⟨opC_ids _, trivial⟩ _) ?_
    rintro r H' ⟨rfl, rfl⟩
    first | refine nx rfl rfl ?_ | refine nx0 ?_
    repeat' (first | ((refine Qa rfl ?_); (first | refine Q0 ?_ | refine Q1 ?_ | refine QC rfl rfl ?_); (refine QX rfl rfl ?_)) | refine Qa rfl ?_ | refine Qh ?_ | refine Ql ?_ | refine Qo rfl ?_)
    refine st_call (fun _ => rfl) rfl ?_
    refine ACalls.mono (acalls_pure (E := E0 X) (fun X => awake_c X) (by simp [IdsLtL]) _) ?_
    rintro r H' ⟨rfl, rfl⟩
    first | refine nx rfl rfl ?_ | refine nx0 ?_
    repeat' (first | ((refine Qa rfl ?_); (first | refine Q0 ?_ | refine Q1 ?_ | refine Q5 rfl ?_ | refine QD rfl ?_); (refine QX rfl rfl ?_)) | refine Qh ?_ | refine Qi rfl ?_ | refine Qs ?_)
    first
    | (refine awp_ret ?_; exact ⟨_, rfl, rfl⟩)
    | exact ⟨_, rfl, rfl⟩
  | some o =>
    have h1 := parseP_line hp
    have hP : printP o = some t := by rw [printP, h1, if_pos hp]
    refine st_call (fun _ => rfl) rfl ?_
    refine ACalls.mono (acalls_pure (E := E0 X) (fun X => parse_c X t (by omega)) (by simp [IdsLtL, IdsLt]) _) ?_
    rintro r H' ⟨rfl, rfl⟩
    first | refine nx rfl rfl ?_ | refine nx0 ?_
    rw [hp]
    repeat' (first | ((refine Qa rfl ?_); (first | refine Q0 ?_ | refine Q1 ?_ | refine Q3 rfl rfl rfl ?_ | refine QC rfl rfl ?_ | refine QJ rfl rfl ?_); (refine QX rfl rfl ?_)) | refine Qa rfl ?_ | (refine Qb rfl ?_; try (refine QS rfl rfl rfl rfl rfl rfl rfl ?_; (refine QX rfl rfl ?_))) | refine Qh ?_ | refine Ql ?_ | refine Qo rfl ?_)
    refine st_call (fun _ => rfl) rfl ?_
    refine ACalls.mono (acalls_pure (E := E0 X) (fun X => print_c X o (parseP_B hp)) ⟨opC_ids _, trivial⟩ _) ?_
    rintro r H' ⟨rfl, rfl⟩
    first | refine nx rfl rfl ?_ | refine nx0 ?_
    rw [hP]
    repeat' (first | ((refine Qa rfl ?_); (first | refine Q0 ?_ | refine Q1 ?_ | refine QC rfl rfl ?_); (refine QX rfl rfl ?_)) | refine Qa rfl ?_ | refine Qh ?_ | refine Ql ?_ | refine Qo rfl ?_)
    refine st_call (fun _ => rfl) rfl ?_
    refine ACalls.mono (acalls_pure (E := E0 X) (fun X => awake_c X) (by simp [IdsLtL]) _) ?_
    rintro r H' ⟨rfl, rfl⟩
    first | refine nx rfl rfl ?_ | refine nx0 ?_
    repeat' (first | ((refine Qa rfl ?_); (first | refine Q0 ?_ | refine Q1 ?_ | refine Q2 rfl ?_ | refine Q5 rfl ?_ | refine QD rfl ?_); (refine QX rfl rfl ?_)) | refine Qh ?_ | refine Qs ?_)
    rw [decide_eq_true (rfl : t = t)]
    skip
    first
    | (refine awp_ret ?_; exact ⟨_, rfl, rfl⟩)
    | exact ⟨_, rfl, rfl⟩
set_option maxHeartbeats 0 in
theorem consoleError_c (X : Nat → Prop) (n : Int) (hn : i64B n) : ACalls (E0 X) 6 [.int .i64 n] [] (fun r H' => r = .bool true ∧ H' = []) := by
  refine ACalls.cut0 ?_ trivial
  refine acalls_of Proofs.Tryd.func6 rfl Proofs.Tryd.ntmps6 (by kernel_rfl) rfl ?_
  intro hH hargs
  clear hH hargs
  repeat' (first | ((refine Qa rfl ?_); (refine Q1 ?_); (refine QX rfl rfl ?_)) | refine Qa rfl ?_ | refine Qh ?_ | refine Ql ?_ | refine Qo rfl ?_)
  refine st_call (fun _ => rfl) rfl ?_
  refine ACalls.mono (acalls_pure (E := E0 X) (fun X => awake_c X) (by simp [IdsLtL]) _) ?_
  rintro r H' ⟨rfl, rfl⟩
  first | refine nx rfl rfl ?_ | refine nx0 ?_
  repeat' (first | ((refine Qa rfl ?_); (refine Q0 ?_); (refine QX rfl rfl ?_)) | refine Qa rfl ?_)
  refine st_call (fun _ => rfl) rfl ?_
  refine ACalls.mono (acalls_pure (E := E0 X) (fun X => err_c X n hn) (by simp [IdsLtL, IdsLt]) _) ?_
  rintro r H' ⟨rfl, rfl⟩
  first | refine nx rfl rfl ?_ | refine nx0 ?_
  repeat' (first | ((refine Qa rfl ?_); (refine Q0 ?_); (refine QX rfl rfl ?_)) | refine Qa rfl ?_)
  refine st_call (fun _ => rfl) rfl ?_
  refine ACalls.mono (acalls_pure (E := E0 X) (fun X => rerr_c X n hn) (by simp [IdsLtL, IdsLt]) _) ?_
  rintro r H' ⟨rfl, rfl⟩
  first | refine nx rfl rfl ?_ | refine nx0 ?_
  repeat' (first | ((refine Qa rfl ?_); (first | refine Q1 ?_ | refine Q2 rfl ?_ | refine Q5 rfl ?_); (refine QX rfl rfl ?_)) | refine Qh ?_ | refine Qs ?_)
  rw [decide_eq_true (rfl : errW n = errW n)]
  skip
  first
  | (refine awp_ret ?_; exact ⟨_, rfl, rfl⟩)
  | exact ⟨_, rfl, rfl⟩
theorem prints_c (X : Nat → Prop) (o : Opv) (ho : OpS o) : ACalls (E0 X) 13 [opS o] [] (fun r H' => r = resS (printP o) ∧ H' = []) := by
  have h := rprint_c X o ho
  rw [prints_eq] at h
  exact h
/-- Numbers that an int can hold. -/
structure OpI (o : Opv) : Prop where
  k : i64B o.kind
  n : i64B o.n
  a : i64B o.a
  b : i64B o.b
  tr : ∀ t ∈ o.tears, i64B t.k ∧ i64B t.n
theorem short_B {o : Opv} (h : OpI o) : OpB o.short := by
  refine ⟨h.k, h.n, h.a, h.b, ?_, ?_, ?_, ?_, fun t ht => h.tr t (List.mem_of_mem_take ht)⟩
  · show (o.key.take 300).length ≤ 1000; rw [List.length_take]; omega
  · show (o.val.take 300).length ≤ 1000; rw [List.length_take]; omega
  · show (o.keep.take 40).length ≤ 1000; rw [List.length_take]; omega
  · show (o.tears.take 6).length ≤ 1000; rw [List.length_take]; omega
theorem short_S (o : Opv) : OpS o.short := by
  refine ⟨?_, ?_, ?_, ?_⟩
  · show (o.key.take 300).length ≤ 600; rw [List.length_take]; omega
  · show (o.val.take 300).length ≤ 600; rw [List.length_take]; omega
  · show (o.keep.take 40).length ≤ 1000; rw [List.length_take]; omega
  · show (o.tears.take 6).length ≤ 399; rw [List.length_take]; omega
set_option maxHeartbeats 0 in
theorem consolePrint_c (X : Nat → Prop) (o : Opv) (ho : OpI o) : ACalls (E0 X) 4 [opS o] [] (fun r H' => r = .bool true ∧ H' = []) := by
  refine ACalls.cut0 ?_ trivial
  have hB := short_B ho
  have hS := short_S o
  have hc := short_c
  refine acalls_of Proofs.Tryd.func4 rfl Proofs.Tryd.ntmps4 (by kernel_rfl) rfl ?_
  intro hH hargs
  clear hH hargs
  repeat' (first | ((refine Qa rfl ?_); (first | refine Q1 ?_ | refine Q3 rfl rfl rfl ?_ | refine QK rfl ?_); (refine QX rfl rfl ?_)) | refine Qa rfl ?_ | refine Qh ?_ | refine Ql ?_ | refine Qo rfl ?_)
  refine st_call (fun _ => rfl) rfl ?_
  refine ACalls.mono (acalls_pure (E := E0 X) (fun X => short_c X o) ⟨opC_ids _, trivial⟩ _) ?_
  rintro r H' ⟨rfl, rfl⟩
  first | refine nx rfl rfl ?_ | refine nx0 ?_
  generalize o.short = p at hB hS ⊢
  repeat' (first | ((refine Qa rfl ?_); (refine Q3 rfl rfl rfl ?_); (refine QX rfl rfl ?_)) | refine Qa rfl ?_ | (refine Qb rfl ?_; try (refine QS rfl rfl rfl rfl rfl rfl rfl ?_; (refine QX rfl rfl ?_))) | refine Qh ?_ | refine Ql ?_ | refine Qo rfl ?_)
  cases hp : printP p with
  | none =>
    have g1 : ∀ X, ACalls (E0 X) 12 [opS p] [] (fun r H' => r = .tup [.str [], .bool false] ∧ H' = []) := fun X => by
      have h := print_c X p hB
      rw [hp] at h
      exact h
    have g2 : ∀ X, ACalls (E0 X) 13 [opS p] [] (fun r H' => r = .tup [.str [], .bool false] ∧ H' = []) := fun X => by
      have h := prints_c X p hS
      rw [hp] at h
      exact h
    refine st_call (fun _ => rfl) rfl ?_
    refine ACalls.mono (acalls_pure (E := E0 X) g1 ⟨opC_ids _, trivial⟩ _) ?_
    rintro r H' ⟨rfl, rfl⟩
    first | refine nx rfl rfl ?_ | refine nx0 ?_
    repeat' (first | ((refine Qa rfl ?_); (first | refine Q0 ?_ | refine Q1 ?_ | refine Q3 rfl rfl rfl ?_ | refine QC rfl rfl ?_); (refine QX rfl rfl ?_)) | refine Qa rfl ?_ | refine Qh ?_ | refine Ql ?_ | refine Qo rfl ?_)
    refine st_call (fun _ => rfl) rfl ?_
    refine ACalls.mono (acalls_pure (E := E0 X) g2 ⟨opC_ids _, trivial⟩ _) ?_
    rintro r H' ⟨rfl, rfl⟩
    first | refine nx rfl rfl ?_ | refine nx0 ?_
    repeat' (first | ((refine Qa rfl ?_); (first | refine Q0 ?_ | refine Q1 ?_ | refine Q2 rfl ?_ | refine Q5 rfl ?_ | refine QC rfl rfl ?_ | refine QI rfl rfl rfl ?_); (refine QX rfl rfl ?_)) | refine Qa rfl ?_ | refine Qh ?_ | refine Ql ?_ | refine Qm ?_ | refine Qo rfl ?_ | refine Qq rfl ?_)
    refine st_call (fun _ => rfl) rfl ?_
    refine ACalls.mono (acalls_pure (E := E0 X) (fun X => parse_c X [] (by decide)) (by simp [IdsLtL, IdsLt]) _) ?_
    rintro r H' ⟨rfl, rfl⟩
    first | refine nx rfl rfl ?_ | refine nx0 ?_
    repeat' (first | ((refine Qa rfl ?_); (first | refine Q0 ?_ | refine Q1 ?_ | refine QC rfl rfl ?_ | refine QJ rfl rfl ?_); (refine QX rfl rfl ?_)) | refine Qa rfl ?_ | (refine Qb rfl ?_; try (refine QS rfl rfl rfl rfl rfl rfl rfl ?_; (refine QX rfl rfl ?_))) | refine Qh ?_ | refine Ql ?_ | refine Qo rfl ?_)
    refine st_call (fun _ => rfl) rfl ?_
    refine ACalls.mono (acalls_pure (E := E0 X) (fun X => awake_c X) (by simp [IdsLtL]) _) ?_
    rintro r H' ⟨rfl, rfl⟩
    first | refine nx rfl rfl ?_ | refine nx0 ?_
    repeat' (first | ((refine Qa rfl ?_); (first | refine Q0 ?_ | refine Q1 ?_ | refine Q5 rfl ?_ | refine QD rfl ?_); (refine QX rfl rfl ?_)) | refine Qh ?_ | refine Qi rfl ?_ | refine Qs ?_)
    first
    | (refine awp_ret ?_; exact ⟨_, rfl, rfl⟩)
    | exact ⟨_, rfl, rfl⟩
  | some s =>
    have hs : parseP (lineO p) = some p ∧ s = lineO p := by
      unfold printP at hp
      split at hp
      · rename_i h; cases hp; exact ⟨h, rfl⟩
      · cases hp
    obtain ⟨hs1, rfl⟩ := hs
    have g1 : ∀ X, ACalls (E0 X) 12 [opS p] [] (fun r H' => r = .tup [.str (lineO p), .bool true] ∧ H' = []) := fun X => by
      have h := print_c X p hB
      rw [hp] at h
      exact h
    have g2 : ∀ X, ACalls (E0 X) 13 [opS p] [] (fun r H' => r = .tup [.str (lineO p), .bool true] ∧ H' = []) := fun X => by
      have h := prints_c X p hS
      rw [hp] at h
      exact h
    have hll := lineO_len hB
    refine st_call (fun _ => rfl) rfl ?_
    refine ACalls.mono (acalls_pure (E := E0 X) g1 ⟨opC_ids _, trivial⟩ _) ?_
    rintro r H' ⟨rfl, rfl⟩
    first | refine nx rfl rfl ?_ | refine nx0 ?_
    repeat' (first | ((refine Qa rfl ?_); (first | refine Q0 ?_ | refine Q1 ?_ | refine Q3 rfl rfl rfl ?_ | refine QC rfl rfl ?_); (refine QX rfl rfl ?_)) | refine Qa rfl ?_ | refine Qh ?_ | refine Ql ?_ | refine Qo rfl ?_)
    refine st_call (fun _ => rfl) rfl ?_
    refine ACalls.mono (acalls_pure (E := E0 X) g2 ⟨opC_ids _, trivial⟩ _) ?_
    rintro r H' ⟨rfl, rfl⟩
    first | refine nx rfl rfl ?_ | refine nx0 ?_
    repeat' (first | ((refine Qa rfl ?_); (first | refine Q0 ?_ | refine Q1 ?_ | refine Q2 rfl ?_ | refine Q5 rfl ?_ | refine QC rfl rfl ?_ | refine QI rfl rfl rfl ?_); (refine QX rfl rfl ?_)) | refine Qh ?_ | refine Ql ?_ | refine Qo rfl ?_ | refine Qs ?_)
    rw [decide_eq_false (show ¬ (lineO p ≠ lineO p) from fun h => h rfl)]
    repeat' (first | ((refine Qa rfl ?_); (refine Q0 ?_); (refine QX rfl rfl ?_)) | refine Qa rfl ?_ | refine Ql ?_ | refine Qm ?_ | refine Qo rfl ?_ | refine Qq rfl ?_)
    refine st_call (fun _ => rfl) rfl ?_
    refine ACalls.mono (acalls_pure (E := E0 X) (fun X => parse_c X (lineO p) (by omega)) (by simp [IdsLtL, IdsLt]) _) ?_
    rintro r H' ⟨rfl, rfl⟩
    first | refine nx rfl rfl ?_ | refine nx0 ?_
    rw [hs1]
    repeat' (first | ((refine Qa rfl ?_); (first | refine Q0 ?_ | refine Q1 ?_ | refine QC rfl rfl ?_ | refine QJ rfl rfl ?_); (refine QX rfl rfl ?_)) | refine Qa rfl ?_ | (refine Qb rfl ?_; try (refine QS rfl rfl rfl rfl rfl rfl rfl ?_; (refine QX rfl rfl ?_))) | refine Qh ?_ | refine Ql ?_ | refine Qo rfl ?_)
    refine st_call (fun _ => rfl) rfl ?_
    refine ACalls.mono (acalls_pure (E := E0 X) (fun X => awake_c X) (by simp [IdsLtL]) _) ?_
    rintro r H' ⟨rfl, rfl⟩
    first | refine nx rfl rfl ?_ | refine nx0 ?_
    repeat' (first | ((refine Qa rfl ?_); (first | refine Q0 ?_ | refine Q3 rfl rfl rfl ?_ | refine QD rfl ?_); (refine QX rfl rfl ?_)) | refine Qa rfl ?_)
    refine st_call (fun _ => rfl) rfl ?_
    refine ACalls.mono (acalls_pure (E := E0 X) (fun X => req_c X p p (by have := hB.key; omega) (by have := hB.val; omega) (by have := hB.keep; omega) (by have := hB.tears; omega)) ⟨opC_ids _, opC_ids _, trivial⟩ _) ?_
    rintro r H' ⟨rfl, rfl⟩
    first | refine nx rfl rfl ?_ | refine nx0 ?_
    rw [eqB rfl]
    repeat' (first | ((refine Qa rfl ?_); (first | refine Q1 ?_ | refine Q5 rfl ?_); (refine QX rfl rfl ?_)) | refine Qh ?_ | refine Qs ?_)
    first
    | (refine awp_ret ?_; exact ⟨_, rfl, rfl⟩)
    | exact ⟨_, rfl, rfl⟩
end Go.Abs
namespace Go.Abs
open Go.RowKit Go.ChangeShapes Go.WideShapes
theorem own0 : ownKnob Proofs.Tryd.prog.godebug = none := by kernel_rfl
def LAID : List (String × DataW Unit) := [("math/bits.deBruijn32tab", Proofs.YthiglfibmbnbeaaDoor.Rows.laid_math_bits_deBruijn32tab), ("math/bits.deBruijn64tab", Proofs.YthiglfibmbnbeaaDoor.Rows.laid_math_bits_deBruijn64tab), ("internal/strconv.uint64pow10", Proofs.YthiglfibmbnbeaaDoor.Rows.laid_internal_strconv_uint64pow10), ("unicode/utf8.acceptRanges", Proofs.YthiglfibmbnbeaaDoor.Rows.laid_unicode_utf8_acceptRanges), ("unicode/utf8.first", Proofs.YthiglfibmbnbeaaDoor.Rows.laid_unicode_utf8_first)]
theorem gPow : Proofs.Tryd.prog.globalNamed "internal/strconv.uint64pow10" = some 3 := by kernel_rfl
theorem pow_of_laid {W : World} (h : laidMetH Proofs.Tryd.prog LAID W) : Lib.TabIs Proofs.Tryd.prog W "internal/strconv.uint64pow10" .u64 powTab := by
  rw [MakeChecks.laidMetH_plain _ _ _ (by kernel_rfl)] at h
  obtain ⟨ps, ⟨g0, t0, c0, f0, p0, q0, _, _, _, _, ⟨g1, t1, c1, f1, p1, q1, _, _, _, _, ⟨g2, t2, cs, f2, p2, q2, hg, ht, hvar, hd, _, _⟩, _⟩, _⟩, _⟩ := h
  obtain rfl := Option.some.inj (gPow.symm.trans hg)
  obtain rfl := Option.some.inj ((show (Proofs.Tryd.prog.globals[3]?).map (·.type) = some 122 by kernel_rfl).symm.trans ht)
  have hD : (Proofs.YthiglfibmbnbeaaDoor.Rows.laid_internal_strconv_uint64pow10 : DataW Unit) = Lib.tabData .u64 powTab := rfl
  rw [hD] at hd
  unfold Lib.TabIs
  rw [hvar, ← Lib.cells_of_tab (e := 108) (n := 20) (by kernel_rfl) (by kernel_rfl) (by kernel_rfl) (by kernel_rfl) hd]
theorem glob_of_laid {W : World} (h : laidMetH Proofs.Tryd.prog LAID W) : Glob (E0 fun _ => False) [] W := fun g => by
  by_cases hg : g = 3
  · subst hg
    have hv := pow_of_laid h
    have hv2 := hv
    unfold Lib.TabIs World.var? at hv2
    rw [gPow, Option.bind_some] at hv2
    have e : (E0 fun _ => False).G 3 = .gp .u64 powTab := rfl
    rw [e]
    simp only [Env.Rel, Abs.Rel]
    cases hh : W.heap[3]? with
    | none => rw [hh] at hv2; cases hv2
    | some o =>
      rw [hh] at hv2
      cases o with
      | cells c el fz =>
        simp only [Option.some.injEq] at hv2
        have hlt : 3 < W.heap.size := (Array.getElem?_eq_some_iff.1 hh).1
        refine ⟨3, el, rfl, ?_, fun _ => ⟨_, rfl, hlt, by simp, fun h => h, fun j u hu => ?_⟩⟩
        · unfold World.shape?
          rw [hh]
          simp [hv2]
        · have hadd : (⟨3, 0, none⟩ : Addr).add j = ⟨3, j, none⟩ := by unfold Addr.add; split <;> simp_all
          rw [hadd]
          unfold World.cell?
          rw [hh]
          show c[j]? = some u
          rw [hv2, List.getElem?_toArray]
          exact hu
      | _ => cases hv2
  · have e : (E0 fun _ => False).G g = .any := by simp [E0, hg]
    rw [e]
    simp [Env.Rel, Abs.Rel]
theorem law_trueG {E : Env} {H : Type} {enc : TypeId × Value → H} {W : World} {f : FuncId} {fn : Func} {s : ChangeSpec} {apart fresh handsOn again : Bool} {args : Array Value} {avs : List AV} {ds gs : List (DataW H)} {before : List MemPlace} {tb : TypeId}
    (hok : E.Ok) (hG : Glob E [] W)
    (hl : laidOutB E.P = true) (hvars : s.vars = []) (hp : (fn.params.toList.all fun t => E.P.readableRec t && decide (t < E.P.types.size)) = true)
    (hrt : fn.resultTypes = #[tb]) (htb : E.P.underlying tb = some .bool)
    (hres : (s.fn H (ds ++ gs)).results = [.lit (.bool true)]) (hargs : (s.fn H (ds ++ gs)).args = ds) (hv0 : (s.fn H (ds ++ gs)).vars = [])
    (hW : DataW.Whole enc E.P fn.params.toList s.vars apart W args.toList ds gs before)
    (hX : ∀ b, ¬ E.X b) (hr : E.RelL [] W avs args.toList) (hc : ACalls E f avs [] (fun r H' => r = .bool true ∧ H' = [])) :
    Calls E.P f args W fun e W' => ∃ v, e = .returned v ∧ s.post enc E.P fn apart fresh handsOn again W args v W' := by
  have hsim : E.Sim [] W [] := ⟨rfl, fun _ _ h => by simp at h, fun _ h => by simp at h, fun _ _ _ h => by simp at h, fun b hb => absurd hb (hX b), fun b hb => absurd hb (by simp)⟩
  have h := hc.2 [] W args.toList hok hG hr hsim
  rw [Array.toArray_toList] at h
  refine h.mono ?_
  rintro e W' ⟨v, m', r, H', rfl, hext, hrel, _, rfl, _⟩
  simp only [Abs.Rel] at hrel
  subst hrel
  exact ⟨_, rfl, post_true hl hvars hp hrt htb hres hargs hv0 hW ⟨hext.os, hext.tape, hext.output, hext.size, fun k hk => hext.keep k hk (by simp)⟩⟩
theorem list_of2 {α : Type} {f : α → AV} {P : α → Prop} : ∀ {es : List AV}, (∀ y ∈ es, ∃ a, y = f a ∧ P a) → ∃ l : List α, es = l.map f ∧ ∀ a ∈ l, P a
  | [], _ => ⟨[], rfl, fun a h => by simp at h⟩
  | y :: es, h => by
    obtain ⟨a, rfl, ha⟩ := h y (by simp)
    obtain ⟨l, rfl, hl⟩ := list_of2 fun z hz => h z (List.mem_cons_of_mem _ hz)
    refine ⟨a :: l, rfl, fun b hb => ?_⟩
    rcases List.mem_cons.1 hb with rfl | hb
    · exact ha
    · exact hl b hb
theorem int_of1 {X : Nat → Prop} {ys : List AV} (h : hasC (E0 X) 1 3 ys) : ∃ n, ys = [.int .i64 n] ∧ i64B n := h
theorem int_of {X : Nat → Prop} {x : AV} (h : hasC (E0 X) 1 3 [x]) : ∃ n, x = .int .i64 n ∧ i64B n := by
  obtain ⟨n, h2, h3⟩ := int_of1 h
  simp only [List.cons.injEq, and_true] at h2
  exact ⟨n, h2, h3⟩
theorem str_of {X : Nat → Prop} {x : AV} (h : hasC (E0 X) 1 9 [x]) : ∃ s : List UInt8, x = .str s ∧ s.length ≤ 9223372036854775807 := by
  have h1 : ∃ s, [x] = [.str s] ∧ s.length ≤ maxLen := h
  obtain ⟨s, h2, h3⟩ := h1
  simp only [List.cons.injEq, and_true] at h2
  exact ⟨s, h2, h3⟩
theorem bytes_of1 {X : Nat → Prop} {ys : List AV} (h : hasC (E0 X) 3 22 ys) : ∃ l : List UInt8, ys = [.sl 1 (l.map u8A)] := by
  have h1 : ∃ es, ys = [.sl 1 es] ∧ es.length ≤ maxLen ∧ ∀ y ∈ es, ∃ zs, y = elA false zs ∧ ∃ n, zs = [.int .u8 n] ∧ IntKind.u8.min ≤ n ∧ n ≤ IntKind.u8.max := h
  obtain ⟨es, rfl, _, h3⟩ := h1
  obtain ⟨l, rfl, _⟩ := list_of2 (f := u8A) (P := fun _ => True) fun y hy => by
    obtain ⟨zs, rfl, n, rfl, h4, h5⟩ := h3 y hy
    refine ⟨UInt8.ofNat n.toNat, ?_, trivial⟩
    have h6 : (0 : Int) ≤ n := h4
    have h7 : n ≤ (255 : Int) := h5
    show AV.int .u8 n = .int .u8 ((UInt8.ofNat n.toNat).toNat : Int)
    rw [UInt8.toNat_ofNat']
    congr 1
    omega
  exact ⟨l, rfl⟩
theorem bools_of1 {X : Nat → Prop} {ys : List AV} (h : hasC (E0 X) 3 23 ys) : ∃ l : List Bool, ys = [.sl 1 (l.map boA)] := by
  have h1 : ∃ es, ys = [.sl 1 es] ∧ es.length ≤ maxLen ∧ ∀ y ∈ es, ∃ zs, y = elA false zs ∧ ∃ b, zs = [.bool b] := h
  obtain ⟨es, rfl, _, h3⟩ := h1
  obtain ⟨l, rfl, _⟩ := list_of2 (f := boA) (P := fun _ => True) fun y hy => by
    obtain ⟨zs, rfl, b, rfl⟩ := h3 y hy
    exact ⟨b, rfl, trivial⟩
  exact ⟨l, rfl⟩
theorem tears_of1 {X : Nat → Prop} {ys : List AV} (h : hasC (E0 X) 3 24 ys) : ∃ l : List Tr, ys = [.sl 2 (l.map trA)] ∧ ∀ t ∈ l, i64B t.k ∧ i64B t.n := by
  have h1 : ∃ es, ys = [.sl 2 es] ∧ es.length ≤ maxLen ∧ ∀ y ∈ es, ∃ zs, y = elA true zs ∧ hasF (E0 X) (hasC (E0 X) 1) [(0, 3), (1, 3)] zs := h
  obtain ⟨es, rfl, _, h3⟩ := h1
  obtain ⟨l, rfl, hl⟩ := list_of2 (f := trA) (P := fun t => i64B t.k ∧ i64B t.n) fun y hy => by
    obtain ⟨zs, rfl, _, _, rfl, ⟨m0, rfl, g0⟩, _, _, rfl, ⟨m1, rfl, g1⟩, rfl⟩ := h3 y hy
    exact ⟨⟨m0, m1⟩, rfl, g0, g1⟩
  exact ⟨l, rfl, hl⟩
theorem op_of {X : Nat → Prop} {xs : List AV} (h : hasC (E0 X) 4 26 xs) : ∃ o : Opv, xs = opC o ∧ OpI o := by
  have h1 : hasF (E0 X) (hasC (E0 X) 3) [(0, 3), (1, 22), (2, 22), (3, 3), (4, 3), (5, 3), (6, 23), (7, 24)] xs := h
  obtain ⟨_, _, rfl, ⟨n0, rfl, g0⟩, a, _, rfl, ha, b, _, rfl, hb, _, _, rfl, ⟨n3, rfl, g3⟩, _, _, rfl, ⟨n4, rfl, g4⟩, _, _, rfl, ⟨n5, rfl, g5⟩, c, _, rfl, hc, d, _, rfl, hd, rfl⟩ := h1
  obtain ⟨k, rfl⟩ := bytes_of1 ha
  obtain ⟨v, rfl⟩ := bytes_of1 hb
  obtain ⟨q, rfl⟩ := bools_of1 hc
  obtain ⟨t, rfl, ht⟩ := tears_of1 hd
  exact ⟨⟨n0, k, v, n3, n4, n5, q, t⟩, rfl, g0, g3, g4, g5, ht⟩
theorem arg_avS {E : Env} {H : Type} {enc : TypeId × Value → H} {W : World} (hok : E.Ok) (hX : ∀ b, ¬ E.X b) {f : Nat} {t : TypeId} {fs : List (Nat × TypeId)} {v : Value} {d : DataW H} {ps : List MemPlace} {base : Nat} (hp : plainT E f t = true) (hk : (E.ti t).k = .struct fs)
    (hval : Value.okWide E.P W .any base t v) (h : DataW.Trod enc E.P W 0 (fun _ => true) true t v d ps) : ∃ xs, E.Rel [] W (.agg xs) v ∧ hasC E f t xs := by
  obtain ⟨fuel, hf⟩ := h
  obtain ⟨xs, h1, h2, h3⟩ := trod_av hok hX f fuel t _ _ hp hf
  have ht : Nat.blt t E.n = true := by
    cases f with
    | zero => simp [plainT] at hp
    | succ f =>
      simp only [plainT, Bool.and_eq_true] at hp
      exact hp.1
  obtain ⟨F, hF, -⟩ := tk_struct hok ht hk
  obtain ⟨cs, rfl, -⟩ := okWide_struct hF hval
  exact ⟨xs, ⟨cs.toList, by simp, h1⟩, h2⟩
/-- A start in which the tables lie meets the condition. -/
theorem start_met (os : Os) (args : Array Value) : laidMetH Proofs.Tryd.prog LAID ((World.laidAll Proofs.Tryd.prog os LAID).forCall (fun _ _ => 0) ⟨#[], args, []⟩).memory := by
  rw [MakeChecks.laidMetH_plain _ _ _ (by kernel_rfl)]
  exact laidMet_laidAll _ (by kernel_rfl) (by kernel_rfl)
end Go.Abs

