/- console.words. Joined texts, each with what its own name promises; no condition beyond those stated. -/
import Derived.Test.YthiglfibmbnbeaaDoorND
namespace Go.Abs
attribute [local irreducible] AStep aops AWp Nx awM APanic
def i64B (n : Int) : Prop := -9223372036854775808 ≤ n ∧ n ≤ 9223372036854775807
/-- Numbers that an int can hold, slices of a bearable length. -/
structure OpB (o : Opv) : Prop where
  k : i64B o.kind
  n : i64B o.n
  a : i64B o.a
  b : i64B o.b
  key : o.key.length ≤ 1000
  val : o.val.length ≤ 1000
  keep : o.keep.length ≤ 1000
  tears : o.tears.length ≤ 1000
  tr : ∀ t ∈ o.tears, i64B t.k ∧ i64B t.n
def crW (o : Opv) (i : Nat) : List (List UInt8) := [99, 114, 97, 115, 104] :: chW o.keep :: (o.tears.take i).map tearW
theorem hok_crW (o : Opv) (i : Nat) : HOk 1 [some (.arr ((crW o i).map strA) 9)] := fun j a ha => by
  match j, ha with
  | 0, ha => cases ha; exact ids_str _
theorem crW_succ {o : Opv} {i : Nat} {u : Tr} (h : o.tears[i]? = some u) : crW o (i + 1) = crW o i ++ [tearW u] := by
  unfold crW
  rw [List.take_add_one, h]
  simp
theorem crW_len {o : Opv} {i : Nat} (h : i ≤ o.tears.length) : (crW o i).length = i + 2 := by
  unfold crW
  simp; omega
theorem dec_len (k : Nat) : ∀ u : Nat, u < 10 ^ (k + 1) → (Lib.decDigits u).length ≤ k + 1 := fun u h => by
  rw [Lib.decDigits_length]
  induction k generalizing u with
  | zero => rw [Lib.nDigits_small (by simpa using h)]; omega
  | succ k ih =>
    by_cases h10 : u < 10
    · rw [Lib.nDigits_small h10]; omega
    · rw [Lib.nDigits_big h10]
      have := ih (u / 10) (by rw [Nat.pow_succ] at h; omega)
      omega
theorem itoa_len (n : Int) (h : i64B n) : (Lib.itoa n).length ≤ 20 := by
  obtain ⟨h1, h2⟩ := h
  unfold Lib.itoa
  split
  · have := dec_len 18 n.natAbs (by omega)
    simp; omega
  · have := dec_len 18 n.toNat (by omega)
    omega
set_option maxHeartbeats 0 in
theorem words_c (X : Nat → Prop) (o : Opv) (ho : OpB o) : ACalls (E0 X) 24 [opS o] [] (fun r H' => r = .sl 1 ((wordsO o).map strA) ∧ H' = []) := by
  refine ACalls.cut0 (ACalls.wkR (R := fun r _ => Wk r (.sl 1 ((wordsO o).map strA))) ?_ fun r H' h => ⟨_, rfl, h⟩) (ids_str _)
  refine acalls_of Proofs.Tryd.func24 rfl Proofs.Tryd.ntmps24 (by kernel_rfl) rfl ?_
  intro hH hargs
  clear hH hargs
  repeat' (first | ((refine Qa rfl ?_); (first | refine Q1 ?_ | refine Q3 rfl rfl rfl ?_ | refine Q4 rfl rfl rfl rfl rfl ?_ | refine QK rfl ?_); (refine QX rfl rfl ?_)) | refine Qa rfl ?_ | refine Qh ?_ | refine Ql ?_ | refine Qo rfl ?_)
  refine st_call (fun _ => rfl) rfl ?_
  refine ACalls.mono (acalls_pure (E := E0 X) (fun X => itoa_c X o.n ho.n.1 ho.n.2) (by simp [IdsLtL, IdsLt]) _) ?_
  rintro r H' ⟨rfl, rfl⟩
  first | refine nx rfl rfl ?_ | refine nx0 ?_
  repeat' (first | ((refine Qa rfl ?_); (first | refine Q1 ?_ | refine Q2 rfl ?_ | refine Q3 rfl rfl rfl ?_ | refine Q4 rfl rfl rfl rfl rfl ?_); (refine QX rfl rfl ?_)) | refine Qh ?_ | refine Ql ?_ | refine Qn ?_ | refine Qo rfl ?_ | refine Qs ?_)
  refine awp_cond_dec rfl (fun h1 => ?_) (fun h1 => ?_)
  · repeat' (first | ((refine Qa rfl ?_); (first | refine Q3 rfl rfl rfl ?_ | refine Q4 rfl rfl rfl rfl rfl ?_); (refine QX rfl rfl ?_)) | refine Qa rfl ?_ | refine Ql ?_ | refine Qo rfl ?_)
    refine st_call (fun _ => rfl) rfl ?_
    refine ACalls.mono (acalls_pure (E := E0 X) (fun X => written_c X o.key (by have := ho.key; omega)) ⟨u8_ids' _, trivial⟩ _) ?_
    rintro r H' ⟨rfl, rfl⟩
    first | refine nx rfl rfl ?_ | refine nx0 ?_
    repeat' (first | ((refine Qa rfl ?_); (first | refine Q1 ?_ | refine QR rfl rfl rfl rfl rfl rfl rfl rfl rfl rfl rfl rfl ?_); (refine QX rfl rfl ?_)) | refine Qh ?_ | refine Qs ?_)
    refine awp_ret ?_
    refine ⟨_, rfl, ?_⟩
    rw [wordsO, if_pos h1]
    exact Wk.refl _
  repeat' (first | ((refine Qa rfl ?_); (first | refine Q1 ?_ | refine Q2 rfl ?_); (refine QX rfl rfl ?_)) | refine Qh ?_ | refine Ql ?_ | refine Qo rfl ?_ | refine Qs ?_)
  refine awp_cond_dec rfl (fun h3 => ?_) (fun h3 => ?_)
  · repeat' (first | ((refine Qa rfl ?_); (first | refine Q3 rfl rfl rfl ?_ | refine Q4 rfl rfl rfl rfl rfl ?_); (refine QX rfl rfl ?_)) | refine Qa rfl ?_ | refine Ql ?_ | refine Qo rfl ?_)
    refine st_call (fun _ => rfl) rfl ?_
    refine ACalls.mono (acalls_pure (E := E0 X) (fun X => written_c X o.key (by have := ho.key; omega)) ⟨u8_ids' _, trivial⟩ _) ?_
    rintro r H' ⟨rfl, rfl⟩
    first | refine nx rfl rfl ?_ | refine nx0 ?_
    repeat' (first | ((refine Qa rfl ?_); (first | refine Q1 ?_ | refine QR rfl rfl rfl rfl rfl rfl rfl rfl rfl rfl rfl rfl ?_); (refine QX rfl rfl ?_)) | refine Qh ?_ | refine Qs ?_)
    refine awp_ret ?_
    refine ⟨_, rfl, ?_⟩
    rw [wordsO, if_neg h1, if_pos h3]
    exact Wk.refl _
  repeat' (first | ((refine Qa rfl ?_); (first | refine Q1 ?_ | refine Q2 rfl ?_); (refine QX rfl rfl ?_)) | refine Qh ?_ | refine Ql ?_ | refine Qo rfl ?_ | refine Qs ?_)
  refine awp_cond_dec rfl (fun h2 => ?_) (fun h2 => ?_)
  · repeat' (refine Ql ?_)
    refine awp_region_auto2 [] [] (by exact rfl) (by kernel_rfl) ?_
    repeat' ((apply Qd rfl rfl rfl rfl); (first | refine Q3 rfl rfl rfl ?_ | refine Q4 rfl rfl rfl rfl rfl ?_); (exact QX rfl rfl ⟨rfl, rfl⟩))
    apply ds rfl rfl rfl rfl
    · refine st_call (fun _ => rfl) rfl ?_
      refine ACalls.mono (acalls_pure (E := E0 X) (fun X => written_c X o.key (by have := ho.key; omega)) ⟨u8_ids' _, trivial⟩ _) ?_
      rintro r H' ⟨rfl, rfl⟩
      first
      | exact nx rfl rfl ⟨rfl, rfl⟩
      | exact nx0 ⟨rfl, rfl⟩
    repeat' ((apply Qd rfl rfl rfl rfl); (first | refine Q3 rfl rfl rfl ?_ | refine Q4 rfl rfl rfl rfl rfl ?_); (exact QX rfl rfl ⟨rfl, rfl⟩))
    apply ds rfl rfl rfl rfl
    · refine st_call (fun _ => rfl) rfl ?_
      refine ACalls.mono (acalls_pure (E := E0 X) (fun X => written_c X o.val (by have := ho.val; omega)) ⟨u8_ids' _, trivial⟩ _) ?_
      rintro r H' ⟨rfl, rfl⟩
      first
      | exact nx rfl rfl ⟨rfl, rfl⟩
      | exact nx0 ⟨rfl, rfl⟩
    repeat' (first | ((apply Qd rfl rfl rfl rfl); (first | refine Q0 ?_ | refine Q1 ?_ | refine QR rfl rfl rfl rfl rfl rfl rfl rfl rfl rfl rfl rfl ?_); (exact QX rfl rfl ⟨rfl, rfl⟩)) | refine Qk ?_ | refine Qs ?_)
    refine awp_ret ?_
    refine ⟨_, rfl, ?_⟩
    rw [wordsO, if_neg h1, if_neg h3, if_pos h2]
    exact Wk.refl _
  repeat' (first | ((refine Qa rfl ?_); (first | refine Q1 ?_ | refine Q2 rfl ?_); (refine QX rfl rfl ?_)) | refine Qh ?_ | refine Ql ?_ | refine Qo rfl ?_ | refine Qs ?_)
  refine awp_cond_dec rfl (fun h6 => ?_) (fun h6 => ?_)
  · repeat' (first | ((refine Qa rfl ?_); (first | refine Q0 ?_ | refine Q1 ?_ | refine QR rfl rfl rfl rfl rfl rfl rfl rfl rfl rfl rfl rfl ?_); (refine QX rfl rfl ?_)) | refine Qh ?_ | refine Ql ?_ | refine Qo rfl ?_ | refine Qs ?_)
    refine awp_ret ?_
    refine ⟨_, rfl, ?_⟩
    rw [wordsO, if_neg h1, if_neg h3, if_neg h2, if_pos h6]
    exact Wk.refl _
  repeat' (first | ((refine Qa rfl ?_); (first | refine Q1 ?_ | refine Q2 rfl ?_); (refine QX rfl rfl ?_)) | refine Qh ?_ | refine Ql ?_ | refine Qo rfl ?_ | refine Qs ?_)
  refine awp_cond_dec rfl (fun h11 => ?_) (fun h11 => ?_)
  · repeat' (first | ((refine Qa rfl ?_); (first | refine Q0 ?_ | refine Q1 ?_ | refine QR rfl rfl rfl rfl rfl rfl rfl rfl rfl rfl rfl rfl ?_); (refine QX rfl rfl ?_)) | refine Qh ?_ | refine Ql ?_ | refine Qo rfl ?_ | refine Qs ?_)
    refine awp_ret ?_
    refine ⟨_, rfl, ?_⟩
    rw [wordsO, if_neg h1, if_neg h3, if_neg h2, if_neg h6, if_pos h11]
    exact Wk.refl _
  repeat' (first | ((refine Qa rfl ?_); (first | refine Q1 ?_ | refine Q2 rfl ?_); (refine QX rfl rfl ?_)) | refine Qh ?_ | refine Ql ?_ | refine Qo rfl ?_ | refine Qs ?_)
  refine awp_cond_dec rfl (fun h7 => ?_) (fun h7 => ?_)
  · repeat' (refine Ql ?_)
    refine awp_region_auto2 [] [] (by exact rfl) (by kernel_rfl) ?_
    repeat' ((apply Qd rfl rfl rfl rfl); (first | refine Q3 rfl rfl rfl ?_ | refine Q4 rfl rfl rfl rfl rfl ?_); (exact QX rfl rfl ⟨rfl, rfl⟩))
    apply ds rfl rfl rfl rfl
    · refine st_call (fun _ => rfl) rfl ?_
      refine ACalls.mono (acalls_pure (E := E0 X) (fun X => itoa_c X o.a ho.a.1 ho.a.2) (by simp [IdsLtL, IdsLt]) _) ?_
      rintro r H' ⟨rfl, rfl⟩
      first
      | exact nx rfl rfl ⟨rfl, rfl⟩
      | exact nx0 ⟨rfl, rfl⟩
    repeat' ((apply Qd rfl rfl rfl rfl); (first | refine Q3 rfl rfl rfl ?_ | refine Q4 rfl rfl rfl rfl rfl ?_); (exact QX rfl rfl ⟨rfl, rfl⟩))
    apply ds rfl rfl rfl rfl
    · refine st_call (fun _ => rfl) rfl ?_
      refine ACalls.mono (acalls_pure (E := E0 X) (fun X => itoa_c X o.b ho.b.1 ho.b.2) (by simp [IdsLtL, IdsLt]) _) ?_
      rintro r H' ⟨rfl, rfl⟩
      first
      | exact nx rfl rfl ⟨rfl, rfl⟩
      | exact nx0 ⟨rfl, rfl⟩
    repeat' (first | ((apply Qd rfl rfl rfl rfl); (first | refine Q1 ?_ | refine QR rfl rfl rfl rfl rfl rfl rfl rfl rfl rfl rfl rfl ?_); (exact QX rfl rfl ⟨rfl, rfl⟩)) | refine Qk ?_ | refine Qs ?_)
    refine awp_ret ?_
    refine ⟨_, rfl, ?_⟩
    rw [wordsO, if_neg h1, if_neg h3, if_neg h2, if_neg h6, if_neg h11, if_pos h7]
    exact Wk.refl _
  repeat' (first | ((refine Qa rfl ?_); (first | refine Q1 ?_ | refine Q2 rfl ?_); (refine QX rfl rfl ?_)) | refine Qh ?_ | refine Ql ?_ | refine Qo rfl ?_ | refine Qs ?_)
  refine awp_cond_dec rfl (fun h12 => ?_) (fun h12 => ?_)
  · repeat' (first | ((refine Qa rfl ?_); (first | refine Q3 rfl rfl rfl ?_ | refine Q4 rfl rfl rfl rfl rfl ?_); (refine QX rfl rfl ?_)) | refine Qa rfl ?_ | refine Ql ?_ | refine Qo rfl ?_)
    refine st_call (fun _ => rfl) rfl ?_
    refine ACalls.mono (acalls_pure (E := E0 X) (fun X => choices_c X o.keep (by have := ho.keep; omega)) ⟨bo_ids' _, trivial⟩ _) ?_
    rintro r H' ⟨rfl, rfl⟩
    first | refine nx rfl rfl ?_ | refine nx0 ?_
    repeat' (refine Qa rfl ?_)
    refine st_buildSlice_own (cs := [.str [99, 114, 97, 115, 104], .str (chW o.keep)]) rfl rfl rfl rfl rfl rfl rfl (.inr rfl) rfl (.inr rfl) ?_
    first | refine nx rfl rfl ?_ | refine nx0 ?_
    repeat' (first | ((refine Qa rfl ?_); (first | refine Q0 ?_ | refine Q1 ?_ | refine Q3 rfl rfl rfl ?_ | refine Q4 rfl rfl rfl rfl rfl ?_ | refine Q7 rfl rfl rfl ?_); (refine QX rfl rfl ?_)) | refine Qh ?_ | refine Ql ?_ | refine Qn ?_ | refine Qo rfl ?_)
    refine awp_loop2 (fun i : Nat => ⟨[(60, .int .i64 (i : Int)), (59, .int .i64 (o.tears.length : Int)), (58, .sl 2 (o.tears.map trA)), (4, .own 0 0 (i + 2))], [some (.arr ((crW o i).map strA) 9)]⟩) (fun i => i ≤ o.tears.length) (fun i => o.tears.length - i) 0 (Nat.zero_le _) ?_ ?_
    · refine imp_tidy [1] (os := [.arr ((crW o 0).map strA) 9]) (by simp) rfl ?_ ?_
      · refine fa_cons (ren_val rfl trivial) (fa_cons (ren_val ?_ trivial) (fa_cons (ren_val rfl (tr_ids _)) (fa_cons (ren_own rfl) fa_nil)))
        exact congrArg (fun n : Nat => AV.int .i64 (n : Int)) (List.length_map _)
      · exact os_cons rfl (renO_val rfl (ids_str (crW o 0))) os_nil
    intro i hi
    have hkb := ho.tears
    repeat' (first | ((refine Qa rfl ?_); (refine Q2 rfl ?_); (refine QX rfl rfl ?_)) | refine Qh ?_ | refine Ql ?_ | refine Qo rfl ?_)
    refine awp_cond_dec rfl (fun h5 => ?_) (fun h5 => ?_)
    · obtain ⟨u, hu⟩ : ∃ u, o.tears[i]? = some u := ⟨_, List.getElem?_eq_getElem (by omega)⟩
      have hub := ho.tr u (List.mem_of_getElem? hu)
      have hl1 := itoa_len u.k hub.1
      have hl2 := itoa_len u.n hub.2
      repeat' (first | refine Ql ?_ | refine Qm ?_ | refine Qn ?_)
      refine Qo rfl ?_
      repeat' (refine Qa rfl ?_)
      refine st_ixm hu rfl rfl rfl rfl rfl rfl rfl (by first | rfl | omega) rfl ?_
      first | refine nx rfl rfl ?_ | refine nx0 ?_
      repeat' (first | ((refine Qa rfl ?_); (first | refine Q3 rfl rfl rfl ?_ | refine QJ rfl rfl ?_); (refine QX rfl rfl ?_)) | (refine Qb rfl ?_; try (refine QS rfl rfl rfl rfl rfl rfl rfl ?_; (refine QX rfl rfl ?_))) | refine Qh ?_ | refine Qs ?_)
      refine awp_pre (Imp.trans (imp_freezeP (id := 1) (cs := [.int .i64 u.k, .int .i64 u.n]) rfl) (imp_cutk 1 (Nat.zero_le _) (hok_crW o i) rfl (by simp) (sl' := [(60, .int .i64 (i : Int)), (59, .int .i64 (o.tears.length : Int)), (58, .sl 2 (o.tears.map trA)), (4, .own 0 0 (i + 2)), (6, .fp [.int .i64 u.k, .int .i64 u.n])]) ?_)) ?_
      · refine fa_cons ⟨rfl, trivial⟩ (fa_cons ⟨rfl, trivial⟩ (fa_cons ⟨rfl, tr_ids _⟩ (fa_cons ⟨rfl, Nat.zero_lt_one⟩ (fa_cons ⟨rfl, ⟨trivial, trivial, trivial⟩⟩ fa_nil))))
      refine awp_region_any [10] [11] (by exact rfl) ?_
      refine any_lin (fuel := 0) [0, 1, 2, 3, 4, 5, 6, 7, 8, 9, 10, 11] (by exact rfl) (by kernel_rfl) (by kernel_rfl) ?_
      repeat' ((apply Qd rfl rfl rfl rfl); (first | refine Q0 ?_ | refine Q3 rfl rfl rfl ?_ | refine Q4 rfl rfl rfl rfl rfl ?_); (exact QX rfl rfl ⟨rfl, rfl⟩))
      apply ds rfl rfl rfl rfl
      · refine st_call (fun _ => rfl) rfl ?_
        refine ACalls.mono (acalls_pure (E := E0 X) (fun X => itoa_c X u.k hub.1.1 hub.1.2) (by simp [IdsLtL, IdsLt]) _) ?_
        rintro r H' ⟨rfl, rfl⟩
        first
        | exact nx rfl rfl ⟨rfl, rfl⟩
        | exact nx0 ⟨rfl, rfl⟩
      apply ds rfl rfl rfl rfl
      · refine st_sadd rfl rfl (by simp; omega) ?_
        first | exact nx rfl rfl ⟨rfl, rfl⟩ | exact nx0 ⟨rfl, rfl⟩
      repeat' ((apply Qd rfl rfl rfl rfl); (first | refine Q3 rfl rfl rfl ?_ | refine Q4 rfl rfl rfl rfl rfl ?_); (exact QX rfl rfl ⟨rfl, rfl⟩))
      apply ds rfl rfl rfl rfl
      · refine st_call (fun _ => rfl) rfl ?_
        refine ACalls.mono (acalls_pure (E := E0 X) (fun X => itoa_c X u.n hub.2.1 hub.2.2) (by simp [IdsLtL, IdsLt]) _) ?_
        rintro r H' ⟨rfl, rfl⟩
        first
        | exact nx rfl rfl ⟨rfl, rfl⟩
        | exact nx0 ⟨rfl, rfl⟩
      apply ds rfl rfl rfl rfl
      · refine st_sadd rfl rfl (by simp; omega) ?_
        first | exact nx rfl rfl ⟨rfl, rfl⟩ | exact nx0 ⟨rfl, rfl⟩
      repeat' ((first | refine Qc rfl rfl rfl ?_ | apply Qd rfl rfl rfl rfl); (refine QR rfl rfl rfl rfl rfl rfl rfl rfl rfl rfl rfl rfl ?_); (exact QX rfl rfl ⟨rfl, rfl⟩))
      refine ds_ef rfl rfl rfl ?_
      refine st_app (oid := some 0) (es := (crW o i).map strA) (out := (crW o (i + 1)).map strA) (n := i + 3) (dst_own rfl (by rw [List.length_map, crW_len hi])) (rfl) (oneEs_str [tearW u]) (by rw [crW_succ hu, List.map_append]; rfl) (by rw [List.length_map, crW_len hi]; rfl) (by show _ ≤ 9223372036854775807; omega) (by show _ * 16 ≤ _; omega) rfl rfl rfl rfl rfl rfl rfl rfl ?_
      first | refine nx rfl rfl ?_ | refine nx0 ?_
      repeat' (first | ((apply Qe rfl rfl rfl rfl; intro H9); (refine Q1 ?_); (exact QY rfl ⟨rfl, rfl⟩)) | refine Qk ?_ | refine Qw (by kernel_rfl) ?_)
      repeat' (first | ((refine Qa rfl ?_); (first | refine Q0 ?_ | refine Q2 rfl ?_); (refine QX rfl rfl ?_)) | refine Qh ?_ | refine Qo rfl ?_ | refine Qs ?_)
      refine ⟨i + 1, by show i + 1 ≤ _; omega, by show o.tears.length - (i + 1) < o.tears.length - i; omega, imp_tidy [1] (os := [.arr ((crW o (i + 1)).map strA) 9]) (by simp) rfl ?_ ?_⟩
      · refine fa_cons (ren_val ?_ trivial) (fa_cons (ren_val rfl trivial) (fa_cons (ren_val rfl (tr_ids _)) (fa_cons ?_ fa_nil)))
        · exact congrArg (AV.int .i64) (by rw [wrap_in (by omega) (by omega)]; simp)
        · exact ren_own rfl
      · exact os_cons rfl (renO_val rfl (ids_str _)) os_nil
    · have hio : i = o.tears.length := by omega
      subst hio
      repeat' (first | ((refine Qa rfl ?_); (first | refine Q0 ?_ | refine Q1 ?_); (refine QX rfl rfl ?_)) | refine Qh ?_ | refine Ql ?_ | refine Qo rfl ?_ | refine Qr ?_ | refine Qs ?_)
      refine awp_pre (Imp.trans (imp_freeze (id := 0) (k := 1) (es := (crW o o.tears.length).map strA) (e := 9) rfl rfl rfl) (imp_cutk 0 (Nat.zero_le _) hok_nil rfl (Nat.zero_le _) (sl' := [(2, .sl 1 ((crW o o.tears.length).map strA))]) ?_)) ?_
      · refine fa_cons ⟨?_, ids_str _⟩ fa_nil
        exact frz_own (by rw [List.length_map, crW_len (Nat.le_refl _)])
      refine awp_ret ?_
      refine ⟨_, rfl, ?_⟩
      rw [wordsO, if_neg h1, if_neg h3, if_neg h2, if_neg h6, if_neg h11, if_neg h7, if_pos h12]
      have e : crW o o.tears.length = [99, 114, 97, 115, 104] :: chW o.keep :: o.tears.map tearW := by rw [crW, List.take_length]
      rw [← e]
      exact Wk.refl _
  repeat' (first | ((refine Qa rfl ?_); (first | refine Q1 ?_ | refine Q2 rfl ?_); (refine QX rfl rfl ?_)) | refine Qh ?_ | refine Ql ?_ | refine Qo rfl ?_ | refine Qs ?_)
  by_cases g4 : o.kind = 4
  · refine awp_cond_dec rfl (fun g => ?_) (fun g => ?_)
    · repeat' (first | refine Qm ?_ | refine Qs ?_)
      refine awp_cond_dec rfl (fun g2 => ?_) (fun g2 => ?_)
      · repeat' (refine Ql ?_)
        refine awp_region_auto2 [] [] (by exact rfl) (by kernel_rfl) ?_
        apply ds rfl rfl rfl rfl
        · refine st_call (fun _ => rfl) rfl ?_
          refine ACalls.mono (acalls_pure (E := E0 X) (fun X => plain_c X) (by simp [IdsLtL]) _) ?_
          rintro r H' ⟨rfl, rfl⟩
          first
          | exact nx rfl rfl ⟨rfl, rfl⟩
          | exact nx0 ⟨rfl, rfl⟩
        repeat' ((apply Qd rfl rfl rfl rfl); (first | refine Q3 rfl rfl rfl ?_ | refine Q4 rfl rfl rfl rfl rfl ?_); (exact QX rfl rfl ⟨rfl, rfl⟩))
        apply ds rfl rfl rfl rfl
        · refine st_ixm (show plainL[4]? = some (plainL.getD 4 []) from rfl) rfl rfl rfl rfl rfl rfl rfl (by first | rfl | omega) rfl ?_
          first | exact nx rfl rfl ⟨rfl, rfl⟩ | exact nx0 ⟨rfl, rfl⟩
        repeat' (first | ((apply Qd rfl rfl rfl rfl); (first | refine Q1 ?_ | refine Q3 rfl rfl rfl ?_ | refine QR rfl rfl rfl rfl rfl rfl rfl rfl rfl rfl rfl rfl ?_); (exact QX rfl rfl ⟨rfl, rfl⟩)) | refine Qk ?_ | refine Qs ?_)
        refine awp_ret ?_
        refine ⟨_, rfl, ?_⟩
        rw [wordsO, if_neg h1, if_neg h3, if_neg h2, if_neg h6, if_neg h11, if_neg h7, if_neg h12, if_pos (by omega), g4]
        exact Wk.refl _
      · exact absurd g4 g2
    · exact absurd g4 g
  refine awp_cond_dec rfl (fun g => ?_) (fun g => ?_)
  · exact absurd g g4
  repeat' (first | ((refine Qa rfl ?_); (first | refine Q1 ?_ | refine Q2 rfl ?_); (refine QX rfl rfl ?_)) | refine Qh ?_ | refine Ql ?_ | refine Qo rfl ?_ | refine Qs ?_)
  by_cases g5 : o.kind = 5
  · refine awp_cond_dec rfl (fun g => ?_) (fun g => ?_)
    · repeat' (first | refine Qm ?_ | refine Qs ?_)
      refine awp_cond_dec rfl (fun g2 => ?_) (fun g2 => ?_)
      · repeat' (refine Ql ?_)
        refine awp_region_auto2 [] [] (by exact rfl) (by kernel_rfl) ?_
        apply ds rfl rfl rfl rfl
        · refine st_call (fun _ => rfl) rfl ?_
          refine ACalls.mono (acalls_pure (E := E0 X) (fun X => plain_c X) (by simp [IdsLtL]) _) ?_
          rintro r H' ⟨rfl, rfl⟩
          first
          | exact nx rfl rfl ⟨rfl, rfl⟩
          | exact nx0 ⟨rfl, rfl⟩
        repeat' ((apply Qd rfl rfl rfl rfl); (first | refine Q3 rfl rfl rfl ?_ | refine Q4 rfl rfl rfl rfl rfl ?_); (exact QX rfl rfl ⟨rfl, rfl⟩))
        apply ds rfl rfl rfl rfl
        · refine st_ixm (show plainL[5]? = some (plainL.getD 5 []) from rfl) rfl rfl rfl rfl rfl rfl rfl (by first | rfl | omega) rfl ?_
          first | exact nx rfl rfl ⟨rfl, rfl⟩ | exact nx0 ⟨rfl, rfl⟩
        repeat' (first | ((apply Qd rfl rfl rfl rfl); (first | refine Q1 ?_ | refine Q3 rfl rfl rfl ?_ | refine QR rfl rfl rfl rfl rfl rfl rfl rfl rfl rfl rfl rfl ?_); (exact QX rfl rfl ⟨rfl, rfl⟩)) | refine Qk ?_ | refine Qs ?_)
        refine awp_ret ?_
        refine ⟨_, rfl, ?_⟩
        rw [wordsO, if_neg h1, if_neg h3, if_neg h2, if_neg h6, if_neg h11, if_neg h7, if_neg h12, if_pos (by omega), g5]
        exact Wk.refl _
      · exact absurd g5 g2
    · exact absurd g5 g
  refine awp_cond_dec rfl (fun g => ?_) (fun g => ?_)
  · exact absurd g g5
  repeat' (first | ((refine Qa rfl ?_); (first | refine Q1 ?_ | refine Q2 rfl ?_); (refine QX rfl rfl ?_)) | refine Qh ?_ | refine Ql ?_ | refine Qo rfl ?_ | refine Qs ?_)
  by_cases g8 : o.kind = 8
  · refine awp_cond_dec rfl (fun g => ?_) (fun g => ?_)
    · repeat' (first | refine Qm ?_ | refine Qs ?_)
      refine awp_cond_dec rfl (fun g2 => ?_) (fun g2 => ?_)
      · repeat' (refine Ql ?_)
        refine awp_region_auto2 [] [] (by exact rfl) (by kernel_rfl) ?_
        apply ds rfl rfl rfl rfl
        · refine st_call (fun _ => rfl) rfl ?_
          refine ACalls.mono (acalls_pure (E := E0 X) (fun X => plain_c X) (by simp [IdsLtL]) _) ?_
          rintro r H' ⟨rfl, rfl⟩
          first
          | exact nx rfl rfl ⟨rfl, rfl⟩
          | exact nx0 ⟨rfl, rfl⟩
        repeat' ((apply Qd rfl rfl rfl rfl); (first | refine Q3 rfl rfl rfl ?_ | refine Q4 rfl rfl rfl rfl rfl ?_); (exact QX rfl rfl ⟨rfl, rfl⟩))
        apply ds rfl rfl rfl rfl
        · refine st_ixm (show plainL[8]? = some (plainL.getD 8 []) from rfl) rfl rfl rfl rfl rfl rfl rfl (by first | rfl | omega) rfl ?_
          first | exact nx rfl rfl ⟨rfl, rfl⟩ | exact nx0 ⟨rfl, rfl⟩
        repeat' (first | ((apply Qd rfl rfl rfl rfl); (first | refine Q1 ?_ | refine Q3 rfl rfl rfl ?_ | refine QR rfl rfl rfl rfl rfl rfl rfl rfl rfl rfl rfl rfl ?_); (exact QX rfl rfl ⟨rfl, rfl⟩)) | refine Qk ?_ | refine Qs ?_)
        refine awp_ret ?_
        refine ⟨_, rfl, ?_⟩
        rw [wordsO, if_neg h1, if_neg h3, if_neg h2, if_neg h6, if_neg h11, if_neg h7, if_neg h12, if_pos (by omega), g8]
        exact Wk.refl _
      · exact absurd g8 g2
    · exact absurd g8 g
  refine awp_cond_dec rfl (fun g => ?_) (fun g => ?_)
  · exact absurd g g8
  repeat' (first | ((refine Qa rfl ?_); (first | refine Q1 ?_ | refine Q2 rfl ?_); (refine QX rfl rfl ?_)) | refine Qh ?_ | refine Ql ?_ | refine Qo rfl ?_ | refine Qs ?_)
  by_cases g9 : o.kind = 9
  · refine awp_cond_dec rfl (fun g => ?_) (fun g => ?_)
    · repeat' (first | refine Qm ?_ | refine Qs ?_)
      refine awp_cond_dec rfl (fun g2 => ?_) (fun g2 => ?_)
      · repeat' (refine Ql ?_)
        refine awp_region_auto2 [] [] (by exact rfl) (by kernel_rfl) ?_
        apply ds rfl rfl rfl rfl
        · refine st_call (fun _ => rfl) rfl ?_
          refine ACalls.mono (acalls_pure (E := E0 X) (fun X => plain_c X) (by simp [IdsLtL]) _) ?_
          rintro r H' ⟨rfl, rfl⟩
          first
          | exact nx rfl rfl ⟨rfl, rfl⟩
          | exact nx0 ⟨rfl, rfl⟩
        repeat' ((apply Qd rfl rfl rfl rfl); (first | refine Q3 rfl rfl rfl ?_ | refine Q4 rfl rfl rfl rfl rfl ?_); (exact QX rfl rfl ⟨rfl, rfl⟩))
        apply ds rfl rfl rfl rfl
        · refine st_ixm (show plainL[9]? = some (plainL.getD 9 []) from rfl) rfl rfl rfl rfl rfl rfl rfl (by first | rfl | omega) rfl ?_
          first | exact nx rfl rfl ⟨rfl, rfl⟩ | exact nx0 ⟨rfl, rfl⟩
        repeat' (first | ((apply Qd rfl rfl rfl rfl); (first | refine Q1 ?_ | refine Q3 rfl rfl rfl ?_ | refine QR rfl rfl rfl rfl rfl rfl rfl rfl rfl rfl rfl rfl ?_); (exact QX rfl rfl ⟨rfl, rfl⟩)) | refine Qk ?_ | refine Qs ?_)
        refine awp_ret ?_
        refine ⟨_, rfl, ?_⟩
        rw [wordsO, if_neg h1, if_neg h3, if_neg h2, if_neg h6, if_neg h11, if_neg h7, if_neg h12, if_pos (by omega), g9]
        exact Wk.refl _
      · exact absurd g9 g2
    · exact absurd g9 g
  refine awp_cond_dec rfl (fun g => ?_) (fun g => ?_)
  · exact absurd g g9
  repeat' (first | ((refine Qa rfl ?_); (first | refine Q1 ?_ | refine Q2 rfl ?_); (refine QX rfl rfl ?_)) | refine Qh ?_ | refine Qo rfl ?_ | refine Qs ?_)
  refine awp_cond_dec rfl (fun g10 => ?_) (fun g10 => ?_)
  · repeat' (refine Ql ?_)
    refine awp_region_auto2 [] [] (by exact rfl) (by kernel_rfl) ?_
    apply ds rfl rfl rfl rfl
    · refine st_call (fun _ => rfl) rfl ?_
      refine ACalls.mono (acalls_pure (E := E0 X) (fun X => plain_c X) (by simp [IdsLtL]) _) ?_
      rintro r H' ⟨rfl, rfl⟩
      first
      | exact nx rfl rfl ⟨rfl, rfl⟩
      | exact nx0 ⟨rfl, rfl⟩
    repeat' ((apply Qd rfl rfl rfl rfl); (first | refine Q3 rfl rfl rfl ?_ | refine Q4 rfl rfl rfl rfl rfl ?_); (exact QX rfl rfl ⟨rfl, rfl⟩))
    apply ds rfl rfl rfl rfl
    · refine st_ixm (show plainL[10]? = some (plainL.getD 10 []) from rfl) rfl rfl rfl rfl rfl rfl rfl (by first | rfl | omega) rfl ?_
      first | exact nx rfl rfl ⟨rfl, rfl⟩ | exact nx0 ⟨rfl, rfl⟩
    repeat' (first | ((apply Qd rfl rfl rfl rfl); (first | refine Q1 ?_ | refine Q3 rfl rfl rfl ?_ | refine QR rfl rfl rfl rfl rfl rfl rfl rfl rfl rfl rfl rfl ?_); (exact QX rfl rfl ⟨rfl, rfl⟩)) | refine Qk ?_ | refine Qs ?_)
    refine awp_ret ?_
    refine ⟨_, rfl, ?_⟩
    rw [wordsO, if_neg h1, if_neg h3, if_neg h2, if_neg h6, if_neg h11, if_neg h7, if_neg h12, if_pos (by omega), g10]
    exact Wk.refl _
  repeat' (first | ((refine Qa rfl ?_); (refine Q1 ?_); (refine QX rfl rfl ?_)) | refine Qh ?_ | refine Ql ?_ | refine Qm ?_ | refine Qo rfl ?_ | refine Qs ?_)
  refine awp_ret ?_
  refine ⟨_, rfl, ?_⟩
  rw [wordsO, if_neg h1, if_neg h3, if_neg h2, if_neg h6, if_neg h11, if_neg h7, if_neg h12, if_neg (by omega)]
  exact wk_nil
end Go.Abs

