/- The reference: Eq. Joined texts, each with what its own name promises; no condition beyond those stated. -/
import Derived.Test.YthiglfibmbnbeaaDoorNH
namespace Go.Abs
attribute [local irreducible] AStep aops AWp Nx awM APanic
theorem hok_ab (a b : Opv) : HOk 2 [some (.cells (opC a) 26), some (.cells (opC b) 26)] := fun j o ho => by
  match j, ho with
  | 0, ho => cases ho; exact opC_ids _
  | 1, ho => cases ho; exact opC_ids _
def abH (a b : Opv) : Hp := [some (.cells (opC a) 26), some (.cells (opC b) 26)]
set_option maxHeartbeats 0 in
theorem req_c (X : Nat → Prop) (a b : Opv) (ha : a.key.length ≤ 1000000) (ha1 : a.val.length ≤ 1000000) (ha2 : a.keep.length ≤ 1000000) (ha3 : a.tears.length ≤ 1000000) :
    ACalls (E0 X) 10 [opS a, opS b] [] (fun r H' => r = .bool (decide (a = b)) ∧ H' = []) := by
  refine ACalls.cut0 ?_ trivial
  refine acalls_of Proofs.Tryd.func10 rfl Proofs.Tryd.ntmps10 (by kernel_rfl) rfl ?_
  intro hH hargs
  clear hH hargs
  repeat' (first | ((refine Qa rfl ?_); (first | refine Q0 ?_ | refine Q1 ?_ | refine Q2 rfl ?_ | refine Q3 rfl rfl rfl ?_ | refine Q4 rfl rfl rfl rfl rfl ?_ | refine QK rfl ?_); (refine QX rfl rfl ?_)) | refine Qh ?_ | refine Ql ?_ | refine Qo rfl ?_)
  refine Qy rfl rfl (fun h => ?_) (fun h_kind => ?_)
  · repeat' (first | ((refine Qa rfl ?_); (first | refine Q0 ?_ | refine Q1 ?_ | refine Q5 rfl ?_); (refine QX rfl rfl ?_)) | refine Qh ?_ | refine Qi rfl ?_ | refine Ql ?_ | refine Qo rfl ?_ | refine Qp rfl ?_ | refine Qs ?_)
    refine awp_ret ?_
    exact ⟨_, rfl, dec_no fun e => h (by rw [e])⟩
  repeat' ((refine Qa rfl ?_); (first | refine Q0 ?_ | refine Q2 rfl ?_ | refine Q3 rfl rfl rfl ?_ | refine Q4 rfl rfl rfl rfl rfl ?_ | refine Q5 rfl ?_); (refine QX rfl rfl ?_))
  refine Qy rfl rfl (fun h => ?_) (fun h_n => ?_)
  · repeat' (first | ((refine Qa rfl ?_); (first | refine Q0 ?_ | refine Q1 ?_ | refine Q5 rfl ?_); (refine QX rfl rfl ?_)) | refine Qh ?_ | refine Qi rfl ?_ | refine Ql ?_ | refine Qo rfl ?_ | refine Qp rfl ?_ | refine Qs ?_)
    refine awp_ret ?_
    exact ⟨_, rfl, dec_no fun e => h (by rw [e])⟩
  repeat' ((refine Qa rfl ?_); (first | refine Q0 ?_ | refine Q2 rfl ?_ | refine Q3 rfl rfl rfl ?_ | refine Q4 rfl rfl rfl rfl rfl ?_ | refine Q5 rfl ?_); (refine QX rfl rfl ?_))
  refine Qy rfl rfl (fun h => ?_) (fun h_a => ?_)
  · repeat' (first | ((refine Qa rfl ?_); (first | refine Q0 ?_ | refine Q1 ?_ | refine Q5 rfl ?_); (refine QX rfl rfl ?_)) | refine Qh ?_ | refine Qi rfl ?_ | refine Ql ?_ | refine Qo rfl ?_ | refine Qp rfl ?_ | refine Qs ?_)
    refine awp_ret ?_
    exact ⟨_, rfl, dec_no fun e => h (by rw [e])⟩
  repeat' ((refine Qa rfl ?_); (first | refine Q0 ?_ | refine Q2 rfl ?_ | refine Q3 rfl rfl rfl ?_ | refine Q4 rfl rfl rfl rfl rfl ?_ | refine Q5 rfl ?_); (refine QX rfl rfl ?_))
  refine Qy rfl rfl (fun h => ?_) (fun h_b => ?_)
  · repeat' (first | ((refine Qa rfl ?_); (first | refine Q0 ?_ | refine Q1 ?_ | refine Q5 rfl ?_); (refine QX rfl rfl ?_)) | refine Qh ?_ | refine Qi rfl ?_ | refine Ql ?_ | refine Qo rfl ?_ | refine Qp rfl ?_ | refine Qs ?_)
    refine awp_ret ?_
    exact ⟨_, rfl, dec_no fun e => h (by rw [e])⟩
  repeat' (first | ((refine Qa rfl ?_); (first | refine Q3 rfl rfl rfl ?_ | refine Q4 rfl rfl rfl rfl rfl ?_); (refine QX rfl rfl ?_)) | refine Qa rfl ?_)
  refine st_call (fun _ => rfl) rfl ?_
  refine ACalls.mono (acalls_pure (E := E0 X) (fun X => eqb_c X a.key b.key ha) ⟨u8_ids' _, u8_ids' _, trivial⟩ _) ?_
  rintro r H' ⟨rfl, rfl⟩
  first | refine nx rfl rfl ?_ | refine nx0 ?_
  by_cases h_key : a.key = b.key
  rotate_left
  · rw [decide_eq_false h_key]
    repeat' (first | ((refine Qa rfl ?_); (first | refine Q0 ?_ | refine Q1 ?_ | refine Q5 rfl ?_ | refine QD rfl ?_); (refine QX rfl rfl ?_)) | refine Qh ?_ | refine Qi rfl ?_ | refine Ql ?_ | refine Qo rfl ?_ | refine Qp rfl ?_ | refine Qs ?_)
    refine awp_ret ?_
    exact ⟨_, rfl, dec_no fun e => h_key (by rw [e])⟩
  rw [decide_eq_true h_key]
  repeat' (first | ((refine Qa rfl ?_); (first | refine Q0 ?_ | refine Q3 rfl rfl rfl ?_ | refine Q4 rfl rfl rfl rfl rfl ?_ | refine Q5 rfl ?_ | refine QD rfl ?_); (refine QX rfl rfl ?_)) | refine Qa rfl ?_)
  refine st_call (fun _ => rfl) rfl ?_
  refine ACalls.mono (acalls_pure (E := E0 X) (fun X => eqb_c X a.val b.val ha1) ⟨u8_ids' _, u8_ids' _, trivial⟩ _) ?_
  rintro r H' ⟨rfl, rfl⟩
  first | refine nx rfl rfl ?_ | refine nx0 ?_
  by_cases h_val : a.val = b.val
  rotate_left
  · rw [decide_eq_false h_val]
    repeat' (first | ((refine Qa rfl ?_); (first | refine Q0 ?_ | refine Q1 ?_ | refine Q5 rfl ?_ | refine QD rfl ?_); (refine QX rfl rfl ?_)) | refine Qh ?_ | refine Qi rfl ?_ | refine Ql ?_ | refine Qo rfl ?_ | refine Qp rfl ?_ | refine Qs ?_)
    refine awp_ret ?_
    exact ⟨_, rfl, dec_no fun e => h_val (by rw [e])⟩
  rw [decide_eq_true h_val]
  repeat' ((refine Qa rfl ?_); (first | refine Q0 ?_ | refine Q2 rfl ?_ | refine Q3 rfl rfl rfl ?_ | refine Q4 rfl rfl rfl rfl rfl ?_ | refine Q5 rfl ?_ | refine Q7 rfl rfl rfl ?_ | refine QD rfl ?_); (refine QX rfl rfl ?_))
  refine Qy rfl rfl (fun h => ?_) (fun h_kl => ?_)
  · repeat' (first | ((refine Qa rfl ?_); (first | refine Q1 ?_ | refine Q5 rfl ?_); (refine QX rfl rfl ?_)) | refine Qh ?_ | refine Qi rfl ?_ | refine Ql ?_ | refine Qo rfl ?_ | refine Qp rfl ?_ | refine Qs ?_)
    refine awp_ret ?_
    exact ⟨_, rfl, dec_no fun e => h (by rw [e])⟩
  repeat' (first | ((refine Qa rfl ?_); (first | refine Q2 rfl ?_ | refine Q3 rfl rfl rfl ?_ | refine Q4 rfl rfl rfl rfl rfl ?_ | refine Q5 rfl ?_ | refine Q7 rfl rfl rfl ?_); (refine QX rfl rfl ?_)) | refine Qh ?_ | refine Qs ?_)
  refine awp_cond_dec rfl (fun h_tl => ?_) (fun h_tl => ?_)
  · repeat' (first | ((refine Qa rfl ?_); (refine Q1 ?_); (refine QX rfl rfl ?_)) | refine Qh ?_ | refine Ql ?_ | refine Qo rfl ?_ | refine Qs ?_)
    refine awp_ret ?_
    exact ⟨_, rfl, dec_no fun e => h_tl (by rw [e])⟩
  have hkl : a.keep.length = b.keep.length := by simp at h_kl; omega
  have htl : a.tears.length = b.tears.length := by simp at h_tl; omega
  have h1 : a.kind = b.kind := Classical.not_not.1 h_kind
  have h2 : a.n = b.n := Classical.not_not.1 h_n
  have h3 : a.a = b.a := Classical.not_not.1 h_a
  have h4 : a.b = b.b := Classical.not_not.1 h_b
  repeat' (first | ((refine Qa rfl ?_); (first | refine Q0 ?_ | refine Q3 rfl rfl rfl ?_ | refine Q4 rfl rfl rfl rfl rfl ?_ | refine Q7 rfl rfl rfl ?_); (refine QX rfl rfl ?_)) | refine Qh ?_ | refine Ql ?_ | refine Qm ?_ | refine Qn ?_ | refine Qo rfl ?_)
  refine awp_loop2 (fun k : Nat => ⟨[(2, .ptr 0 0), (3, .ptr 1 0), (69, .int .i64 (a.keep.length : Int)), (70, .int .i64 (k : Int))], abH a b⟩) (fun k => k ≤ a.keep.length ∧ ∀ j, j < k → a.keep[j]? = b.keep[j]?) (fun k => a.keep.length - k) 0 ⟨Nat.zero_le _, fun j h => absurd h (Nat.not_lt_zero j)⟩ ?_ ?_
  · refine imp_cutk 2 (Nat.zero_le _) (hok_ab a b) rfl (by simp) (fa_cons ⟨rfl, Nat.zero_lt_succ _⟩ (fa_cons ⟨rfl, by show 1 < 2; decide⟩ (fa_cons ⟨?_, trivial⟩ (fa_cons ⟨rfl, trivial⟩ fa_nil))))
    exact congrArg (fun n : Nat => AV.int .i64 (n : Int)) (List.length_map _)
  rintro k ⟨hk, h⟩
  unfold abH opC
  repeat' (first | ((refine Qa rfl ?_); (refine Q2 rfl ?_); (refine QX rfl rfl ?_)) | refine Qh ?_ | refine Ql ?_ | refine Qo rfl ?_)
  refine awp_cond_dec rfl (fun g => ?_) (fun g => ?_)
  · obtain ⟨p, hp⟩ : ∃ p, a.keep[k]? = some p := ⟨_, List.getElem?_eq_getElem (by omega)⟩
    obtain ⟨q, hq⟩ : ∃ q, b.keep[k]? = some q := ⟨_, List.getElem?_eq_getElem (by omega)⟩
    repeat' (first | ((refine Qa rfl ?_); (first | refine Q0 ?_ | refine Q1 ?_); (refine QX rfl rfl ?_)) | refine Qh ?_ | refine Ql ?_ | refine Qm ?_ | refine Qn ?_ | refine Qo rfl ?_)
    refine awp_region_auto2 [] [] (by exact rfl) (by kernel_rfl) ?_
    repeat' ((apply Qd rfl rfl rfl rfl); (first | refine Q0 ?_ | refine Q3 rfl rfl rfl ?_ | refine Q4 rfl rfl rfl rfl rfl ?_); (exact QX rfl rfl ⟨rfl, rfl⟩))
    apply ds rfl rfl rfl rfl
    · refine st_ixm hp rfl rfl rfl rfl rfl rfl rfl (by first | rfl | omega) rfl ?_
      first | exact nx rfl rfl ⟨rfl, rfl⟩ | exact nx0 ⟨rfl, rfl⟩
    repeat' ((apply Qd rfl rfl rfl rfl); (first | refine Q0 ?_ | refine Q3 rfl rfl rfl ?_ | refine Q4 rfl rfl rfl rfl rfl ?_); (exact QX rfl rfl ⟨rfl, rfl⟩))
    apply ds rfl rfl rfl rfl
    · refine st_ixm hq rfl rfl rfl rfl rfl rfl rfl (by first | rfl | omega) rfl ?_
      first | exact nx rfl rfl ⟨rfl, rfl⟩ | exact nx0 ⟨rfl, rfl⟩
    repeat' (first | ((apply Qd rfl rfl rfl rfl); (first | refine Q3 rfl rfl rfl ?_ | refine QI rfl rfl rfl ?_); (exact QX rfl rfl ⟨rfl, rfl⟩)) | refine Qk ?_ | refine Qs ?_)
    refine awp_cond rfl (fun h5 => ?_) (fun h5 => ?_)
    · have hne : p ≠ q := fun e => by
        subst e
        simp at h5
      repeat' (first | ((refine Qa rfl ?_); (refine Q1 ?_); (refine QX rfl rfl ?_)) | refine Qh ?_ | refine Ql ?_ | refine Qo rfl ?_ | refine Qs ?_)
      refine awp_ret ?_
      refine ⟨_, rfl, dec_no fun e => hne ?_⟩
      subst e
      rw [hp] at hq
      cases hq
      rfl
    · have hpq : p = q := by cases p <;> cases q <;> simp at h5 <;> rfl
      repeat' (first | ((refine Qa rfl ?_); (first | refine Q0 ?_ | refine Q2 rfl ?_); (refine QX rfl rfl ?_)) | refine Qh ?_ | refine Qm ?_ | refine Qo rfl ?_ | refine Qs ?_)
      refine ⟨k + 1, ⟨by show k + 1 ≤ _; omega, fun j hj => ?_⟩, by show a.keep.length - (k + 1) < a.keep.length - k; omega, ?_⟩
      · rcases Nat.lt_succ_iff_lt_or_eq.1 hj with h6 | rfl
        · exact h j h6
        · rw [hp, hq, hpq]
      · refine imp_cutk 2 (Nat.zero_le _) (hok_ab a b) rfl (by simp) (fa_cons ⟨rfl, Nat.zero_lt_succ _⟩ (fa_cons ⟨rfl, by show 1 < 2; decide⟩ (fa_cons ⟨rfl, trivial⟩ (fa_cons ⟨?_, trivial⟩ fa_nil))))
        exact congrArg (AV.int .i64) (by rw [wrap_in (by omega) (by omega)]; simp)
  have hka : k = a.keep.length := by omega
  subst hka
  have h_keep := ext_lists hkl h
  repeat' (first | ((refine Qa rfl ?_); (first | refine Q0 ?_ | refine Q3 rfl rfl rfl ?_ | refine Q4 rfl rfl rfl rfl rfl ?_ | refine Q7 rfl rfl rfl ?_); (refine QX rfl rfl ?_)) | refine Qh ?_ | refine Ql ?_ | refine Qn ?_ | refine Qo rfl ?_ | refine Qr ?_)
  refine awp_loop2 (fun k : Nat => ⟨[(2, .ptr 0 0), (3, .ptr 1 0), (87, .int .i64 (a.tears.length : Int)), (88, .int .i64 (k : Int))], abH a b⟩) (fun k => k ≤ a.tears.length ∧ ∀ j, j < k → a.tears[j]? = b.tears[j]?) (fun k => a.tears.length - k) 0 ⟨Nat.zero_le _, fun j h => absurd h (Nat.not_lt_zero j)⟩ ?_ ?_
  · refine imp_cutk 2 (Nat.zero_le _) (hok_ab a b) rfl (by simp) (fa_cons ⟨rfl, Nat.zero_lt_succ _⟩ (fa_cons ⟨rfl, by show 1 < 2; decide⟩ (fa_cons ⟨?_, trivial⟩ (fa_cons ⟨rfl, trivial⟩ fa_nil))))
    exact congrArg (fun n : Nat => AV.int .i64 (n : Int)) (List.length_map _)
  rintro k ⟨hk, h⟩
  unfold abH opC
  repeat' (first | ((refine Qa rfl ?_); (refine Q2 rfl ?_); (refine QX rfl rfl ?_)) | refine Qh ?_ | refine Ql ?_ | refine Qo rfl ?_)
  refine awp_cond_dec rfl (fun g => ?_) (fun g => ?_)
  · obtain ⟨p, hp⟩ : ∃ p, a.tears[k]? = some p := ⟨_, List.getElem?_eq_getElem (by omega)⟩
    obtain ⟨q, hq⟩ : ∃ q, b.tears[k]? = some q := ⟨_, List.getElem?_eq_getElem (by omega)⟩
    repeat' (first | ((refine Qa rfl ?_); (first | refine Q0 ?_ | refine Q1 ?_); (refine QX rfl rfl ?_)) | refine Qh ?_ | refine Ql ?_ | refine Qm ?_ | refine Qn ?_ | refine Qo rfl ?_)
    refine awp_region_auto2 [] [] (by exact rfl) (by kernel_rfl) ?_
    repeat' ((apply Qd rfl rfl rfl rfl); (first | refine Q0 ?_ | refine Q3 rfl rfl rfl ?_ | refine Q4 rfl rfl rfl rfl rfl ?_); (exact QX rfl rfl ⟨rfl, rfl⟩))
    apply ds rfl rfl rfl rfl
    · refine st_ixm hp rfl rfl rfl rfl rfl rfl rfl (by first | rfl | omega) rfl ?_
      first | exact nx rfl rfl ⟨rfl, rfl⟩ | exact nx0 ⟨rfl, rfl⟩
    repeat' ((apply Qd rfl rfl rfl rfl); (first | refine Q0 ?_ | refine Q3 rfl rfl rfl ?_ | refine Q4 rfl rfl rfl rfl rfl ?_); (exact QX rfl rfl ⟨rfl, rfl⟩))
    apply ds rfl rfl rfl rfl
    · refine st_ixm hq rfl rfl rfl rfl rfl rfl rfl (by first | rfl | omega) rfl ?_
      first | exact nx rfl rfl ⟨rfl, rfl⟩ | exact nx0 ⟨rfl, rfl⟩
    repeat' (first | ((apply Qd rfl rfl rfl rfl); (first | refine Q3 rfl rfl rfl ?_ | refine QI rfl rfl rfl ?_); (exact QX rfl rfl ⟨rfl, rfl⟩)) | refine Qk ?_ | refine Qs ?_)
    refine awp_cond rfl (fun h5 => ?_) (fun h5 => ?_)
    · have hne : p ≠ q := fun e => by
        subst e
        simp at h5
      repeat' (first | ((refine Qa rfl ?_); (refine Q1 ?_); (refine QX rfl rfl ?_)) | refine Qh ?_ | refine Ql ?_ | refine Qo rfl ?_ | refine Qs ?_)
      refine awp_ret ?_
      refine ⟨_, rfl, dec_no fun e => hne ?_⟩
      subst e
      rw [hp] at hq
      cases hq
      rfl
    · have hpq : p = q := by obtain ⟨pk, pn⟩ := p; obtain ⟨qk, qn⟩ := q; simp at h5; rw [h5.1, h5.2]
      repeat' (first | ((refine Qa rfl ?_); (first | refine Q0 ?_ | refine Q2 rfl ?_); (refine QX rfl rfl ?_)) | refine Qh ?_ | refine Qm ?_ | refine Qo rfl ?_ | refine Qs ?_)
      refine ⟨k + 1, ⟨by show k + 1 ≤ _; omega, fun j hj => ?_⟩, by show a.tears.length - (k + 1) < a.tears.length - k; omega, ?_⟩
      · rcases Nat.lt_succ_iff_lt_or_eq.1 hj with h6 | rfl
        · exact h j h6
        · rw [hp, hq, hpq]
      · refine imp_cutk 2 (Nat.zero_le _) (hok_ab a b) rfl (by simp) (fa_cons ⟨rfl, Nat.zero_lt_succ _⟩ (fa_cons ⟨rfl, by show 1 < 2; decide⟩ (fa_cons ⟨rfl, trivial⟩ (fa_cons ⟨?_, trivial⟩ fa_nil))))
        exact congrArg (AV.int .i64) (by rw [wrap_in (by omega) (by omega)]; simp)
  have hka : k = a.tears.length := by omega
  subst hka
  have h_tears := ext_lists htl h
  repeat' (first | ((refine Qa rfl ?_); (refine Q1 ?_); (refine QX rfl rfl ?_)) | refine Qh ?_ | refine Ql ?_ | refine Qo rfl ?_ | refine Qr ?_ | refine Qs ?_)
  refine awp_ret ?_
  have hab := (op_ext h1 h_key h_val h2 h3 h4 h_keep).1 h_tears
  refine ⟨_, rfl, ?_⟩
  rw [decide_eq_true hab]
  rfl
end Go.Abs
namespace Go.Abs
attribute [local irreducible] AStep aops AWp Nx awM APanic
theorem dec_chr {n : Nat} (h : n < 10) : IntKind.u8.wrap (IntKind.i64.wrap (48 + (n : Int))) = ((UInt8.ofNat (48 + n)).toNat : Int) := by
  rw [UInt8.toNat_ofNat', wrap_in (by omega) (by omega)]
  simp only [IntKind.wrap, IntKind.signed, IntKind.bits]
  simp
theorem dec_long (n : Nat) (h : n < 1000000) : (Lib.decDigits n).length ≤ 6 := dec_len 5 n (by omega)
set_option maxHeartbeats 0 in
theorem rdec_c : ∀ (n : Nat) (X : Nat → Prop), n < 1000000 → ACalls (E0 X) 51 [.int .i64 (n : Int)] [] (fun r H' => r = .str (Lib.decDigits n) ∧ H' = []) := by
  intro n
  induction n using Nat.strongRecOn with
  | _ n ih =>
    intro X hn
    refine ACalls.cut0 ?_ trivial
    by_cases h10 : n < 10
    · rw [Lib.decDigits, dif_pos h10]
      refine acalls_of Proofs.Tryd.func51 rfl Proofs.Tryd.ntmps51 (by kernel_rfl) rfl ?_
      intro hH hargs
      clear hH hargs
      repeat' (first | ((refine Qa rfl ?_); (first | refine Q0 ?_ | refine Q1 ?_ | refine Q2 rfl ?_); (refine QX rfl rfl ?_)) | refine Qh ?_ | refine Ql ?_ | refine Qo rfl ?_ | refine Qs ?_)
      refine awp_cond_dec rfl (fun h => ?_) (fun h => ?_)
      · repeat' (first | ((refine Qa rfl ?_); (first | refine Q0 ?_ | refine Q2 rfl ?_ | refine QG rfl rfl rfl rfl ?_ | refine QR rfl rfl rfl rfl rfl rfl rfl rfl rfl rfl rfl rfl ?_); (refine QX rfl rfl ?_)) | refine Qa rfl ?_ | refine Ql ?_ | refine Qo rfl ?_)
        rw [dec_chr h10]
        refine st_bstr (l := [UInt8.ofNat (48 + n)]) rfl rfl rfl rfl rfl rfl rfl ?_
        first | refine nx rfl rfl ?_ | refine nx0 ?_
        repeat' (first | ((refine Qa rfl ?_); (refine Q1 ?_); (refine QX rfl rfl ?_)) | refine Qh ?_ | refine Qs ?_)
        refine awp_ret ?_
        exact ⟨_, rfl, rfl⟩
      · exact absurd (by omega) h
    · have hd : Lib.decDigits n = Lib.decDigits (n / 10) ++ Lib.decDigits (n % 10) := by
        rw [Lib.decDigits, dif_neg h10]
        conv => rhs; rhs; rw [Lib.decDigits, dif_pos (Nat.mod_lt _ (by decide))]
      have e1 : IntKind.i64.wrap (((n : Int)).tdiv 10) = ((n / 10 : Nat) : Int) := by
        have : ((n : Int)).tdiv 10 = ((n / 10 : Nat) : Int) := rfl
        rw [this, wrap_in (by omega) (by omega)]
      have e2 : ((n : Int)).tmod 10 = ((n % 10 : Nat) : Int) := rfl
      have hl1 := dec_long (n / 10) (by omega)
      have hl2 := dec_long (n % 10) (by omega)
      rw [hd]
      refine acalls_of Proofs.Tryd.func51 rfl Proofs.Tryd.ntmps51 (by kernel_rfl) rfl ?_
      intro hH hargs
      clear hH hargs
      repeat' (first | ((refine Qa rfl ?_); (first | refine Q0 ?_ | refine Q1 ?_ | refine Q2 rfl ?_); (refine QX rfl rfl ?_)) | refine Qh ?_ | refine Ql ?_ | refine Qo rfl ?_ | refine Qs ?_)
      refine awp_cond_dec rfl (fun h => ?_) (fun h => ?_)
      · exact absurd h (by omega)
      repeat' (first | ((refine Qa rfl ?_); (first | refine Q0 ?_ | refine QA rfl rfl (by decide) ?_); (refine QX rfl rfl ?_)) | refine Qa rfl ?_ | refine Ql ?_ | refine Qm ?_ | refine Qo rfl ?_)
      rw [e1]
      refine st_call (fun _ => rfl) rfl ?_
      refine ACalls.mono (acalls_pure (E := E0 X) (fun X => ih (n / 10) (by omega) X (by omega)) (by simp [IdsLtL, IdsLt]) _) ?_
      rintro r H' ⟨rfl, rfl⟩
      first | refine nx rfl rfl ?_ | refine nx0 ?_
      repeat' (first | ((refine Qa rfl ?_); (first | refine Q0 ?_ | refine QB rfl rfl (by decide) ?_); (refine QX rfl rfl ?_)) | refine Qa rfl ?_)
      rw [e2]
      refine st_call (fun _ => rfl) rfl ?_
      refine ACalls.mono (acalls_pure (E := E0 X) (fun X => ih (n % 10) (by omega) X (by omega)) (by simp [IdsLtL, IdsLt]) _) ?_
      rintro r H' ⟨rfl, rfl⟩
      first | refine nx rfl rfl ?_ | refine nx0 ?_
      repeat' (refine Qa rfl ?_)
      refine st_sadd rfl rfl (by omega) ?_
      first | refine nx rfl rfl ?_ | refine nx0 ?_
      repeat' (first | ((refine Qa rfl ?_); (refine Q1 ?_); (refine QX rfl rfl ?_)) | refine Qh ?_ | refine Qs ?_)
      refine awp_ret ?_
      exact ⟨_, rfl, rfl⟩
theorem hex_get {i : Nat} (h : i < 16) : hexS[i]? = some (hexC i) := by
  have key : ((List.range 16).all fun i => hexS[i]? == some (hexC i)) = true := by kernel_rfl
  simpa using List.all_eq_true.1 key i (by simpa using h)
theorem u8_quo16 (x : UInt8) : IntKind.u8.wrap (((x.toNat : Int)).tdiv 16) = ((x.toNat / 16 : Nat) : Int) := by
  have h := x.toNat_lt
  have : ((x.toNat : Int)).tdiv 16 = ((x.toNat / 16 : Nat) : Int) := rfl
  rw [this]
  simp only [IntKind.wrap, IntKind.signed, IntKind.bits]
  simp
  omega
set_option maxHeartbeats 0 in
theorem rhex_c (X : Nat → Prop) (b : List UInt8) (hb : b.length ≤ 1000000) : ACalls (E0 X) 50 [.sl 1 (b.map u8A)] [] (fun r H' => r = .str (hexW b) ∧ H' = []) := by
  refine ACalls.cut0 ?_ trivial
  refine acalls_of Proofs.Tryd.func50 rfl Proofs.Tryd.ntmps50 (by kernel_rfl) rfl ?_
  intro hH hargs
  clear hH hargs
  repeat' (first | ((refine Qa rfl ?_); (first | refine Q0 ?_ | refine Q1 ?_ | refine Q7 rfl rfl rfl ?_); (refine QX rfl rfl ?_)) | refine Qh ?_ | refine Ql ?_ | refine Qn ?_ | refine Qo rfl ?_)
  refine awp_loop2 (fun i : Nat => ⟨[(6, .sl 1 (b.map u8A)), (7, .int .i64 (b.length : Int)), (8, .int .i64 (i : Int)), (3, .str (hexW (b.take i)))], []⟩) (fun i => i ≤ b.length) (fun i => b.length - i) 0 (Nat.zero_le _) ?_ ?_
  · refine imp_tidy0 ?_
    refine fa_cons (ren_val rfl (u8_ids' b)) (fa_cons (ren_val ?_ trivial) (fa_cons (ren_val rfl trivial) (fa_cons (ren_val rfl trivial) fa_nil)))
    exact congrArg (fun n : Nat => AV.int .i64 (n : Int)) (List.length_map _)
  intro i hi
  repeat' (first | ((refine Qa rfl ?_); (refine Q2 rfl ?_); (refine QX rfl rfl ?_)) | refine Qh ?_ | refine Ql ?_ | refine Qo rfl ?_)
  refine awp_cond_dec rfl (fun h2 => ?_) (fun h2 => ?_)
  · obtain ⟨x, hx⟩ : ∃ x, b[i]? = some x := ⟨_, List.getElem?_eq_getElem (by omega)⟩
    have hlt := x.toNat_lt
    have hl2 := hexW_len (b.take i)
    have hl3 : (b.take i).length ≤ b.length := by rw [List.length_take]; omega
    have e2 : ((x.toNat : Int)).tmod 16 = ((x.toNat % 16 : Nat) : Int) := rfl
    repeat' (first | refine Qa rfl ?_ | refine Ql ?_ | refine Qm ?_ | refine Qn ?_ | refine Qo rfl ?_)
    refine st_ixm hx rfl rfl rfl rfl rfl rfl rfl (by first | rfl | omega) rfl ?_
    first | refine nx rfl rfl ?_ | refine nx0 ?_
    repeat' (first | ((refine Qa rfl ?_); (first | refine Q1 ?_ | refine Q3 rfl rfl rfl ?_); (refine QX rfl rfl ?_)) | refine Qh ?_ | refine Qs ?_)
    refine awp_region_auto2 [] [] (by exact rfl) (by kernel_rfl) ?_
    repeat' ((apply Qd rfl rfl rfl rfl); (first | refine Q0 ?_ | refine QA rfl rfl (by decide) ?_); (exact QX rfl rfl ⟨rfl, rfl⟩))
    rw [u8_quo16]
    apply ds rfl rfl rfl rfl
    · refine st_index_str (j := x.toNat / 16) rfl rfl rfl rfl ((hex_get (by omega))) (rfl) ?_
      first | exact nx rfl rfl ⟨rfl, rfl⟩ | exact nx0 ⟨rfl, rfl⟩
    repeat' ((apply Qd rfl rfl rfl rfl); (first | refine Q0 ?_ | refine QB rfl rfl (by decide) ?_); (exact QX rfl rfl ⟨rfl, rfl⟩))
    apply ds rfl rfl rfl rfl
    · refine st_index_str (j := x.toNat % 16) rfl rfl rfl rfl ((hex_get (by omega))) (e2) ?_
      first | exact nx rfl rfl ⟨rfl, rfl⟩ | exact nx0 ⟨rfl, rfl⟩
    repeat' ((apply Qd rfl rfl rfl rfl); (refine QR rfl rfl rfl rfl rfl rfl rfl rfl rfl rfl rfl rfl ?_); (exact QX rfl rfl ⟨rfl, rfl⟩))
    apply ds rfl rfl rfl rfl
    · refine st_bstr (l := [hexC (x.toNat / 16), hexC (x.toNat % 16)]) rfl rfl rfl rfl rfl rfl rfl ?_
      first | exact nx rfl rfl ⟨rfl, rfl⟩ | exact nx0 ⟨rfl, rfl⟩
    apply ds rfl rfl rfl rfl
    · refine st_sadd rfl rfl (by simp; omega) ?_
      first | exact nx rfl rfl ⟨rfl, rfl⟩ | exact nx0 ⟨rfl, rfl⟩
    repeat' (first | ((first | refine Qa rfl ?_ | apply Qd rfl rfl rfl rfl); (first | refine Q0 ?_ | refine Q1 ?_ | refine Q2 rfl ?_); (first | exact QX rfl rfl ⟨rfl, rfl⟩ | refine QX rfl rfl ?_)) | refine Qh ?_ | refine Qk ?_ | refine Qo rfl ?_ | refine Qs ?_)
    refine ⟨i + 1, by show i + 1 ≤ b.length; omega, by show b.length - (i + 1) < b.length - i; omega, imp_tidy0 ?_⟩
    refine fa_cons (ren_val rfl (u8_ids' b)) (fa_cons (ren_val rfl trivial) (fa_cons (ren_val ?_ trivial) (fa_cons (ren_val ?_ trivial) fa_nil)))
    · exact congrArg (AV.int .i64) (by rw [wrap_in (by omega) (by omega)]; simp)
    · exact congrArg AV.str (by rw [hexW_take hx])
  · have : i = b.length := by omega
    subst this
    repeat' (first | ((refine Qa rfl ?_); (first | refine Q0 ?_ | refine Q1 ?_); (refine QX rfl rfl ?_)) | refine Qh ?_ | refine Ql ?_ | refine Qo rfl ?_ | refine Qr ?_ | refine Qs ?_)
    refine awp_ret ?_
    exact ⟨_, rfl, by show AV.str (hexW (b.take b.length)) = _; rw [List.take_length]⟩
set_option maxHeartbeats 0 in
theorem rtext_c (X : Nat → Prop) (b : List UInt8) (hb : b.length ≤ 600) : ACalls (E0 X) 26 [.sl 1 (b.map u8A)] [] (fun r H' => r = .str (txtW b) ∧ H' = []) := by
  refine ACalls.cut0 ?_ trivial
  refine acalls_of Proofs.Tryd.func26 rfl Proofs.Tryd.ntmps26 (by kernel_rfl) rfl ?_
  intro hH hargs
  clear hH hargs
  repeat' (first | ((refine Qa rfl ?_); (first | refine Q0 ?_ | refine Q1 ?_ | refine Q2 rfl ?_ | refine Q7 rfl rfl rfl ?_); (refine QX rfl rfl ?_)) | refine Qh ?_ | refine Ql ?_ | refine Qo rfl ?_ | refine Qs ?_)
  refine awp_cond_dec rfl (fun h1 => ?_) (fun h1 => ?_)
  · have : b = [] := List.eq_nil_of_length_eq_zero (by simpa using h1)
    subst this
    repeat' (first | ((refine Qa rfl ?_); (refine Q1 ?_); (refine QX rfl rfl ?_)) | refine Qh ?_ | refine Ql ?_ | refine Qo rfl ?_ | refine Qs ?_)
    refine awp_ret ?_
    exact ⟨_, rfl, rfl⟩
  have hne : b ≠ [] := fun e => h1 (by subst e; rfl)
  rw [txtW, if_neg hne]
  repeat' (first | ((refine Qa rfl ?_); (first | refine Q0 ?_ | refine Q7 rfl rfl rfl ?_ | refine QE rfl rfl ?_); (refine QX rfl rfl ?_)) | refine Qa rfl ?_ | refine Ql ?_ | refine Qm ?_ | refine Qo rfl ?_)
  refine st_sls (l := 0) (h := b.length) (ys := b) (bnd_none) (bnd_some rfl (by simp; omega)) (by omega) (by simp) (by simp) rfl rfl rfl rfl rfl ?_
  first | refine nx rfl rfl ?_ | refine nx0 ?_
  repeat' (refine Qa rfl ?_)
  refine st_call (fun _ => rfl) rfl ?_
  refine ACalls.mono (acalls_pure (E := E0 X) (fun X => rhex_c X b (by omega)) ⟨u8_ids' _, trivial⟩ _) ?_
  rintro r H' ⟨rfl, rfl⟩
  first | refine nx rfl rfl ?_ | refine nx0 ?_
  repeat' (first | ((refine Qa rfl ?_); (refine Q1 ?_); (refine QX rfl rfl ?_)) | refine Qh ?_ | refine Qs ?_)
  refine awp_ret ?_
  exact ⟨_, rfl, rfl⟩
def numW (n : Int) : List UInt8 := if 0 ≤ n ∧ n ≤ 999999 then Lib.decDigits n.toNat else [63]
set_option maxHeartbeats 0 in
theorem rtnum_c (X : Nat → Prop) (n : Int) : ACalls (E0 X) 27 [.int .i64 n] [] (fun r H' => r = .str (numW n) ∧ H' = []) := by
  refine ACalls.cut0 ?_ trivial
  refine acalls_of Proofs.Tryd.func27 rfl Proofs.Tryd.ntmps27 (by kernel_rfl) rfl ?_
  intro hH hargs
  clear hH hargs
  repeat' (first | ((refine Qa rfl ?_); (first | refine Q0 ?_ | refine Q1 ?_ | refine Q2 rfl ?_); (refine QX rfl rfl ?_)) | refine Qh ?_ | refine Ql ?_ | refine Qo rfl ?_)
  refine Qy rfl rfl (fun h => ?_) (fun h => ?_)
  · rw [numW, if_neg (by omega)]
    repeat' (first | ((refine Qa rfl ?_); (first | refine Q1 ?_ | refine Q5 rfl ?_); (refine QX rfl rfl ?_)) | refine Qh ?_ | refine Qi rfl ?_ | refine Ql ?_ | refine Qo rfl ?_ | refine Qp rfl ?_ | refine Qs ?_)
    refine awp_ret ?_
    exact ⟨_, rfl, rfl⟩
  repeat' (first | ((refine Qa rfl ?_); (first | refine Q0 ?_ | refine Q2 rfl ?_ | refine Q5 rfl ?_); (refine QX rfl rfl ?_)) | refine Qh ?_ | refine Qs ?_)
  refine awp_cond_dec rfl (fun h2 => ?_) (fun h2 => ?_)
  · rw [numW, if_neg (by omega)]
    repeat' (first | ((refine Qa rfl ?_); (refine Q1 ?_); (refine QX rfl rfl ?_)) | refine Qh ?_ | refine Ql ?_ | refine Qo rfl ?_ | refine Qs ?_)
    refine awp_ret ?_
    exact ⟨_, rfl, rfl⟩
  rw [numW, if_pos (by omega)]
  obtain ⟨k, rfl⟩ : ∃ k : Nat, n = (k : Int) := ⟨n.toNat, by omega⟩
  repeat' (first | ((refine Qa rfl ?_); (refine Q0 ?_); (refine QX rfl rfl ?_)) | refine Qa rfl ?_ | refine Ql ?_ | refine Qm ?_ | refine Qo rfl ?_)
  refine st_call (fun _ => rfl) rfl ?_
  refine ACalls.mono (acalls_pure (E := E0 X) (fun X => rdec_c k X (by omega)) (by simp [IdsLtL, IdsLt]) _) ?_
  rintro r H' ⟨rfl, rfl⟩
  first | refine nx rfl rfl ?_ | refine nx0 ?_
  repeat' (first | ((refine Qa rfl ?_); (refine Q1 ?_); (refine QX rfl rfl ?_)) | refine Qh ?_ | refine Qs ?_)
  refine awp_ret ?_
  exact ⟨_, rfl, rfl⟩
end Go.Abs

