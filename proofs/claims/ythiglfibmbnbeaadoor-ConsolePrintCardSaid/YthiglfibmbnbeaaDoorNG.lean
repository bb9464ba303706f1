/- The reference: number, digit. Joined texts, each with what its own name promises; no condition beyond those stated. -/
import Derived.Test.YthiglfibmbnbeaaDoorNF
namespace Go.Abs
def resN : Option Nat → AV
  | some n => .tup [.int .i64 (n : Int), .bool true]
  | none => .tup [.int .i64 0, .bool false]
theorem resN_ids (x : Option Nat) : IdsLt 0 (resN x) := by cases x <;> exact ⟨trivial, trivial, trivial⟩
theorem dig_wrap8 {a c : Nat} (d1 : 48 ≤ c) (d2 : c ≤ 57) (ha : a < 1000000) :
    IntKind.i64.wrap (IntKind.i64.wrap (10 * (a : Int)) + IntKind.i64.wrap (IntKind.u8.wrap ((c : Int) - 48))) = ((10 * a + (c - 48) : Nat) : Int) := by
  have e1 : IntKind.u8.wrap ((c : Int) - 48) = (c : Int) - 48 := by
    simp only [IntKind.wrap, IntKind.signed, IntKind.bits]
    simp
    omega
  rw [e1, wrap_in (n := 10 * (a : Int)) (by omega) (by omega), wrap_in (n := (c : Int) - 48) (by omega) (by omega), wrap_in (by omega) (by omega)]
  omega
attribute [local irreducible] AStep aops AWp Nx awM APanic
set_option maxHeartbeats 0 in
theorem rnum_c (X : Nat → Prop) (s : List UInt8) : ACalls (E0 X) 37 [.str s] [] (fun r H' => r = resN (numP s) ∧ H' = []) := by
  refine ACalls.cut0 ?_ (resN_ids _)
  by_cases hb : badHead s
  · rw [numP, if_pos hb]
    rcases hb with hs | hs | ⟨hs, hs2⟩
    · subst hs
      refine acalls_of Proofs.Tryd.func37 rfl Proofs.Tryd.ntmps37 (by kernel_rfl) rfl ?_
      intro hH hargs
      clear hH hargs
      repeat' (first | ((refine Qa rfl ?_); (first | refine Q0 ?_ | refine Q1 ?_ | refine Q2 rfl ?_ | refine Q5 rfl ?_ | refine Q8 rfl rfl rfl ?_); (refine QX rfl rfl ?_)) | refine Qh ?_ | refine Qi rfl ?_ | refine Ql ?_ | refine Qo rfl ?_ | refine Qp rfl ?_ | refine Qs ?_)
      refine awp_ret ?_
      exact ⟨_, rfl, rfl⟩
    · refine acalls_of Proofs.Tryd.func37 rfl Proofs.Tryd.ntmps37 (by kernel_rfl) rfl ?_
      intro hH hargs
      clear hH hargs
      repeat' (first | ((refine Qa rfl ?_); (first | refine Q0 ?_ | refine Q1 ?_ | refine Q2 rfl ?_ | refine Q8 rfl rfl rfl ?_); (refine QX rfl rfl ?_)) | refine Qh ?_ | refine Ql ?_ | refine Qo rfl ?_)
      refine Qy rfl rfl (fun h => absurd h (by omega)) (fun _ => ?_)
      repeat' ((refine Qa rfl ?_); (first | refine Q0 ?_ | refine Q2 rfl ?_ | refine Q5 rfl ?_ | refine Q8 rfl rfl rfl ?_); (refine QX rfl rfl ?_))
      refine Qy rfl rfl (fun _ => ?_) (fun h => absurd (by omega) h)
      repeat' (first | ((refine Qa rfl ?_); (first | refine Q1 ?_ | refine Q5 rfl ?_); (refine QX rfl rfl ?_)) | refine Qh ?_ | refine Qi rfl ?_ | refine Ql ?_ | refine Qo rfl ?_ | refine Qp rfl ?_ | refine Qs ?_)
      refine awp_ret ?_
      exact ⟨_, rfl, rfl⟩
    · refine acalls_of Proofs.Tryd.func37 rfl Proofs.Tryd.ntmps37 (by kernel_rfl) rfl ?_
      intro hH hargs
      clear hH hargs
      repeat' (first | ((refine Qa rfl ?_); (first | refine Q0 ?_ | refine Q1 ?_ | refine Q2 rfl ?_ | refine Q8 rfl rfl rfl ?_); (refine QX rfl rfl ?_)) | refine Qh ?_ | refine Ql ?_ | refine Qo rfl ?_)
      refine Qy rfl rfl (fun h => absurd h (by omega)) (fun _ => ?_)
      repeat' ((refine Qa rfl ?_); (first | refine Q0 ?_ | refine Q2 rfl ?_ | refine Q5 rfl ?_ | refine Q8 rfl rfl rfl ?_); (refine QX rfl rfl ?_))
      refine Qy rfl rfl (fun _ => ?_) (fun _ => ?_)
      · repeat' (first | ((refine Qa rfl ?_); (first | refine Q1 ?_ | refine Q5 rfl ?_); (refine QX rfl rfl ?_)) | refine Qh ?_ | refine Qi rfl ?_ | refine Ql ?_ | refine Qo rfl ?_ | refine Qp rfl ?_ | refine Qs ?_)
        refine awp_ret ?_
        exact ⟨_, rfl, rfl⟩
      repeat' ((refine Qa rfl ?_); (first | refine Q0 ?_ | refine Q2 rfl ?_ | refine Q8 rfl rfl rfl ?_); (refine QX rfl rfl ?_))
      refine Qy rfl rfl (fun _ => ?_) (fun h => absurd (by omega) h)
      repeat' (first | ((refine Qa rfl ?_); (refine Q0 ?_); (refine QX rfl rfl ?_)) | refine Qa rfl ?_)
      refine st_index_str (j := 0) rfl rfl rfl rfl hs rfl ?_
      first | refine nx rfl rfl ?_ | refine nx0 ?_
      repeat' (first | ((refine Qa rfl ?_); (first | refine Q1 ?_ | refine Q2 rfl ?_ | refine Q5 rfl ?_); (refine QX rfl rfl ?_)) | refine Qh ?_ | refine Ql ?_ | refine Qo rfl ?_ | refine Qp rfl ?_ | refine Qs ?_)
      refine awp_ret ?_
      exact ⟨_, rfl, rfl⟩
  · rw [numP, if_neg hb]
    have hs : ¬ s = [] := fun e => hb (.inl e)
    have h6 : ¬ 6 < s.length := fun e => hb (.inr (.inl e))
    have h0 : 0 < s.length := List.length_pos_iff.2 hs
    obtain ⟨b0, hb0⟩ : ∃ b, s[0]? = some b := ⟨_, List.getElem?_eq_getElem h0⟩
    refine acalls_of Proofs.Tryd.func37 rfl Proofs.Tryd.ntmps37 (by kernel_rfl) rfl ?_
    intro hH hargs
    clear hH hargs
    repeat' (first | ((refine Qa rfl ?_); (first | refine Q0 ?_ | refine Q1 ?_ | refine Q2 rfl ?_ | refine Q8 rfl rfl rfl ?_); (refine QX rfl rfl ?_)) | refine Qh ?_ | refine Ql ?_ | refine Qo rfl ?_)
    refine Qy rfl rfl (fun h => absurd h (by omega)) (fun _ => ?_)
    repeat' ((refine Qa rfl ?_); (first | refine Q0 ?_ | refine Q2 rfl ?_ | refine Q5 rfl ?_ | refine Q8 rfl rfl rfl ?_); (refine QX rfl rfl ?_))
    refine Qy rfl rfl (fun h => absurd h (by omega)) (fun _ => ?_)
    repeat' ((refine Qa rfl ?_); (first | refine Q0 ?_ | refine Q2 rfl ?_ | refine Q8 rfl rfl rfl ?_); (refine QX rfl rfl ?_))
    by_cases h1 : 1 < s.length
    case' pos =>
      have hz : b0 ≠ 48 := fun e => hb (.inr (.inr ⟨by rw [hb0, e], h1⟩))
      rw [decide_eq_true (show (1 : Int) < (s.length : Int) by omega)]
      repeat' (first | ((refine Qa rfl ?_); (refine Q0 ?_); (refine QX rfl rfl ?_)) | refine Qa rfl ?_)
      refine st_index_str (j := 0) rfl rfl rfl rfl hb0 rfl ?_
      first | refine nx rfl rfl ?_ | refine nx0 ?_
      repeat' (first | ((refine Qa rfl ?_); (first | refine Q2 rfl ?_ | refine Q5 rfl ?_); (refine QX rfl rfl ?_)) | refine Qh ?_ | refine Qs ?_)
      rw [decide_eq_false (show ¬ ((b0.toNat : Int)) = 48 from fun h => hz (UInt8.toNat_inj.1 (by show b0.toNat = 48; omega)))]
      repeat' (first | ((refine Qa rfl ?_); (refine Q1 ?_); (refine QX rfl rfl ?_)) | refine Qh ?_ | refine Ql ?_ | refine Qm ?_ | refine Qn ?_ | refine Qo rfl ?_ | refine Qq rfl ?_)
    case' neg =>
      rw [decide_eq_false (show ¬ (1 : Int) < (s.length : Int) by omega)]
      repeat' (first | ((refine Qa rfl ?_); (first | refine Q1 ?_ | refine Q5 rfl ?_); (refine QX rfl rfl ?_)) | refine Qh ?_ | refine Qi rfl ?_ | refine Ql ?_ | refine Qm ?_ | refine Qn ?_ | refine Qo rfl ?_ | refine Qq rfl ?_)
    all_goals
      refine awp_loop2 (fun i : Nat × Nat => ⟨[(0, .str s), (4, .int .i64 (i.2 : Int)), (5, .int .i64 (i.1 : Int))], []⟩) (fun i => i.1 ≤ s.length ∧ digs (s.drop i.1) i.2 = digs s 0 ∧ i.2 < 10 ^ i.1) (fun i => s.length - i.1) (0, 0) ⟨Nat.zero_le _, rfl, by decide⟩ ?_ ?_
      · exact imp_tidy0 (fa_cons (ren_val rfl trivial) (fa_cons (ren_val rfl trivial) (fa_cons (ren_val rfl trivial) fa_nil)))
      rintro ⟨p, a⟩ ⟨hp, hd, ha⟩
      simp only at hp hd ha ⊢
      have hpw : 10 ^ p ≤ 1000000 := Nat.le_trans (Nat.pow_le_pow_right (by decide) (show p ≤ 6 by omega)) (by decide)
      repeat' (first | ((refine Qa rfl ?_); (first | refine Q0 ?_ | refine Q2 rfl ?_ | refine Q8 rfl rfl rfl ?_); (refine QX rfl rfl ?_)) | refine Qh ?_ | refine Ql ?_ | refine Qo rfl ?_ | refine Qs ?_)
      refine awp_cond_dec rfl (fun h2 => ?_) (fun h2 => ?_)
      · obtain ⟨b, hpb⟩ : ∃ b, s[p]? = some b := ⟨_, List.getElem?_eq_getElem (by omega)⟩
        rw [digs_at hpb] at hd
        repeat' (first | ((refine Qa rfl ?_); (refine Q0 ?_); (refine QX rfl rfl ?_)) | refine Qa rfl ?_ | refine Ql ?_ | refine Qm ?_ | refine Qn ?_ | refine Qo rfl ?_)
        refine st_index_str (j := p) rfl rfl rfl rfl hpb rfl ?_
        first | refine nx rfl rfl ?_ | refine nx0 ?_
        repeat' ((refine Qa rfl ?_); (first | refine Q0 ?_ | refine Q2 rfl ?_); (refine QX rfl rfl ?_))
        refine Qy rfl rfl (fun g => ?_) (fun g => ?_)
        · rw [if_neg (fun hd : isDig b => by have := hd.1; omega)] at hd
          rw [← hd]
          repeat' (first | ((refine Qa rfl ?_); (first | refine Q1 ?_ | refine Q5 rfl ?_); (refine QX rfl rfl ?_)) | refine Qh ?_ | refine Qi rfl ?_ | refine Ql ?_ | refine Qo rfl ?_ | refine Qp rfl ?_ | refine Qs ?_)
          refine awp_ret ?_
          exact ⟨_, rfl, rfl⟩
        repeat' (first | ((refine Qa rfl ?_); (refine Q0 ?_); (refine QX rfl rfl ?_)) | refine Qa rfl ?_)
        refine st_index_str (j := p) rfl rfl rfl rfl hpb rfl ?_
        first | refine nx rfl rfl ?_ | refine nx0 ?_
        repeat' (first | ((refine Qa rfl ?_); (first | refine Q2 rfl ?_ | refine Q5 rfl ?_); (refine QX rfl rfl ?_)) | refine Qh ?_ | refine Qs ?_)
        refine awp_cond_dec rfl (fun g2 => ?_) (fun g2 => ?_)
        · rw [if_neg (fun hd : isDig b => by have := hd.2; omega)] at hd
          rw [← hd]
          repeat' (first | ((refine Qa rfl ?_); (refine Q1 ?_); (refine QX rfl rfl ?_)) | refine Qh ?_ | refine Ql ?_ | refine Qo rfl ?_ | refine Qs ?_)
          refine awp_ret ?_
          exact ⟨_, rfl, rfl⟩
        have hdig : isDig b := ⟨by omega, by omega⟩
        rw [if_pos hdig] at hd
        obtain ⟨d1, d2⟩ := hdig
        repeat' (first | ((refine Qa rfl ?_); (first | refine Q0 ?_ | refine Q2 rfl ?_); (refine QX rfl rfl ?_)) | refine Qa rfl ?_ | refine Qm ?_ | refine Qo rfl ?_)
        refine st_index_str (j := p) rfl rfl rfl rfl hpb rfl ?_
        first | refine nx rfl rfl ?_ | refine nx0 ?_
        repeat' (first | ((refine Qa rfl ?_); (first | refine Q0 ?_ | refine Q1 ?_ | refine Q2 rfl ?_ | refine QG rfl rfl rfl rfl ?_); (refine QX rfl rfl ?_)) | refine Qh ?_ | refine Qo rfl ?_ | refine Qs ?_)
        refine ⟨(p + 1, 10 * a + (b.toNat - 48)), ⟨by show p + 1 ≤ _; omega, hd, by show 10 * a + (b.toNat - 48) < 10 ^ (p + 1); rw [Nat.pow_succ]; omega⟩, by show s.length - (p + 1) < s.length - p; omega, imp_tidy0 (fa_cons (ren_val rfl trivial) (fa_cons (ren_val ?_ trivial) (fa_cons (ren_val ?_ trivial) fa_nil)))⟩
        · exact congrArg (AV.int .i64) (dig_wrap8 d1 d2 (by omega))
        · exact congrArg (AV.int .i64) (by rw [wrap_in (by omega) (by omega)]; simp)
      · have hpe : p = s.length := by omega
        rw [hpe, List.drop_length, digs_nil] at hd
        rw [← hd]
        repeat' (first | ((refine Qa rfl ?_); (first | refine Q0 ?_ | refine Q1 ?_); (refine QX rfl rfl ?_)) | refine Qh ?_ | refine Ql ?_ | refine Qo rfl ?_ | refine Qr ?_ | refine Qs ?_)
        first
        | (refine awp_ret ?_; exact ⟨_, rfl, rfl⟩)
        | exact ⟨_, rfl, rfl⟩
theorem idx_first {c : UInt8} : ∀ (s : List UInt8) (i : Nat), (∀ j, j < i → s[j]? ≠ some c) → s[i]? = some c → idxB s c = (i : Int)
  | [], i, _, h => by simp at h
  | b :: s, 0, _, h => by
    rw [idxB_cons]
    simp at h
    subst h
    simp
  | b :: s, i + 1, hn, h => by
    have h0 : b ≠ c := fun e => hn 0 (Nat.succ_pos _) (by simp [e])
    have ih := idx_first s i (fun j hj => by have := hn (j + 1) (by omega); simpa using this) (by simpa using h)
    rw [idxB_cons, if_neg (by simpa using h0), ih, if_neg (by simp)]
    omega
theorem idx_never {c : UInt8} : ∀ (s : List UInt8), (∀ j, j < s.length → s[j]? ≠ some c) → idxB s c = -1
  | [], _ => rfl
  | b :: s, hn => by
    have h0 : b ≠ c := fun e => hn 0 (Nat.succ_pos _) (by simp [e])
    have ih := idx_never s (fun j hj => by have := hn (j + 1) (by simpa using hj); simpa using this)
    rw [idxB_cons, if_neg (by simpa using h0), ih]
    rfl
set_option maxHeartbeats 0 in
theorem rdig_c (X : Nat → Prop) (c : UInt8) : ACalls (E0 X) 58 [.int .u8 (c.toNat : Int)] [] (fun r H' => r = .int .i64 (idxB hexS c) ∧ H' = []) := by
  refine ACalls.cut0 ?_ trivial
  refine acalls_of Proofs.Tryd.func58 rfl Proofs.Tryd.ntmps58 (by kernel_rfl) rfl ?_
  intro hH hargs
  clear hH hargs
  repeat' (first | ((refine Qa rfl ?_); (refine Q1 ?_); (refine QX rfl rfl ?_)) | refine Qh ?_ | refine Ql ?_ | refine Qn ?_ | refine Qo rfl ?_)
  refine awp_loop2 (fun i : Nat => ⟨[(0, .int .u8 (c.toNat : Int)), (3, .int .i64 (i : Int))], []⟩) (fun i => i ≤ 16 ∧ ∀ j, j < i → hexS[j]? ≠ some c) (fun i => 16 - i) 0 ⟨Nat.zero_le _, fun j h => absurd h (Nat.not_lt_zero j)⟩ ?_ ?_
  · exact imp_tidy0 (fa_cons (ren_val rfl trivial) (fa_cons (ren_val rfl trivial) fa_nil))
  rintro i ⟨hi, hn⟩
  repeat' (first | ((refine Qa rfl ?_); (first | refine Q0 ?_ | refine Q2 rfl ?_); (refine QX rfl rfl ?_)) | refine Qh ?_ | refine Ql ?_ | refine Qo rfl ?_ | refine Qs ?_)
  refine awp_cond_dec rfl (fun h2 => ?_) (fun h2 => ?_)
  · obtain ⟨b, hb⟩ : ∃ b, hexS[i]? = some b := ⟨_, List.getElem?_eq_getElem (by show i < 16; omega)⟩
    repeat' (first | ((refine Qa rfl ?_); (refine Q0 ?_); (refine QX rfl rfl ?_)) | refine Qa rfl ?_ | refine Ql ?_ | refine Qm ?_ | refine Qn ?_ | refine Qo rfl ?_)
    refine st_index_str (l := hexS) (j := i) rfl rfl rfl rfl hb rfl ?_
    first | refine nx rfl rfl ?_ | refine nx0 ?_
    repeat' (first | ((refine Qa rfl ?_); (first | refine Q0 ?_ | refine Q2 rfl ?_); (refine QX rfl rfl ?_)) | refine Qh ?_ | refine Qs ?_)
    refine awp_cond_dec rfl (fun h3 => ?_) (fun h3 => ?_)
    · have hbc : b = c := UInt8.toNat_inj.1 (by omega)
      subst hbc
      rw [idx_first hexS i hn hb]
      repeat' (first | ((refine Qa rfl ?_); (first | refine Q0 ?_ | refine Q1 ?_); (refine QX rfl rfl ?_)) | refine Qh ?_ | refine Ql ?_ | refine Qo rfl ?_ | refine Qs ?_)
      first
      | (refine awp_ret ?_; exact ⟨_, rfl, rfl⟩)
      | exact ⟨_, rfl, rfl⟩
    · repeat' (first | ((refine Qa rfl ?_); (first | refine Q0 ?_ | refine Q1 ?_ | refine Q2 rfl ?_); (refine QX rfl rfl ?_)) | refine Qh ?_ | refine Qm ?_ | refine Qo rfl ?_ | refine Qs ?_)
      refine ⟨i + 1, ⟨by show i + 1 ≤ 16; omega, fun j hj => ?_⟩, by show 16 - (i + 1) < 16 - i; omega, imp_tidy0 (fa_cons (ren_val rfl trivial) (fa_cons (ren_val ?_ trivial) fa_nil))⟩
      · rcases Nat.lt_succ_iff_lt_or_eq.1 hj with h4 | rfl
        · exact hn j h4
        · rw [hb]; intro e; cases e; exact h3 rfl
      · exact congrArg (AV.int .i64) (by rw [wrap_in (by omega) (by omega)]; simp)
  · have : i = 16 := by omega
    subst this
    rw [idx_never hexS hn]
    repeat' (first | ((refine Qa rfl ?_); (refine Q1 ?_); (refine QX rfl rfl ?_)) | refine Qh ?_ | refine Ql ?_ | refine Qo rfl ?_ | refine Qr ?_ | refine Qs ?_)
    first
    | (refine awp_ret ?_; exact ⟨_, rfl, rfl⟩)
    | exact ⟨_, rfl, rfl⟩
end Go.Abs
namespace Go.Abs
attribute [local irreducible] AStep aops AWp Nx awM APanic
def glueW (ini : List (List UInt8)) (la : List UInt8) (ws : List (List UInt8)) : List (List UInt8) := ini ++ match ws with
  | w :: ws => (la ++ w) :: ws
  | [] => [la]
theorem glue_sp (ini : List (List UInt8)) (la : List UInt8) (l : List UInt8) : glueW ini la (wordsB 32 (32 :: l)) = glueW (ini ++ [la]) [] (wordsB 32 l) := by
  rw [wordsB_cons, if_pos rfl]
  obtain ⟨x, xs, hx⟩ := List.exists_cons_of_ne_nil (wordsB_ne 32 l)
  rw [hx]
  simp [glueW]
theorem glue_ch (ini : List (List UInt8)) (la : List UInt8) (b : UInt8) (l : List UInt8) (hb : b ≠ 32) : glueW ini la (wordsB 32 (b :: l)) = glueW ini (la ++ [b]) (wordsB 32 l) := by
  rw [wordsB_cons, if_neg hb]
  obtain ⟨x, xs, hx⟩ := List.exists_cons_of_ne_nil (wordsB_ne 32 l)
  rw [hx]
  simp [glueW]
structure WI where
  i : Nat
  ini : List (List UInt8)
  la : List UInt8
set_option maxHeartbeats 0 in
theorem rwords_c (X : Nat → Prop) (s : List UInt8) (hs : s.length ≤ 1000000) : ACalls (E0 X) 21 [.str s] [] (fun r H' => r = .sl 1 ((wordsB 32 s).map strA) ∧ H' = []) := by
  refine ACalls.frz0 (e := 9) 1 ?_ rfl rfl (ids_str _)
  refine acalls_of Proofs.Tryd.func21 rfl Proofs.Tryd.ntmps21 (by kernel_rfl) rfl ?_
  intro hH hargs
  clear hH hargs
  repeat' (first | ((refine Qa rfl ?_); (refine Q1 ?_); (refine QX rfl rfl ?_)) | refine Qa rfl ?_ | refine Qh ?_ | refine Ql ?_ | refine Qo rfl ?_)
  refine st_buildSlice_own (cs := [.str []]) rfl rfl rfl rfl rfl rfl rfl (.inr rfl) rfl (.inr rfl) ?_
  first | refine nx rfl rfl ?_ | refine nx0 ?_
  repeat' (first | ((refine Qa rfl ?_); (refine Q1 ?_); (refine QX rfl rfl ?_)) | refine Qh ?_ | refine Ql ?_ | refine Qn ?_ | refine Qo rfl ?_)
  refine awp_loop2 (fun x : WI => ⟨[(0, .str s), (3, .own 0 0 (x.ini.length + 1)), (4, .int .i64 (x.i : Int))], [some (.arr ((x.ini ++ [x.la]).map strA) 9)]⟩) (fun x => x.i ≤ s.length ∧ glueW x.ini x.la (wordsB 32 (s.drop x.i)) = wordsB 32 s ∧ x.ini.length ≤ x.i ∧ x.la.length ≤ x.i) (fun x => s.length - x.i) ⟨0, [], []⟩ ⟨Nat.zero_le _, ?_, Nat.zero_le _, Nat.zero_le _⟩ ?_ ?_
  · show glueW [] [] (wordsB 32 s) = _
    obtain ⟨x, xs, hx⟩ := List.exists_cons_of_ne_nil (wordsB_ne 32 s)
    rw [hx]; rfl
  · refine imp_tidy [0] (os := [.arr [strA []] 9]) (by simp) rfl ?_ ?_
    · exact fa_cons (ren_val rfl trivial) (fa_cons (ren_own rfl) (fa_cons (ren_val rfl trivial) fa_nil))
    · exact os_cons rfl (renO_val rfl ⟨trivial, trivial⟩) os_nil
  rintro ⟨i, ini, la⟩ ⟨hi, hg, hl1, hl2⟩
  simp only at hi hg hl1 hl2 ⊢
  repeat' (first | ((refine Qa rfl ?_); (first | refine Q0 ?_ | refine Q2 rfl ?_ | refine Q8 rfl rfl rfl ?_); (refine QX rfl rfl ?_)) | refine Qh ?_ | refine Ql ?_ | refine Qo rfl ?_ | refine Qs ?_)
  refine awp_cond_dec rfl (fun h2 => ?_) (fun h2 => ?_)
  · obtain ⟨b, hb⟩ : ∃ b, s[i]? = some b := ⟨_, List.getElem?_eq_getElem (by omega)⟩
    rw [drop_at hb] at hg
    repeat' (first | ((refine Qa rfl ?_); (refine Q0 ?_); (refine QX rfl rfl ?_)) | refine Qa rfl ?_ | refine Ql ?_ | refine Qm ?_ | refine Qn ?_ | refine Qo rfl ?_)
    refine st_index_str (j := i) rfl rfl rfl rfl hb rfl ?_
    first | refine nx rfl rfl ?_ | refine nx0 ?_
    repeat' (first | ((refine Qa rfl ?_); (refine Q2 rfl ?_); (refine QX rfl rfl ?_)) | refine Qh ?_ | refine Qs ?_)
    refine awp_cond_dec rfl (fun h3 => ?_) (fun h3 => ?_)
    · have hb32 : b = 32 := UInt8.toNat_inj.1 (by show b.toNat = 32; omega)
      subst hb32
      rw [glue_sp] at hg
      repeat' (first | ((refine Qa rfl ?_); (first | refine Q0 ?_ | refine QR rfl rfl rfl rfl rfl rfl rfl rfl rfl rfl rfl rfl ?_); (refine QX rfl rfl ?_)) | refine Qa rfl ?_ | refine Ql ?_ | refine Qo rfl ?_)
      refine st_app (oid := some 0) (es := (ini ++ [la]).map strA) (out := ((ini ++ [la]) ++ [[]]).map strA) (n := ini.length + 2) (dst_own rfl (by simp)) (rfl) (oneEs_str [[]]) (by simp [strA]) (by simp) (by show _ ≤ 9223372036854775807; omega) (by show _ * 16 ≤ _; omega) rfl rfl rfl rfl rfl rfl rfl rfl ?_
      first | refine nx rfl rfl ?_ | refine nx0 ?_
      repeat' (first | ((refine Qa rfl ?_); (first | refine Q0 ?_ | refine Q1 ?_ | refine Q2 rfl ?_); (refine QX rfl rfl ?_)) | refine Qh ?_ | refine Qo rfl ?_ | refine Qr ?_ | refine Qs ?_)
      refine ⟨⟨i + 1, ini ++ [la], []⟩, ⟨by show i + 1 ≤ _; omega, hg, by simp; omega, Nat.zero_le _⟩, by show s.length - (i + 1) < s.length - i; omega, imp_tidy [1] (os := [.arr (((ini ++ [la]) ++ [[]]).map strA) 9]) (by simp) rfl ?_ ?_⟩
      · refine fa_cons (ren_val rfl trivial) (fa_cons ?_ (fa_cons (ren_val ?_ trivial) fa_nil))
        · show Ren _ (.own 1 0 (ini.length + 2)) (.own 0 0 ((ini ++ [la]).length + 1))
          rw [List.length_append]
          exact ren_own rfl
        · exact congrArg (AV.int .i64) (by rw [wrap_in (by omega) (by omega)]; simp)
      · exact os_cons rfl (renO_val rfl (ids_str _)) os_nil
    · have hb32 : b ≠ 32 := fun e => h3 (by rw [e]; rfl)
      rw [glue_ch _ _ _ _ hb32] at hg
      have hw1 : IntKind.i64.wrap (((ini.length + 1 : Nat) : Int) - 1) = ((ini.length : Nat) : Int) := by rw [wrap_in (by omega) (by omega)]; omega
      have hw2 : IntKind.i64.wrap ((i : Int) + 1) = ((i + 1 : Nat) : Int) := by rw [wrap_in (by omega) (by omega)]; simp
      have hsl : (s.take (i + 1)).drop i = [b] := by
        rw [List.drop_take, drop_at hb, Nat.add_sub_cancel_left]; rfl
      have hget : ((ini ++ [la]).map strA)[ini.length]? = some (strA la) := by simp
      repeat' (first | refine Qm ?_ | refine Qs ?_)
      refine awp_region_any [13] [0, 1, 2, 3, 6, 7, 8, 9, 11] (by exact rfl) ?_
      refine any_lin (fuel := 0) [0, 1, 2, 3, 6, 7, 8, 9, 4, 5, 10, 11, 12, 13] (by exact rfl) (by kernel_rfl) (by kernel_rfl) ?_
      repeat' ((first | apply Qd rfl rfl rfl rfl | (apply Qe rfl rfl rfl rfl; intro H9)); (first | refine Q0 ?_ | refine Q2 rfl ?_ | refine Q7 rfl rfl rfl ?_); (exact QY rfl ⟨rfl, rfl⟩))
      apply ds rfl rfl rfl rfl
      · refine st_ixo (j := ini.length) (p := ini.length) (hw1) (by first | omega | assumption | (simp; omega)) (by omega) rfl rfl rfl rfl rfl rfl rfl rfl ?_
        first | exact nx rfl rfl ⟨rfl, rfl⟩ | exact nx0 ⟨rfl, rfl⟩
      apply ds rfl rfl rfl rfl
      · refine st_load_pe rfl rfl (y := strA la) hget rfl rfl rfl ?_
        first | exact nx rfl rfl ⟨rfl, rfl⟩ | exact nx0 ⟨rfl, rfl⟩
      apply ds rfl rfl rfl rfl
      · refine st_sst (l := i) (h := i + 1) (ys := [b]) (bnd_some rfl rfl) (bnd_some rfl hw2) (by omega) (by omega) (hsl) rfl rfl rfl ?_
        first | exact nx rfl rfl ⟨rfl, rfl⟩ | exact nx0 ⟨rfl, rfl⟩
      apply ds_soN rfl rfl rfl rfl
      · intro H9
        refine st_sadd rfl rfl (by simp; omega) ?_
        first | exact nxs rfl ⟨rfl, rfl⟩ | exact nx0 ⟨rfl, rfl⟩
      apply ds rfl rfl rfl rfl
      · refine st_ixo (j := ini.length) (p := ini.length) (hw1) (by first | omega | assumption | (simp; omega)) (by omega) rfl rfl rfl rfl rfl rfl rfl rfl ?_
        first | exact nx rfl rfl ⟨rfl, rfl⟩ | exact nx0 ⟨rfl, rfl⟩
      refine ds_ef0 rfl rfl rfl ?_
      refine st_store_pe rfl rfl rfl rfl (y := strA la) hget rfl rfl rfl rfl rfl ?_
      first | refine nx rfl rfl ?_ | refine nx0 ?_
      repeat' (first | ((refine Qa rfl ?_); (first | refine Q0 ?_ | refine Q1 ?_ | refine Q2 rfl ?_); (refine QX rfl rfl ?_)) | refine Qh ?_ | refine Qk ?_ | refine Qo rfl ?_ | refine Qs ?_ | refine Qw (by kernel_rfl) ?_)
      have hset : ((ini ++ [la]).map strA).set ini.length (AV.str (la ++ [b])) = (ini ++ [la ++ [b]]).map strA := by simp [strA]
      refine ⟨⟨i + 1, ini, la ++ [b]⟩, ⟨by show i + 1 ≤ _; omega, hg, by show ini.length ≤ i + 1; omega, by simp; omega⟩, by show s.length - (i + 1) < s.length - i; omega, imp_tidy [0] (os := [.arr ((ini ++ [la ++ [b]]).map strA) 9]) (by simp) rfl ?_ ?_⟩
      · refine fa_cons (ren_val rfl trivial) (fa_cons (ren_own rfl) (fa_cons (ren_val ?_ trivial) fa_nil))
        exact congrArg (AV.int .i64) hw2
      · exact os_cons rfl (renO_val2 (congrArg (fun l => AO.arr l 9) hset) (ids_str _)) os_nil
  · have hie : i = s.length := by omega
    subst hie
    rw [List.drop_length] at hg
    repeat' (first | ((refine Qa rfl ?_); (first | refine Q0 ?_ | refine Q1 ?_); (refine QX rfl rfl ?_)) | refine Qh ?_ | refine Ql ?_ | refine Qo rfl ?_ | refine Qr ?_ | refine Qs ?_)
    refine awp_ret ?_
    refine ⟨_, rfl, 0, ini.length + 1, rfl, ?_, ?_⟩
    · rw [← hg]; simp [glueW, wordsB]
    · rw [← hg]; simp [glueW, wordsB]
end Go.Abs
namespace Go.Abs
def pairsQ : List UInt8 → Option (List UInt8)
  | a :: b :: l => match digV a, digV b with
    | some x, some y => (pairsQ l).map (hexJ x y :: ·)
    | _, _ => none
  | [] => some []
  | [_] => some []
/-- What the reference's bytes returns. -/
def byR (s : List UInt8) : List UInt8 × Bool := if s = [45] then ([], true) else match pairsQ s with
  | none => ([], false)
  | some l => (l, decide (0 < s.length ∧ s.length % 2 = 0))
theorem pairsQ_even : ∀ s : List UInt8, s.length % 2 = 0 → pairsQ s = pairs s
  | [], _ => rfl
  | [_], h => by simp at h
  | a :: b :: l, h => by
    unfold pairsQ pairs
    rw [pairsQ_even l (by simp at h; omega)]
    cases digV a <;> cases digV b <;> rfl
theorem pairsQ_two (a b : UInt8) (l : List UInt8) : pairsQ (a :: b :: l) = match digV a, digV b with
    | some x, some y => (pairsQ l).map (hexJ x y :: ·)
    | _, _ => none := rfl
theorem pairsQ_end {s : List UInt8} (h : s.length ≤ 1) : pairsQ s = some [] := by
  match s, h with
  | [], _ => rfl
  | [_], _ => rfl
theorem byR_some {s k : List UInt8} (h : textP s = some k) : byR s = (k, true) := by
  unfold textP at h
  unfold byR
  split at h
  · rename_i e; cases h; rw [if_pos e]
  · rename_i e
    rw [if_neg e]
    split at h
    · cases h
    · rename_i h2
      have hl : s.length ≠ 0 := fun e => h2 (.inl (List.eq_nil_of_length_eq_zero e))
      rw [pairsQ_even s (by omega), h]
      simp; omega
theorem byR_none {s : List UInt8} (h : textP s = none) : (byR s).2 = false := by
  unfold textP at h
  unfold byR
  split at h
  · cases h
  · rename_i e
    rw [if_neg e]
    split at h
    · rename_i h2
      split
      · rfl
      · simp only [decide_eq_false_iff_not]
        rintro ⟨h3, h4⟩
        rcases h2 with rfl | h2
        · simp at h3
        · exact h2 h4
    · rename_i h2
      rw [pairsQ_even s (by omega), h]
theorem byR_ok (s : List UInt8) : (byR s).2 = (textP s).isSome := by
  cases h : textP s with
  | none => exact byR_none h
  | some k => rw [byR_some h]; rfl
theorem digV_idx {a x : UInt8} (h : digV a = some x) : idxB hexS a = (x.toNat : Int) := by
  have h16 := idx_hex a
  have h0 : ¬ idxB hexS a < 0 := fun h1 => by rw [digV, if_pos h1] at h; cases h
  rw [digV, if_neg h0] at h
  cases h
  rw [UInt8.toNat_ofNat']
  omega
theorem digV_neg {a : UInt8} : digV a = none ↔ idxB hexS a < 0 := by
  unfold digV
  split
  · simp [*]
  · simp [*]
theorem conv_hex {x y : UInt8} (hx : x.toNat < 16) (hy : y.toNat < 16) : IntKind.u8.wrap (IntKind.i64.wrap (IntKind.i64.wrap (16 * (x.toNat : Int)) + (y.toNat : Int))) = ((hexJ x y).toNat : Int) := by
  rw [hexJ_nat hx hy, wrap_in (n := 16 * (x.toNat : Int)) (by omega) (by omega), wrap_in (by omega) (by omega)]
  simp only [IntKind.wrap, IntKind.signed, IntKind.bits]
  simp
  omega
def resB (s : List UInt8) : AV := .tup [.sl 1 ((byR s).1.map u8A), .bool (byR s).2]
theorem resB_ids (s : List UInt8) : IdsLt 0 (resB s) := ⟨u8_ids' _, trivial, trivial⟩
attribute [local irreducible] AStep aops AWp Nx awM APanic
set_option maxHeartbeats 0 in
theorem rbytes_c (X : Nat → Prop) (s : List UInt8) (hs : s.length ≤ 1000000) : ACalls (E0 X) 36 [.str s] [] (fun r H' => r = resB s ∧ H' = []) := by
  refine ACalls.cut0 (ACalls.wkR (R := fun r _ => Wk r (resB s)) ?_ fun r H' h => ⟨_, rfl, h⟩) (resB_ids _)
  by_cases h1 : s = [45]
  · rw [resB, byR, if_pos h1]
    subst h1
    refine acalls_of Proofs.Tryd.func36 rfl Proofs.Tryd.ntmps36 (by kernel_rfl) rfl ?_
    intro hH hargs
    clear hH hargs
    repeat' (first | ((refine Qa rfl ?_); (first | refine Q0 ?_ | refine Q1 ?_ | refine Q2 rfl ?_); (refine QX rfl rfl ?_)) | refine Qh ?_ | refine Ql ?_ | refine Qo rfl ?_ | refine Qp rfl ?_ | refine Qs ?_)
    refine awp_ret ?_
    exact ⟨_, rfl, wk_tup (wkL_cons wk_nil (WkL.refl _))⟩
  rw [resB, byR, if_neg h1]
  refine acalls_of Proofs.Tryd.func36 rfl Proofs.Tryd.ntmps36 (by kernel_rfl) rfl ?_
  intro hH hargs
  clear hH hargs
  repeat' (first | ((refine Qa rfl ?_); (first | refine Q0 ?_ | refine Q1 ?_ | refine Q2 rfl ?_); (refine QX rfl rfl ?_)) | refine Qh ?_ | refine Ql ?_ | refine Qo rfl ?_ | refine Qs ?_)
  rw [decide_eq_false (show ¬ s = ({ data := #[45] } : ByteArray).data.toList from h1)]
  repeat' (first | ((refine Qa rfl ?_); (refine Q1 ?_); (refine QX rfl rfl ?_)) | refine Qh ?_ | refine Ql ?_ | refine Qm ?_ | refine Qn ?_ | refine Qo rfl ?_ | refine Qq rfl ?_)
  refine awp_loop2 (fun i : Nat × List UInt8 => ⟨[(0, .str s), (4, .own 0 0 i.2.length), (5, .int .i64 ((2 * i.1 : Nat) : Int))], [some (.arr (i.2.map u8A) 5)]⟩) (fun i => 2 * i.1 ≤ s.length + 1 ∧ i.2.length = i.1 ∧ (pairsQ (s.drop (2 * i.1))).map (i.2 ++ ·) = pairsQ s) (fun i => s.length - i.1) (0, []) ⟨Nat.zero_le _, rfl, by simp⟩ ?_ ?_
  · refine Imp.trans (imp_nil 4 5 rfl) (imp_cutk 1 (Nat.zero_le _) (hok_u8 []) rfl (by simp) ?_)
    repeat' (first | exact fa_nil | refine fa_cons ⟨?_, ?_⟩ ?_)
    all_goals (try first | exact rfl | exact trivial | (simp [IdsLt]; done) | (simp [get_cons]; done) | (simp [get_cons, *]; done) | (refine congrArg (AV.int .i64) (wrap_eq ?_ ?_ ?_) <;> (first | omega | (simp; omega))))
  rintro ⟨k, o⟩ ⟨hk, ho, hp⟩
  simp only at hk ho hp ⊢
  have e1 : IntKind.i64.wrap (((2 * k : Nat) : Int) + 1) = ((2 * k + 1 : Nat) : Int) := by rw [wrap_in (by omega) (by omega)]; simp
  have e2 : IntKind.i64.wrap (((2 * k : Nat) : Int) + 2) = ((2 * (k + 1) : Nat) : Int) := by rw [wrap_in (by omega) (by omega)]; omega
  repeat' (first | ((refine Qa rfl ?_); (first | refine Q0 ?_ | refine Q2 rfl ?_ | refine Q8 rfl rfl rfl ?_); (refine QX rfl rfl ?_)) | refine Qh ?_ | refine Ql ?_ | refine Qo rfl ?_ | refine Qs ?_)
  rw [e1]
  refine awp_cond_dec rfl (fun h5 => ?_) (fun h5 => ?_)
  · obtain ⟨a, ha⟩ : ∃ a, s[2 * k]? = some a := ⟨_, List.getElem?_eq_getElem (by omega)⟩
    obtain ⟨b, hb⟩ : ∃ b, s[2 * k + 1]? = some b := ⟨_, List.getElem?_eq_getElem (by omega)⟩
    rw [drop_two ha hb, pairsQ_two] at hp
    repeat' (first | refine Ql ?_ | refine Qm ?_ | refine Qn ?_)
    refine awp_region_auto2 [] [] (by exact rfl) (by kernel_rfl) ?_
    repeat' ((apply Qd rfl rfl rfl rfl); (refine Q0 ?_); (exact QX rfl rfl ⟨rfl, rfl⟩))
    apply ds rfl rfl rfl rfl
    · refine st_index_str (j := 2 * k) rfl rfl rfl rfl (ha) (rfl) ?_
      first | exact nx rfl rfl ⟨rfl, rfl⟩ | exact nx0 ⟨rfl, rfl⟩
    skip
    apply ds rfl rfl rfl rfl
    · refine st_call (fun _ => rfl) rfl ?_
      refine ACalls.mono (acalls_pure (E := E0 X) (fun X => rdig_c X a) (by simp [IdsLtL, IdsLt]) _) ?_
      rintro r H' ⟨rfl, rfl⟩
      first
      | exact nx rfl rfl ⟨rfl, rfl⟩
      | exact nx0 ⟨rfl, rfl⟩
    repeat' ((apply Qd rfl rfl rfl rfl); (first | refine Q0 ?_ | refine Q2 rfl ?_); (exact QX rfl rfl ⟨rfl, rfl⟩))
    apply ds rfl rfl rfl rfl
    · refine st_index_str (j := 2 * k + 1) rfl rfl rfl rfl (hb) (e1) ?_
      first | exact nx rfl rfl ⟨rfl, rfl⟩ | exact nx0 ⟨rfl, rfl⟩
    skip
    apply ds rfl rfl rfl rfl
    · refine st_call (fun _ => rfl) rfl ?_
      refine ACalls.mono (acalls_pure (E := E0 X) (fun X => rdig_c X b) (by simp [IdsLtL, IdsLt]) _) ?_
      rintro r H' ⟨rfl, rfl⟩
      first
      | exact nx rfl rfl ⟨rfl, rfl⟩
      | exact nx0 ⟨rfl, rfl⟩
    repeat' (first | ((first | refine Qa rfl ?_ | apply Qd rfl rfl rfl rfl); (first | refine Q0 ?_ | refine Q1 ?_ | refine Q2 rfl ?_); (first | exact QX rfl rfl ⟨rfl, rfl⟩ | refine QX rfl rfl ?_)) | refine Qk ?_ | refine Ql ?_ | refine Qo rfl ?_)
    cases hx : digV a with
    | none =>
      have hx0 := digV_neg.1 hx
      rw [hx] at hp
      simp only [Option.map_none] at hp
      rw [← hp]
      refine Qy rfl rfl (fun _ => ?_) (fun h => absurd hx0 h)
      repeat' (first | ((refine Qa rfl ?_); (first | refine Q1 ?_ | refine Q5 rfl ?_); (refine QX rfl rfl ?_)) | refine Qh ?_ | refine Qi rfl ?_ | refine Ql ?_ | refine Qo rfl ?_ | refine Qp rfl ?_ | refine Qs ?_)
      refine awp_ret ?_
      exact ⟨_, rfl, wk_tup (wkL_cons wk_nil (WkL.refl _))⟩
    | some x =>
      have hx16 := digV_lt hx
      rw [digV_idx hx]
      refine Qy rfl rfl (fun h => absurd h (by omega)) (fun _ => ?_)
      repeat' (first | ((refine Qa rfl ?_); (first | refine Q0 ?_ | refine Q2 rfl ?_ | refine Q5 rfl ?_); (refine QX rfl rfl ?_)) | refine Qh ?_ | refine Qs ?_)
      cases hy : digV b with
      | none =>
        have hy0 := digV_neg.1 hy
        rw [hx, hy] at hp
        simp only [Option.map_none] at hp
        rw [← hp]
        refine awp_cond_dec rfl (fun g => ?_) (fun g => ?_)
        · repeat' (first | ((refine Qa rfl ?_); (refine Q1 ?_); (refine QX rfl rfl ?_)) | refine Qh ?_ | refine Ql ?_ | refine Qo rfl ?_ | refine Qs ?_)
          refine awp_ret ?_
          exact ⟨_, rfl, wk_tup (wkL_cons wk_nil (WkL.refl _))⟩
        · exact absurd hy0 g
      | some y =>
        have hy16 := digV_lt hy
        rw [hx, hy] at hp
        rw [digV_idx hy]
        refine awp_cond_dec rfl (fun g => ?_) (fun g => ?_)
        · exact absurd g (by omega)
        repeat' (first | ((refine Qa rfl ?_); (first | refine Q0 ?_ | refine Q2 rfl ?_ | refine QG rfl rfl rfl rfl ?_ | refine QR rfl rfl rfl rfl rfl rfl rfl rfl rfl rfl rfl rfl ?_); (refine QX rfl rfl ?_)) | refine Qa rfl ?_ | refine Qm ?_ | refine Qo rfl ?_)
        rw [conv_hex hx16 hy16]
        refine st_app (oid := some 0) (es := o.map u8A) (out := (o ++ [hexJ x y]).map u8A) (n := o.length + 1) (dst_own rfl (List.length_map _).symm) (rfl) (oneEs_u8 [hexJ x y]) (by rw [List.map_append]; rfl) (by rw [List.length_map]; rfl) (by show _ ≤ 9223372036854775807; omega) (by show _ * 1 ≤ _; omega) rfl rfl rfl rfl rfl rfl rfl rfl ?_
        first | refine nx rfl rfl ?_ | refine nx0 ?_
        repeat' (first | ((refine Qa rfl ?_); (first | refine Q0 ?_ | refine Q1 ?_ | refine Q2 rfl ?_); (refine QX rfl rfl ?_)) | refine Qh ?_ | refine Qo rfl ?_ | refine Qs ?_)
        refine ⟨(k + 1, o ++ [hexJ x y]), ⟨by show 2 * (k + 1) ≤ _; omega, by simp [ho], ?_⟩, by show s.length - (k + 1) < s.length - k; omega, imp_tidy [1] (os := [.arr ((o ++ [hexJ x y]).map u8A) 5]) (by simp) rfl ?_ ?_⟩
        · show (pairsQ (s.drop (2 * (k + 1)))).map ((o ++ [hexJ x y]) ++ ·) = pairsQ s
          rw [← hp, Option.map_map, show 2 * k + 2 = 2 * (k + 1) by omega]
          congr 1
          funext z
          simp
        · refine fa_cons (ren_val rfl trivial) (fa_cons ?_ (fa_cons (ren_val ?_ trivial) fa_nil))
          · show Ren _ (.own 1 0 (o.length + 1)) (.own 0 0 (o ++ [hexJ x y]).length)
            rw [List.length_append]
            exact ren_own rfl
          · exact congrArg (AV.int .i64) e2
        · exact os_cons rfl (renO_val rfl (u8_ids' _)) os_nil
  · have hend := pairsQ_end (s := s.drop (2 * k)) (by rw [List.length_drop]; omega)
    rw [hend] at hp
    simp only [Option.map_some, List.append_nil] at hp
    rw [← hp]
    have htm : ((s.length : Int)).tmod 2 = ((s.length % 2 : Nat) : Int) := rfl
    repeat' (first | refine Ql ?_ | refine Qr ?_)
    refine awp_pre (Imp.trans (imp_freeze (id := 0) (k := 1) (es := o.map u8A) (e := 5) rfl rfl rfl) (imp_cutk 0 (Nat.zero_le _) hok_nil rfl (Nat.zero_le _) (sl' := [(0, .str s), (4, .sl 1 (o.map u8A))]) ?_)) ?_
    · refine fa_cons ⟨rfl, trivial⟩ (fa_cons ⟨?_, u8_ids' _⟩ fa_nil)
      exact frz_own (List.length_map _).symm
    repeat' (first | ((refine Qa rfl ?_); (first | refine Q0 ?_ | refine Q2 rfl ?_ | refine Q8 rfl rfl rfl ?_); (refine QX rfl rfl ?_)) | refine Qo rfl ?_)
    refine Qy rfl rfl (fun g => ?_) (fun g => ?_)
    · repeat' (first | ((refine Qa rfl ?_); (first | refine Q0 ?_ | refine Q1 ?_ | refine Q2 rfl ?_ | refine Q5 rfl ?_ | refine Q8 rfl rfl rfl ?_ | refine QB rfl rfl (by decide) ?_); (refine QX rfl rfl ?_)) | refine Qh ?_ | refine Qs ?_)
      refine awp_ret ?_
      refine ⟨_, rfl, wk_tup (wkL_cons (Wk.refl _) (wkL_cons ?_ wkL_nil))⟩
      have e : (decide (((s.length : Int)).tmod 2 = 0)) = decide (0 < s.length ∧ s.length % 2 = 0) := decide_eq_decide.2 (by rw [htm]; omega)
      rw [← e]
      exact Wk.refl _
    · repeat' (first | ((refine Qa rfl ?_); (first | refine Q1 ?_ | refine Q5 rfl ?_); (refine QX rfl rfl ?_)) | refine Qh ?_ | refine Qi rfl ?_ | refine Qs ?_)
      refine awp_ret ?_
      refine ⟨_, rfl, wk_tup (wkL_cons (Wk.refl _) (wkL_cons ?_ wkL_nil))⟩
      have e : false = decide (0 < s.length ∧ s.length % 2 = 0) := (decide_eq_false (by omega)).symm
      rw [← e]
      exact Wk.refl _
end Go.Abs
namespace Go.Abs
def resBt (s : List UInt8) : AV := match bitsP s with
  | some l => .tup [.sl 1 (l.map boA), .bool true]
  | none => .tup [.sl 1 [], .bool false]
theorem resBt_ids (s : List UInt8) : IdsLt 0 (resBt s) := by
  unfold resBt
  split
  · exact ⟨bo_ids' _, trivial, trivial⟩
  · exact ⟨trivial, trivial, trivial⟩
theorem hok_bo (es : List Bool) : HOk 1 [some (.arr (es.map boA) 4)] := fun j o ho => by
  match j, ho with
  | 0, ho => cases ho; exact bo_ids' _
attribute [local irreducible] AStep aops AWp Nx awM APanic
set_option maxHeartbeats 0 in
theorem rbits_c (X : Nat → Prop) (s : List UInt8) (hs : s.length ≤ 1000000) : ACalls (E0 X) 38 [.str s] [] (fun r H' => r = resBt s ∧ H' = []) := by
  refine ACalls.cut0 (ACalls.wkR (R := fun r _ => Wk r (resBt s)) ?_ fun r H' h => ⟨_, rfl, h⟩) (resBt_ids _)
  by_cases h1 : s = [45]
  · rw [resBt, bitsP, if_pos h1]
    subst h1
    refine acalls_of Proofs.Tryd.func38 rfl Proofs.Tryd.ntmps38 (by kernel_rfl) rfl ?_
    intro hH hargs
    clear hH hargs
    repeat' (first | ((refine Qa rfl ?_); (first | refine Q0 ?_ | refine Q1 ?_ | refine Q2 rfl ?_); (refine QX rfl rfl ?_)) | refine Qh ?_ | refine Ql ?_ | refine Qo rfl ?_ | refine Qp rfl ?_ | refine Qs ?_)
    refine awp_ret ?_
    exact ⟨_, rfl, wk_tup (wkL_cons wk_nil (WkL.refl _))⟩
  refine acalls_of Proofs.Tryd.func38 rfl Proofs.Tryd.ntmps38 (by kernel_rfl) rfl ?_
  intro hH hargs
  clear hH hargs
  repeat' (first | ((refine Qa rfl ?_); (first | refine Q0 ?_ | refine Q1 ?_ | refine Q2 rfl ?_); (refine QX rfl rfl ?_)) | refine Qh ?_ | refine Ql ?_ | refine Qo rfl ?_ | refine Qs ?_)
  rw [decide_eq_false (show ¬ s = ({ data := #[45] } : ByteArray).data.toList from h1)]
  repeat' (first | ((refine Qa rfl ?_); (refine Q1 ?_); (refine QX rfl rfl ?_)) | refine Qh ?_ | refine Ql ?_ | refine Qm ?_ | refine Qn ?_ | refine Qo rfl ?_ | refine Qq rfl ?_)
  refine awp_loop2 (fun i : Nat => ⟨[(0, .str s), (4, .own 0 0 i), (5, .int .i64 (i : Int))], [some (.arr (((s.take i).map (· == 49)).map boA) 4)]⟩) (fun i => i ≤ s.length ∧ (s.take i).all bit1 = true) (fun i => s.length - i) 0 ⟨Nat.zero_le _, rfl⟩ ?_ ?_
  · refine Imp.trans (imp_nil 4 4 rfl) (imp_cutk 1 (Nat.zero_le _) (hok_bo ((s.take 0).map (· == 49))) rfl (by simp) ?_)
    repeat' (first | exact fa_nil | refine fa_cons ⟨?_, ?_⟩ ?_)
    all_goals (try first | exact rfl | exact trivial | (simp [IdsLt]; done) | (simp [get_cons]; done) | (simp [get_cons, *]; done) | (refine congrArg (AV.int .i64) (wrap_eq ?_ ?_ ?_) <;> (first | omega | (simp; omega))))
  rintro i ⟨hi, hall⟩
  have hlen : ((s.take i).map (· == 49)).length = i := by rw [List.length_map, List.length_take]; omega
  repeat' (first | ((refine Qa rfl ?_); (first | refine Q0 ?_ | refine Q2 rfl ?_ | refine Q8 rfl rfl rfl ?_); (refine QX rfl rfl ?_)) | refine Qh ?_ | refine Ql ?_ | refine Qo rfl ?_ | refine Qs ?_)
  refine awp_cond_dec rfl (fun h5 => ?_) (fun h5 => ?_)
  · obtain ⟨b, hb⟩ : ∃ b, s[i]? = some b := ⟨_, List.getElem?_eq_getElem (by omega)⟩
    have htk : s.take (i + 1) = s.take i ++ [b] := by rw [List.take_add_one, hb]; rfl
    have hbad : b ≠ 48 → b ≠ 49 → bitsP s = none := fun g1 g2 => by
      rw [bitsP, if_neg h1, if_pos]
      right
      cases hh : s.all bit1 with
      | false => rfl
      | true =>
        have := List.all_eq_true.1 hh b (List.mem_of_getElem? hb)
        simp [bit1, g1, g2] at this
    repeat' (first | ((refine Qa rfl ?_); (refine Q0 ?_); (refine QX rfl rfl ?_)) | refine Qa rfl ?_ | refine Ql ?_ | refine Qm ?_ | refine Qn ?_ | refine Qo rfl ?_)
    refine st_index_str (j := i) rfl rfl rfl rfl hb rfl ?_
    first | refine nx rfl rfl ?_ | refine nx0 ?_
    repeat' ((refine Qa rfl ?_); (first | refine Q0 ?_ | refine Q2 rfl ?_); (refine QX rfl rfl ?_))
    by_cases g1 : b = 48
    case' pos =>
      have hb1 : bit1 b = true := by rw [g1]; rfl
      rw [decide_eq_false (show ¬ (((b.toNat : Int)) ≠ 48) by rw [g1]; simp)]
      repeat' (first | ((refine Qa rfl ?_); (first | refine Q0 ?_ | refine Q5 rfl ?_); (refine QX rfl rfl ?_)) | refine Qa rfl ?_ | refine Qh ?_ | refine Qi rfl ?_ | refine Qm ?_ | refine Qo rfl ?_ | refine Qq rfl ?_)
    case' neg =>
      rw [decide_eq_true (show ((b.toNat : Int)) ≠ 48 from fun h => g1 (UInt8.toNat_inj.1 (by show b.toNat = 48; omega)))]
      repeat' (first | ((refine Qa rfl ?_); (refine Q0 ?_); (refine QX rfl rfl ?_)) | refine Qa rfl ?_)
      refine st_index_str (j := i) rfl rfl rfl rfl hb rfl ?_
      first | refine nx rfl rfl ?_ | refine nx0 ?_
      repeat' (first | ((refine Qa rfl ?_); (first | refine Q2 rfl ?_ | refine Q5 rfl ?_); (refine QX rfl rfl ?_)) | refine Qh ?_ | refine Qs ?_)
      by_cases g2 : b = 49
      rotate_left
      · rw [decide_eq_true (show ((b.toNat : Int)) ≠ 49 from fun h => g2 (UInt8.toNat_inj.1 (by show b.toNat = 49; omega)))]
        rw [resBt, hbad g1 g2]
        repeat' (first | ((refine Qa rfl ?_); (refine Q1 ?_); (refine QX rfl rfl ?_)) | refine Qh ?_ | refine Ql ?_ | refine Qo rfl ?_ | refine Qp rfl ?_ | refine Qs ?_)
        refine awp_ret ?_
        exact ⟨_, rfl, wk_tup (wkL_cons wk_nil (WkL.refl _))⟩
      have hb1 : bit1 b = true := by rw [g2]; rfl
      rw [decide_eq_false (show ¬ (((b.toNat : Int)) ≠ 49) by rw [g2]; simp)]
      repeat' (first | ((refine Qa rfl ?_); (refine Q0 ?_); (refine QX rfl rfl ?_)) | refine Qa rfl ?_ | refine Qm ?_ | refine Qo rfl ?_ | refine Qq rfl ?_)
    all_goals
      refine st_index_str (j := i) rfl rfl rfl rfl hb rfl ?_
      first | refine nx rfl rfl ?_ | refine nx0 ?_
      repeat' (first | ((refine Qa rfl ?_); (first | refine Q2 rfl ?_ | refine QR rfl rfl rfl rfl rfl rfl rfl rfl rfl rfl rfl rfl ?_); (refine QX rfl rfl ?_)) | refine Qa rfl ?_)
      rw [bit_eq]
      refine st_app (oid := some 0) (es := ((s.take i).map (· == 49)).map boA) (out := ((s.take (i + 1)).map (· == 49)).map boA) (n := i + 1) (dst_own rfl (by rw [List.length_map, hlen])) (rfl) (oneEs_bo [b == 49]) (by rw [htk, List.map_append, List.map_append]; rfl) (by rw [List.length_map, hlen]; rfl) (by show _ ≤ 9223372036854775807; omega) (by show _ * 1 ≤ _; omega) rfl rfl rfl rfl rfl rfl rfl rfl ?_
      first | refine nx rfl rfl ?_ | refine nx0 ?_
      repeat' (first | ((refine Qa rfl ?_); (first | refine Q0 ?_ | refine Q1 ?_ | refine Q2 rfl ?_); (refine QX rfl rfl ?_)) | refine Qh ?_ | refine Qo rfl ?_ | refine Qs ?_)
      refine ⟨i + 1, ⟨by show i + 1 ≤ _; omega, by rw [htk, List.all_append, hall]; simp [hb1]⟩, by show s.length - (i + 1) < s.length - i; omega, imp_tidy [1] (os := [.arr (((s.take (i + 1)).map (· == 49)).map boA) 4]) (by simp) rfl ?_ ?_⟩
      · refine fa_cons (ren_val rfl trivial) (fa_cons (ren_own rfl) (fa_cons (ren_val ?_ trivial) fa_nil))
        exact congrArg (AV.int .i64) (by rw [wrap_in (by omega) (by omega)]; simp)
      · exact os_cons rfl (renO_val rfl (bo_ids' _)) os_nil
  · have hie : i = s.length := by omega
    subst hie
    rw [List.take_length] at hall hlen ⊢
    repeat' (first | refine Ql ?_ | refine Qr ?_)
    refine awp_pre (Imp.trans (imp_freeze (id := 0) (k := 1) (es := (s.map (· == 49)).map boA) (e := 4) rfl rfl rfl) (imp_cutk 0 (Nat.zero_le _) hok_nil rfl (Nat.zero_le _) (sl' := [(0, .str s), (4, .sl 1 ((s.map (· == 49)).map boA))]) ?_)) ?_
    · refine fa_cons ⟨rfl, trivial⟩ (fa_cons ⟨?_, bo_ids' _⟩ fa_nil)
      exact frz_own (by rw [List.length_map, hlen])
    repeat' (first | ((refine Qa rfl ?_); (first | refine Q0 ?_ | refine Q1 ?_ | refine Q2 rfl ?_); (refine QX rfl rfl ?_)) | refine Qh ?_ | refine Qo rfl ?_ | refine Qs ?_)
    refine awp_ret ?_
    by_cases h0 : s = []
    · subst h0
      refine ⟨_, rfl, ?_⟩
      exact Wk.refl _
    · refine ⟨_, rfl, ?_⟩
      have e : bitsP s = some (s.map (· == 49)) := by
        rw [bitsP, if_neg h1, if_neg (by rw [hall]; simp [h0])]
      rw [resBt, e]
      refine wk_tup (wkL_cons (Wk.refl _) (wkL_cons ?_ wkL_nil))
      have e3 : AV.bool (decide (s ≠ ({ data := #[] } : ByteArray).data.toList)) = .bool true := congrArg AV.bool (decide_eq_true (show s ≠ ({ data := #[] } : ByteArray).data.toList from h0))
      rw [← e3]
      exact Wk.refl _
end Go.Abs
namespace Go.Abs
def numQ (s : List UInt8) : Nat := (numP s).getD 0
theorem resN_t (x : Option Nat) : resN x = .tup [.int .i64 ((x.getD 0 : Nat) : Int), .bool x.isSome] := by cases x <;> rfl
theorem rnum_t (X : Nat → Prop) (s : List UInt8) : ACalls (E0 X) 37 [.str s] [] (fun r H' => r = .tup [.int .i64 (numQ s : Int), .bool (numP s).isSome] ∧ H' = []) :=
  (rnum_c X s).wkR fun r H' ⟨e1, e2⟩ => ⟨_, ⟨rfl, e2⟩, by rw [e1, resN_t]; exact Wk.refl _⟩
def tearQ (s : List UInt8) : Tr := if idxB s 58 < 0 then ⟨0, 0⟩ else ⟨(numQ (cutB s 58).1 : Int), (numQ (cutB s 58).2.1 : Int)⟩
theorem tearQ_some {s : List UInt8} {t : Tr} (h : tearP s = some t) : tearQ s = t := by
  unfold tearP at h
  cases ha : numP (cutB s 58).1 with
  | none => rw [ha] at h; cases h
  | some a =>
    cases hb : numP (cutB s 58).2.1 with
    | none => rw [ha, hb] at h; cases h
    | some b =>
      rw [ha, hb] at h
      cases h
      unfold tearQ
      rw [if_neg]
      · unfold numQ; rw [ha, hb]; rfl
      · intro h0
        have : (cutB s 58).2.1 = [] := by unfold cutB; rw [if_neg (by omega)]
        rw [this] at hb
        cases hb
theorem tearP_is (s : List UInt8) : (tearP s).isSome = ((numP (cutB s 58).1).isSome && (numP (cutB s 58).2.1).isSome) := by
  unfold tearP
  cases numP (cutB s 58).1 <;> cases numP (cutB s 58).2.1 <;> rfl
def resT (s : List UInt8) : AV := .tup [trA (tearQ s), .bool (tearP s).isSome]
attribute [local irreducible] AStep aops AWp Nx awM APanic
set_option maxHeartbeats 0 in
theorem rtear_c (X : Nat → Prop) (s : List UInt8) (hs : s.length ≤ 1000000) : ACalls (E0 X) 39 [.str s] [] (fun r H' => r = resT s ∧ H' = []) := by
  refine ACalls.cut0 ?_ ⟨⟨trivial, trivial, trivial⟩, trivial, trivial⟩
  refine acalls_of Proofs.Tryd.func39 rfl Proofs.Tryd.ntmps39 (by kernel_rfl) rfl ?_
  intro hH hargs
  clear hH hargs
  repeat' (first | ((refine Qa rfl ?_); (first | refine Q1 ?_ | refine QJ rfl rfl ?_); (refine QX rfl rfl ?_)) | refine Qh ?_ | refine Ql ?_ | refine Qn ?_ | refine Qo rfl ?_)
  refine awp_loop2 (fun i : Nat => ⟨[(0, .str s), (2, .ptr 0 0), (4, .int .i64 (i : Int))], [some (.cells [.int .i64 0, .int .i64 0] 47)]⟩) (fun i => i ≤ s.length ∧ ∀ j, j < i → s[j]? ≠ some 58) (fun i => s.length - i) 0 ⟨Nat.zero_le _, fun j h => absurd h (Nat.not_lt_zero j)⟩ ?_ ?_
  · refine imp_tidy [0] (os := [.cells [.int .i64 0, .int .i64 0] 47]) (by simp) rfl ?_ ?_
    · exact fa_cons (ren_val rfl trivial) (fa_cons (ren_ptr rfl) (fa_cons (ren_val rfl trivial) fa_nil))
    · exact os_cons rfl (renO_val rfl ⟨trivial, trivial, trivial⟩) os_nil
  rintro i ⟨hi, hn⟩
  have hw : IntKind.i64.wrap ((i : Int) + 1) = ((i + 1 : Nat) : Int) := by
    rw [wrap_in (by omega) (by omega)]; simp
  repeat' (first | ((refine Qa rfl ?_); (first | refine Q0 ?_ | refine Q2 rfl ?_ | refine Q8 rfl rfl rfl ?_); (refine QX rfl rfl ?_)) | refine Qh ?_ | refine Ql ?_ | refine Qo rfl ?_ | refine Qs ?_)
  refine awp_cond_dec rfl (fun h2 => ?_) (fun h2 => ?_)
  · obtain ⟨b, hb⟩ : ∃ b, s[i]? = some b := ⟨_, List.getElem?_eq_getElem (by omega)⟩
    repeat' (first | ((refine Qa rfl ?_); (refine Q0 ?_); (refine QX rfl rfl ?_)) | refine Qa rfl ?_ | refine Ql ?_ | refine Qm ?_ | refine Qn ?_ | refine Qo rfl ?_)
    refine st_index_str (j := i) rfl rfl rfl rfl hb rfl ?_
    first | refine nx rfl rfl ?_ | refine nx0 ?_
    repeat' (first | ((refine Qa rfl ?_); (refine Q2 rfl ?_); (refine QX rfl rfl ?_)) | refine Qh ?_ | refine Qs ?_)
    refine awp_cond_dec rfl (fun h3 => ?_) (fun h3 => ?_)
    · have hb58 : b = 58 := UInt8.toNat_inj.1 (by show b.toNat = 58; omega)
      subst hb58
      have hidx := idx_first s i hn hb
      have hcut : cutB s 58 = (s.take i, s.drop (i + 1), true) := by
        unfold cutB
        rw [if_pos (by omega), hidx]; rfl
      rw [resT, tearP_is, tearQ, if_neg (by omega), hcut]
      repeat' (first | ((refine Qa rfl ?_); (refine Q0 ?_); (refine QX rfl rfl ?_)) | refine Qa rfl ?_ | refine Ql ?_ | refine Qo rfl ?_)
      refine st_sst (l := 0) (h := i) (ys := s.take i) (bnd_none) (bnd_some rfl rfl) (by omega) (by omega) (by rw [List.drop_zero]) rfl rfl rfl ?_
      first | refine nx rfl rfl ?_ | refine nx0 ?_
      repeat' (refine Qa rfl ?_)
      refine st_call (fun _ => rfl) rfl ?_
      refine ACalls.mono (acalls_pure (E := E0 X) (fun X => rnum_t X (s.take i)) (by simp [IdsLtL, IdsLt]) _) ?_
      rintro r H' ⟨rfl, rfl⟩
      first | refine nx rfl rfl ?_ | refine nx0 ?_
      repeat' (first | ((refine Qa rfl ?_); (first | refine Q0 ?_ | refine Q1 ?_ | refine Q2 rfl ?_ | refine QC rfl rfl ?_); (refine QX rfl rfl ?_)) | refine Qa rfl ?_ | refine Qh ?_ | refine Ql ?_ | refine Qo rfl ?_)
      refine st_sst (l := i + 1) (h := s.length) (ys := s.drop (i + 1)) (bnd_some rfl hw) (bnd_none) (by omega) (by omega) (by rw [List.take_length]) rfl rfl rfl ?_
      first | refine nx rfl rfl ?_ | refine nx0 ?_
      repeat' (refine Qa rfl ?_)
      refine st_call (fun _ => rfl) rfl ?_
      refine ACalls.mono (acalls_pure (E := E0 X) (fun X => rnum_t X (s.drop (i + 1))) (by simp [IdsLtL, IdsLt]) _) ?_
      rintro r H' ⟨rfl, rfl⟩
      first | refine nx rfl rfl ?_ | refine nx0 ?_
      repeat' (first | ((refine Qa rfl ?_); (first | refine Q0 ?_ | refine Q1 ?_ | refine QC rfl rfl ?_ | refine QP rfl rfl rfl rfl rfl rfl ?_); (refine QX rfl rfl ?_)) | refine Qh ?_ | refine Ql ?_ | refine Qo rfl ?_)
      cases hA : (numP (s.take i)).isSome with
      | true =>
        repeat' (first | ((refine Qa rfl ?_); (first | refine Q0 ?_ | refine Q1 ?_ | refine Q5 rfl ?_); (refine QX rfl rfl ?_)) | (refine Qb rfl ?_; try (refine QS rfl rfl rfl rfl rfl rfl rfl ?_; (refine QX rfl rfl ?_))) | refine Qh ?_ | refine Qs ?_)
        refine awp_ret ?_
        exact ⟨_, rfl, rfl⟩
      | false =>
        repeat' (first | ((refine Qa rfl ?_); (first | refine Q1 ?_ | refine Q5 rfl ?_); (refine QX rfl rfl ?_)) | (refine Qb rfl ?_; try (refine QS rfl rfl rfl rfl rfl rfl rfl ?_; (refine QX rfl rfl ?_))) | refine Qh ?_ | refine Qi rfl ?_ | refine Qs ?_)
        refine awp_ret ?_
        exact ⟨_, rfl, rfl⟩
    · repeat' (first | ((refine Qa rfl ?_); (first | refine Q0 ?_ | refine Q1 ?_ | refine Q2 rfl ?_); (refine QX rfl rfl ?_)) | refine Qh ?_ | refine Qm ?_ | refine Qo rfl ?_ | refine Qs ?_)
      refine ⟨i + 1, ⟨by show i + 1 ≤ _; omega, fun j hj => ?_⟩, by show s.length - (i + 1) < s.length - i; omega, imp_tidy [0] (os := [.cells [.int .i64 0, .int .i64 0] 47]) (by simp) rfl ?_ ?_⟩
      · rcases Nat.lt_succ_iff_lt_or_eq.1 hj with h4 | rfl
        · exact hn j h4
        · rw [hb]; intro e; cases e; exact h3 rfl
      · exact fa_cons (ren_val rfl trivial) (fa_cons (ren_ptr rfl) (fa_cons (ren_val (congrArg (AV.int .i64) hw) trivial) fa_nil))
      · exact os_cons rfl (renO_val rfl ⟨trivial, trivial, trivial⟩) os_nil
  · have hie : i = s.length := by omega
    subst hie
    have hidx := idx_never s hn
    have hcut : cutB s 58 = (s, [], false) := by
      unfold cutB
      rw [if_neg (by omega)]
    have hf : (tearP s).isSome = false := by
      rw [tearP_is, hcut]
      show ((numP s).isSome && false) = false
      simp
    rw [resT, hf, tearQ, if_pos (by omega)]
    repeat' (first | ((refine Qa rfl ?_); (first | refine Q1 ?_ | refine QP rfl rfl rfl rfl rfl rfl ?_); (refine QX rfl rfl ?_)) | (refine Qb rfl ?_; try (refine QS rfl rfl rfl rfl rfl rfl rfl ?_; (refine QX rfl rfl ?_))) | refine Qh ?_ | refine Ql ?_ | refine Qo rfl ?_ | refine Qr ?_ | refine Qs ?_)
    refine awp_ret ?_
    exact ⟨_, rfl, rfl⟩
def plK (s : List UInt8) : Int := if s = [102, 108, 117, 115, 104] then 4 else if s = [115, 121, 110, 99] then 5 else if s = [117, 112, 103, 114, 97, 100, 101] then 8 else if s = [115, 116, 101, 112] then 9 else if s = [97, 98, 111, 114, 116] then 10 else 0
theorem plK_idx (w : List UInt8) : (0 < idxS plainL w 0 → plK w = idxS plainL w 0) ∧ (¬ 0 < idxS plainL w 0 → plK w = 0) := by
  constructor
  · intro h
    rcases idx_plain h with ⟨e, rfl⟩ | ⟨e, rfl⟩ | ⟨e, rfl⟩ | ⟨e, rfl⟩ | ⟨e, rfl⟩ <;> rw [e] <;> rfl
  · intro h
    unfold plK
    split
    · rename_i e; subst e; exact absurd (by decide) h
    split
    · rename_i e; subst e; exact absurd (by decide) h
    split
    · rename_i e; subst e; exact absurd (by decide) h
    split
    · rename_i e; subst e; exact absurd (by decide) h
    split
    · rename_i e; subst e; exact absurd (by decide) h
    rfl
set_option maxHeartbeats 0 in
theorem rplain_c (X : Nat → Prop) (s : List UInt8) : ACalls (E0 X) 40 [.str s] [] (fun r H' => r = .int .i64 (plK s) ∧ H' = []) := by
  refine ACalls.cut0 ?_ trivial
  refine acalls_of Proofs.Tryd.func40 rfl Proofs.Tryd.ntmps40 (by kernel_rfl) rfl ?_
  intro hH hargs
  clear hH hargs
  repeat' (first | ((refine Qa rfl ?_); (first | refine Q0 ?_ | refine Q1 ?_ | refine Q2 rfl ?_); (refine QX rfl rfl ?_)) | refine Qh ?_ | refine Ql ?_ | refine Qn ?_ | refine Qo rfl ?_ | refine Qs ?_)
  refine awp_cond_dec rfl (fun h1 => ?_) (fun h1 => ?_)
  · rw [plK, if_pos h1]
    repeat' (first | ((refine Qa rfl ?_); (refine Q1 ?_); (refine QX rfl rfl ?_)) | refine Qh ?_ | refine Ql ?_ | refine Qo rfl ?_ | refine Qs ?_)
    refine awp_ret ?_
    exact ⟨_, rfl, rfl⟩
  repeat' (first | ((refine Qa rfl ?_); (first | refine Q1 ?_ | refine Q2 rfl ?_); (refine QX rfl rfl ?_)) | refine Qh ?_ | refine Ql ?_ | refine Qo rfl ?_ | refine Qs ?_)
  refine awp_cond_dec rfl (fun h2 => ?_) (fun h2 => ?_)
  · rw [plK, if_neg h1, if_pos h2]
    repeat' (first | ((refine Qa rfl ?_); (refine Q1 ?_); (refine QX rfl rfl ?_)) | refine Qh ?_ | refine Ql ?_ | refine Qo rfl ?_ | refine Qs ?_)
    refine awp_ret ?_
    exact ⟨_, rfl, rfl⟩
  repeat' (first | ((refine Qa rfl ?_); (first | refine Q1 ?_ | refine Q2 rfl ?_); (refine QX rfl rfl ?_)) | refine Qh ?_ | refine Ql ?_ | refine Qo rfl ?_ | refine Qs ?_)
  refine awp_cond_dec rfl (fun h3 => ?_) (fun h3 => ?_)
  · rw [plK, if_neg h1, if_neg h2, if_pos h3]
    repeat' (first | ((refine Qa rfl ?_); (refine Q1 ?_); (refine QX rfl rfl ?_)) | refine Qh ?_ | refine Ql ?_ | refine Qo rfl ?_ | refine Qs ?_)
    refine awp_ret ?_
    exact ⟨_, rfl, rfl⟩
  repeat' (first | ((refine Qa rfl ?_); (first | refine Q1 ?_ | refine Q2 rfl ?_); (refine QX rfl rfl ?_)) | refine Qh ?_ | refine Ql ?_ | refine Qo rfl ?_ | refine Qs ?_)
  refine awp_cond_dec rfl (fun h4 => ?_) (fun h4 => ?_)
  · rw [plK, if_neg h1, if_neg h2, if_neg h3, if_pos h4]
    repeat' (first | ((refine Qa rfl ?_); (refine Q1 ?_); (refine QX rfl rfl ?_)) | refine Qh ?_ | refine Ql ?_ | refine Qo rfl ?_ | refine Qs ?_)
    refine awp_ret ?_
    exact ⟨_, rfl, rfl⟩
  repeat' (first | ((refine Qa rfl ?_); (first | refine Q1 ?_ | refine Q2 rfl ?_); (refine QX rfl rfl ?_)) | refine Qh ?_ | refine Ql ?_ | refine Qo rfl ?_ | refine Qs ?_)
  refine awp_cond_dec rfl (fun h5 => ?_) (fun h5 => ?_)
  · rw [plK, if_neg h1, if_neg h2, if_neg h3, if_neg h4, if_pos h5]
    repeat' (first | ((refine Qa rfl ?_); (refine Q1 ?_); (refine QX rfl rfl ?_)) | refine Qh ?_ | refine Ql ?_ | refine Qo rfl ?_ | refine Qs ?_)
    refine awp_ret ?_
    exact ⟨_, rfl, rfl⟩
  rw [plK, if_neg h1, if_neg h2, if_neg h3, if_neg h4, if_neg h5]
  repeat' (first | ((refine Qa rfl ?_); (refine Q1 ?_); (refine QX rfl rfl ?_)) | refine Qh ?_ | refine Ql ?_ | refine Qm ?_ | refine Qo rfl ?_ | refine Qs ?_)
  refine awp_ret ?_
  exact ⟨_, rfl, rfl⟩
end Go.Abs

