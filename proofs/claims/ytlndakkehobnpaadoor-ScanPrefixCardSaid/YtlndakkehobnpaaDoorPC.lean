/- LogFull: the walk. Joined texts, each with what its own name promises; no condition beyond those stated. -/
import Derived.Test.YtlndakkehobnpaaDoorME
import Derived.Test.YtlndakkehobnpaaDoorPB
namespace Go.Abs
theorem and_le (n : Int) (c : Nat) (hc : c < 9223372036854775808) : ∃ m : Nat, m ≤ c ∧ ibits .and .i64 n (c : Int) = m := by
  have h1 : (BitVec.ofInt 64 n &&& BitVec.ofInt 64 (c : Int)).toNat ≤ c := by
    rw [BitVec.toNat_and]
    refine Nat.le_trans Nat.and_le_right ?_
    rw [BitVec.toNat_ofInt]
    omega
  have h2 : ibits .and .i64 n (c : Int) = IntKind.i64.wrap ((BitVec.ofInt 64 n &&& BitVec.ofInt 64 (c : Int)).toNat : Nat) := rfl
  refine ⟨_, h1, ?_⟩
  rw [h2]
  exact wrap_in (by omega) (by omega)
def pF (mig tail i : Nat) : PlN := ⟨if i = 0 then 1 else 2, mig, i, tail + i, tgt⟩
theorem Jn.congr {v : Dv} {w w' : Nat → Option PlN} (h : Jn v w) (e : ∀ j, j < 74 → w j = w' j) : Jn v w' := fun j hj => by rw [← e j hj]; exact h j hj
/-- n records of a migration, and what was there before. -/
def wP (w : Nat → Option PlN) (mig tail n : Nat) (j : Nat) : Option PlN := if 2 + (mig + 1) % 2 * 36 ≤ j ∧ j < 2 + (mig + 1) % 2 * 36 + n then some (pF mig tail (j - (2 + (mig + 1) % 2 * 36))) else w j
def wOk (w : Nat → Option PlN) : Prop := ∀ j q, w j = some q → validB q.pl = true
attribute [local irreducible] AStep aops AWp Nx awM
end Go.Abs
namespace Go.Abs
theorem put1 (b : List UInt8) (n : Nat) : putN b n 1 = b ++ [UInt8.ofNat (n % 256)] := by
  have h : byteAt n 0 = UInt8.ofNat (n % 256) := by simp [byteAt]
  show b ++ [byteAt n 0] = _
  rw [h]
theorem head1 (k kl vl e : Nat) : putN (putN [UInt8.ofNat (161 % 256), UInt8.ofNat (k % 256), UInt8.ofNat (kl % 256), UInt8.ofNat (0 % 256)] vl 4) e 4 = headN 1 k kl vl e := by
  show _ = putN (putN (putN (putN (putN (putN [] 161 1) k 1) kl 1) 0 1) vl 4) e 4
  rw [put1, put1, put1, put1]; rfl
theorem head2 {ver : Int} (h : ¬ ver = 1) (k kl vl e : Nat) : putN (putN [UInt8.ofNat (162 % 256), UInt8.ofNat (kl % 256), UInt8.ofNat (16 * k % 256)] vl 3 ++ [0]) e 5 = headN ver k kl vl e := by
  have e1 : headN ver k kl vl e = putN (putN (putN (putN (putN (putN [] 162 1) kl 1) (16 * k) 1) vl 3) 0 1) e 5 := if_neg h
  rw [e1, put1 [] 162, put1 _ kl, put1 _ (16 * k), put1 _ 0]; rfl
attribute [local irreducible] AStep aops AWp Nx awM
end Go.Abs
namespace Go.Abs
deriving instance DecidableEq for Rec
theorem rec_eq {a b : Rec} (h1 : a.kind = b.kind) (h2 : a.exp = b.exp) (h3 : a.key = b.key) (h4 : a.val = b.val) : a = b := by
  obtain ⟨_, _, _, _⟩ := a
  obtain ⟨_, _, _, _⟩ := b
  simp only at h1 h2 h3 h4
  subst h1; subst h2; subst h3; subst h4; rfl
attribute [local irreducible] AStep aops AWp Nx awM
set_option maxHeartbeats 0 in
set_option maxRecDepth 100000 in
theorem req_c (X : Nat → Prop) (a b : Rec) (hk : a.key.length ≤ 4611686018427387904) (hv : a.val.length ≤ 4611686018427387904) :
    ACalls (E0 X) 82 [recA a, recA b] [] (fun r H' => r = .bool (decide (a = b)) ∧ H' = []) := by
  refine ACalls.cut0 ?_ trivial
  have e1 := fun X => eqb_c X a.key b.key hk
  have e2 := fun X => eqb_c X a.val b.val hv
  show ACalls (E0 X) 82 [.agg [.int .i64 a.kind, .sl 1 (a.key.map u8A), .sl 1 (a.val.map u8A), .int .i64 a.exp], .agg [.int .i64 b.kind, .sl 1 (b.key.map u8A), .sl 1 (b.val.map u8A), .int .i64 b.exp]] [] _
  refine acalls_of Proofs.Tryd.func82 rfl Proofs.Tryd.ntmps82 (by kernel_rfl) rfl ?_
  intro hH hargs
  clear hH hargs
  repeat' (first | ((refine Qa rfl ?_); (first | refine Q0 ?_ | refine Q1 ?_ | refine Q2 rfl ?_ | refine Q3 rfl rfl rfl ?_ | refine Q4 rfl rfl rfl rfl rfl ?_ | refine QK rfl ?_); (refine QX rfl rfl ?_)) | refine Qh ?_ | refine Ql ?_ | refine Qo rfl ?_)
  by_cases h1 : a.kind = b.kind
  rotate_left
  · rw [decide_eq_false h1, decide_eq_false (show ¬ a = b from fun h => h1 (by rw [h]))]
    repeat' (first | ((refine Qa rfl ?_); (first | refine Q0 ?_ | refine Q1 ?_ | refine Q5 rfl ?_); (refine QX rfl rfl ?_)) | refine Qh ?_ | refine Qi rfl ?_ | refine Qs ?_)
    refine awp_ret ?_
    exact ⟨_, rfl, rfl⟩
  rw [decide_eq_true h1]
  repeat' ((refine Qa rfl ?_); (first | refine Q0 ?_ | refine Q2 rfl ?_ | refine Q3 rfl rfl rfl ?_ | refine Q4 rfl rfl rfl rfl rfl ?_ | refine Q5 rfl ?_); (refine QX rfl rfl ?_))
  by_cases h2 : a.exp = b.exp
  rotate_left
  · rw [decide_eq_false h2, decide_eq_false (show ¬ a = b from fun h => h2 (by rw [h]))]
    repeat' (first | ((refine Qa rfl ?_); (first | refine Q0 ?_ | refine Q1 ?_ | refine Q5 rfl ?_); (refine QX rfl rfl ?_)) | refine Qh ?_ | refine Qi rfl ?_ | refine Qs ?_)
    refine awp_ret ?_
    exact ⟨_, rfl, rfl⟩
  rw [decide_eq_true h2]
  repeat' (first | ((refine Qa rfl ?_); (first | refine Q3 rfl rfl rfl ?_ | refine Q4 rfl rfl rfl rfl rfl ?_); (refine QX rfl rfl ?_)) | refine Qa rfl ?_)
  refine st_call (fun _ => rfl) rfl ?_
  refine ACalls.mono (acalls_pure (E := E0 X) (fun X => e1 X) (by simp [IdsLtL, IdsLt]) _) ?_
  rintro r H' ⟨rfl, rfl⟩
  first | refine nx rfl rfl ?_ | refine nx0 ?_
  repeat' ((refine Qa rfl ?_); (first | refine Q0 ?_ | refine Q5 rfl ?_); (refine QX rfl rfl ?_))
  by_cases h3 : a.key = b.key
  rotate_left
  · rw [decide_eq_false h3, decide_eq_false (show ¬ a = b from fun h => h3 (by rw [h]))]
    repeat' (first | ((refine Qa rfl ?_); (first | refine Q1 ?_ | refine Q5 rfl ?_); (refine QX rfl rfl ?_)) | refine Qh ?_ | refine Qi rfl ?_ | refine Qs ?_)
    refine awp_ret ?_
    exact ⟨_, rfl, rfl⟩
  rw [decide_eq_true h3]
  repeat' (first | ((refine Qa rfl ?_); (first | refine Q3 rfl rfl rfl ?_ | refine Q4 rfl rfl rfl rfl rfl ?_); (refine QX rfl rfl ?_)) | refine Qa rfl ?_)
  refine st_call (fun _ => rfl) rfl ?_
  refine ACalls.mono (acalls_pure (E := E0 X) (fun X => e2 X) (by simp [IdsLtL, IdsLt]) _) ?_
  rintro r H' ⟨rfl, rfl⟩
  first | refine nx rfl rfl ?_ | refine nx0 ?_
  repeat' (first | ((refine Qa rfl ?_); (first | refine Q1 ?_ | refine Q5 rfl ?_); (refine QX rfl rfl ?_)) | refine Qh ?_ | refine Qs ?_)
  have e : decide (a = b) = decide (a.val = b.val) := by
    by_cases h4 : a.val = b.val
    · rw [decide_eq_true h4, decide_eq_true (rec_eq h1 h2 h3 h4)]
    · rw [decide_eq_false h4, decide_eq_false (show ¬ a = b from fun h => h4 (by rw [h]))]
  rw [e]
  refine awp_ret ?_
  exact ⟨_, rfl, rfl⟩
end Go.Abs
namespace Go.Abs
def la14 (a b : Nat) : La := ⟨3, 1 + (a : Int), ((2 ^ (b + 1) : Nat) : Int), 4⟩
theorem la14_form {a b : Nat} (ha : a ≤ 1) (hb : b ≤ 3) : formB (la14 a b) = true := by
  rcases (show a = 0 ∨ a = 1 by omega) with rfl | rfl <;> rcases (show b = 0 ∨ b = 1 ∨ b = 2 ∨ b = 3 by omega) with rfl | rfl | rfl | rfl <;> kernel_rfl
attribute [local irreducible] AStep aops AWp Nx awM
set_option maxHeartbeats 0 in
set_option maxRecDepth 100000 in
theorem lay14_c (ver log : Int) : ∃ a b : Nat, a ≤ 1 ∧ b ≤ 3 ∧ ∀ X, ACalls (E0 X) 47 [.int .i64 ver, .int .i64 log] [] (fun r H' => r = laA (la14 a b) ∧ H' = []) := by
  obtain ⟨a, ha, hva⟩ := and_le ver 1 (by decide)
  obtain ⟨b, hb, hvb⟩ := and_le log 3 (by decide)
  have hva : ibits .and .i64 ver 1 = (a : Int) := hva
  have hvb : ibits .and .i64 log 3 = (b : Int) := hvb
  refine ⟨a, b, ha, hb, fun X => ACalls.cut0 ?_ laA_ids⟩
  have w1 : IntKind.i64.wrap (1 + (a : Int)) = 1 + (a : Int) := wrap_in (by omega) (by omega)
  refine acalls_of Proofs.Tryd.func47 rfl Proofs.Tryd.ntmps47 (by kernel_rfl) rfl ?_
  intro hH hargs
  clear hH hargs
  repeat' (first | ((refine Qa rfl ?_); (first | refine Q0 ?_ | refine Q2 rfl ?_ | refine QG rfl rfl rfl rfl ?_ | refine QJ rfl rfl ?_); (refine QX rfl rfl ?_)) | refine Qa rfl ?_ | refine Qh ?_ | refine Ql ?_ | refine Qo rfl ?_)
  rw [hva, hvb, w1, wrap64 (by omega)]
  rcases (show b = 0 ∨ b = 1 ∨ b = 2 ∨ b = 3 by omega) with rfl | rfl | rfl | rfl
  all_goals
    refine st_shl rfl rfl (by decide) ?_
    first | refine nx rfl rfl ?_ | refine nx0 ?_
  all_goals
    repeat' (first | ((refine Qa rfl ?_); (refine QP rfl rfl rfl rfl rfl rfl ?_); (refine QX rfl rfl ?_)) | (refine Qb rfl ?_; try (refine QS rfl rfl rfl rfl rfl rfl rfl ?_; (refine QX rfl rfl ?_))) | refine Qh ?_ | refine Qs ?_)
  all_goals
    refine awp_ret ?_
    exact ⟨_, rfl, rfl⟩
end Go.Abs
namespace Go.Abs
theorem decH_short {b : List UInt8} {k : Nat} (h : b.length ≠ 64) : decH b k = none := by
  have e : decF 1 0 k b = none := by
    unfold decF
    rw [if_neg fun hh => h hh.1]
  unfold decH
  rw [e]
theorem scanH_eq {L : Nat} {v : Dv} (hv : Lv L v) (l : La) (slot : Int) : scanH v l slot = hdrR v.image l slot := by
  have hc := fun i => check_eq hv.inv i
  have h64 := hv.inv.load.1
  unfold scanH hdrR
  by_cases hs : formB l = true ∧ 0 ≤ slot ∧ slot < l.regs
  · have hm := slot_mul hs.1 hs.2.1 hs.2.2
    have e1 : firstI l slot = 74 + slot * l.rs := if_pos hs
    rw [e1, if_pos hs, hc, hv.dead]
    simp only [Bool.false_eq_true, if_false]
    obtain ⟨K, hK⟩ := Int.eq_ofNat_of_zero_le (show 0 ≤ 74 + slot * l.rs by omega)
    rw [hK, Int.toNat_natCast]
    by_cases hin : K * 64 + 64 ≤ v.image.length
    · rw [if_neg (show ¬ ((K : Int) < 0 ∨ ((v.image.length / 64 : Nat) : Int) ≤ (K : Int)) by omega)]
      simp only [ne_eq, not_true_eq_false, if_false]
      have e2 : secB v.image (K : Int) = (v.image.drop (K * 64)).take 64 := by
        unfold secB
        rw [if_neg (by omega), Int.toNat_natCast]
      rw [e2]
    · rw [if_pos (show ((K : Int) < 0 ∨ ((v.image.length / 64 : Nat) : Int) ≤ (K : Int)) by omega)]
      have e2 : secB v.image (K : Int) = [] := by
        unfold secB
        rw [if_pos (by omega)]
      rw [if_pos (by decide), e2, decH_short (by decide)]
      rfl
  · have e1 : firstI l slot = -1 := if_neg hs
    rw [e1, if_neg hs, hc, hv.dead]
    simp only [Bool.false_eq_true, if_false]
    rw [if_pos (show ((-1 : Int) < 0 ∨ _) from .inl (by decide)), if_pos (by decide)]
end Go.Abs
namespace Go.Abs
def strF (v : Dv) (seq : Nat) : Nat → Nat → List UInt8
  | 0, _ => []
  | n + 1, s => if v.check (s : Int) ≠ 0 then [] else match decF 2 seq s ((v.image.drop (s * 64)).take 64) with
    | none => []
    | some p => p ++ strF v seq n (s + 1)
theorem hok_st (v : Dv) (l : La) (o : List UInt8) : HOk 5 (devH v ++ [some (.cells [.int .i64 l.id, .int .i64 l.ver, .int .i64 l.rs, .int .i64 l.regs] 29), some (.arr (o.map u8A) 5)]) := fun j o' ho => by
  match j, ho with
  | 0, ho => cases ho; exact ⟨by simp [IdsLt], by simp [IdsLt], trivial, trivial, trivial, trivial⟩
  | 1, ho => cases ho; exact idsL_map fun _ => u8A_ids
  | 2, ho => cases ho; exact ⟨by rw [List.map_map]; exact idsL_map fun _ => trivial, by rw [List.map_map]; exact idsL_map fun p => (idsL_map (f := u8A) fun _ => u8A_ids : IdsLtL _ (p.2.map u8A))⟩
  | 3, ho => cases ho; exact ⟨trivial, trivial, trivial, trivial, trivial⟩
  | 4, ho => cases ho; exact idsL_map fun _ => u8A_ids
attribute [local irreducible] AStep aops AWp Nx awM
set_option maxHeartbeats 0 in
set_option maxRecDepth 100000 in
theorem stream_c (X : Nat → Prop) (v : Dv) (hv : v.Inv) (l : La) (slot : Int) (seq : Nat) (h : slotOk l slot) (hs1 : 1 ≤ seq) (hs2 : seq ≤ 281474976710655) :
    ACalls (E0 X) 83 [.ptr 0 0, laA l, .int .i64 slot, .int .i64 (seq : Int), .int .i64 (capI l)] (devH v) (fun r H' => r = .tup [.sl 1 ((strF v seq (l.rs.toNat - 1) ((74 + slot * l.rs).toNat + 1)).map u8A), .bool true] ∧ H' = devH v) := by
  have hlv : v.image.length ≤ 1073741824 := by have := hv.load.2.2; omega
  refine ACalls.cutDv ?_ ⟨idsL_map fun _ => u8A_ids, trivial, trivial⟩
  have hfc := fun X => first_c X l slot
  obtain ⟨hf, h0, h1⟩ := h
  have hm := slot_mul hf h0 h1
  have hr := form_rs hf
  rw [show firstI l slot = 74 + slot * l.rs from if_pos ⟨hf, h0, h1⟩] at hfc
  rw [show capI l = (l.rs - 1) * 59 from if_pos hf]
  obtain ⟨F, hF⟩ := Int.eq_ofNat_of_zero_le (show 0 ≤ 74 + slot * l.rs by omega)
  rw [hF] at hfc
  rw [hF, Int.toNat_natCast]
  have hF2 : F ≤ 32842 := by omega
  have wr : ∀ x : Int, 0 ≤ x → x ≤ 1000000 → IntKind.i64.wrap x = x := fun x a b => wrap_in (by omega) (by omega)
  have hn1 : ¬ (F : Int) < 0 := by omega
  have hn2 : ¬ (seq : Int) < 1 := by omega
  have hn3 : ¬ (281474976710655 : Int) < (seq : Int) := by omega
  generalize htot : strF v seq (l.rs.toNat - 1) (F + 1) = tot
  show ACalls (E0 X) 83 [.ptr 0 0, .agg [.int .i64 l.id, .int .i64 l.ver, .int .i64 l.rs, .int .i64 l.regs], .int .i64 slot, .int .i64 (seq : Int), .int .i64 ((l.rs - 1) * 59)] (devH v) _
  refine acalls_of Proofs.Tryd.func83 rfl Proofs.Tryd.ntmps83 (by kernel_rfl) rfl ?_
  intro hH hargs
  clear hH hargs
  repeat' (first | ((refine Qa rfl ?_); (first | refine Q0 ?_ | refine Q1 ?_ | refine Q3 rfl rfl rfl ?_ | refine QK rfl ?_); (refine QX rfl rfl ?_)) | refine Qa rfl ?_ | refine Qh ?_ | refine Ql ?_ | refine Qo rfl ?_)
  refine st_call (fun _ => rfl) rfl ?_
  refine ACalls.mono (acalls_pure (E := E0 X) (fun X => hfc X) (by simp [IdsLtL, IdsLt]) _) ?_
  rintro r H' ⟨rfl, rfl⟩
  first | refine nx rfl rfl ?_ | refine nx0 ?_
  repeat' (first | ((refine Qa rfl ?_); (first | refine Q0 ?_ | refine Q1 ?_ | refine Q2 rfl ?_ | refine Q5 rfl ?_); (refine QX rfl rfl ?_)) | refine Qh ?_ | refine Ql ?_ | refine Qo rfl ?_)
  rw [decide_eq_false hn1]
  skip
  rw [decide_eq_false hn2]
  repeat' (first | ((refine Qa rfl ?_); (first | refine Q0 ?_ | refine Q2 rfl ?_ | refine Q5 rfl ?_); (refine QX rfl rfl ?_)) | refine Qh ?_ | refine Qs ?_)
  rw [decide_eq_false hn3]
  repeat' (first | ((refine Qa rfl ?_); (first | refine Q0 ?_ | refine Q1 ?_ | refine Q2 rfl ?_); (refine QX rfl rfl ?_)) | refine Qh ?_ | refine Ql ?_ | refine Qm ?_ | refine Qn ?_ | refine Qo rfl ?_ | refine Qq rfl ?_)
  rw [wr _ (by omega) (by omega)]
  refine awp_loop2 (fun p : Nat × List UInt8 => ⟨[(0, .ptr 0 0), (3, .int .i64 (seq : Int)), (4, .int .i64 ((l.rs - 1) * 59)), (6, .ptr 3 0), (12, .int .i64 (F : Int)), (13, .own 4 0 p.2.length), (14, .int .i64 ((F + 1 + p.1 : Nat) : Int))], devH v ++ [some (.cells [.int .i64 l.id, .int .i64 l.ver, .int .i64 l.rs, .int .i64 l.regs] 29), some (.arr (p.2.map u8A) 5)]⟩)
    (fun p => p.1 ≤ l.rs.toNat - 1 ∧ p.2.length = 59 * p.1 ∧ p.2 ++ strF v seq (l.rs.toNat - 1 - p.1) (F + 1 + p.1) = tot) (fun p => l.rs.toNat - 1 - p.1) (0, []) ⟨Nat.zero_le _, rfl, htot⟩ ?_ ?_
  · refine Imp.trans (imp_nil 13 5 rfl) (imp_cutk 5 (by simp [devH]) (hok_st v l []) rfl (by simp [devH]) ?_)
    repeat' (first | exact fa_nil | refine fa_cons ⟨?_, ?_⟩ ?_)
    all_goals (try first | exact rfl | exact trivial | (simp [IdsLt, IdsLtL]; done) | (simp [get_cons]; done) | (simp [get_cons, *]; done) | (refine congrArg (AV.int .i64) (wrap_eq ?_ ?_ ?_) <;> (first | omega | (simp; omega))))
  rintro ⟨i, out⟩ ⟨hi0, hol0, hr20⟩
  have hi : i ≤ l.rs.toNat - 1 := hi0
  have hol : out.length = 59 * i := hol0
  have hr2 : out ++ strF v seq (l.rs.toNat - 1 - i) (F + 1 + i) = tot := hr20
  clear hi0 hol0 hr20
  show AWp _ _ _ _ _ ⟨[(0, .ptr 0 0), (3, .int .i64 (seq : Int)), (4, .int .i64 ((l.rs - 1) * 59)), (6, .ptr 3 0), (12, .int .i64 (F : Int)), (13, .own 4 0 out.length), (14, .int .i64 ((F + 1 + i : Nat) : Int))], devH v ++ [some (.cells [.int .i64 l.id, .int .i64 l.ver, .int .i64 l.rs, .int .i64 l.regs] 29), some (.arr (out.map u8A) 5)]⟩
  repeat' (first | ((refine Qa rfl ?_); (first | refine Q0 ?_ | refine Q2 rfl ?_ | refine Q3 rfl rfl rfl ?_ | refine Q4 rfl rfl rfl rfl rfl ?_); (refine QX rfl rfl ?_)) | refine Ql ?_ | refine Qo rfl ?_)
  rw [wr ((F : Int) + l.rs) (by omega) (by omega)]
  by_cases hlt : i < l.rs.toNat - 1
  · rw [decide_eq_true (show ((F + 1 + i : Nat) : Int) < (F : Int) + l.rs by omega)]
    repeat' (first | ((refine Qa rfl ?_); (first | refine Q0 ?_ | refine Q2 rfl ?_ | refine Q5 rfl ?_ | refine Q7 rfl rfl rfl ?_); (refine QX rfl rfl ?_)) | refine Qh ?_ | refine Qs ?_)
    rw [decide_eq_true (show (out.length : Int) < (l.rs - 1) * 59 by omega)]
    repeat' (first | ((refine Qa rfl ?_); (refine Q0 ?_); (refine QX rfl rfl ?_)) | refine Qa rfl ?_ | refine Ql ?_ | refine Qm ?_ | refine Qn ?_ | refine Qo rfl ?_ | refine Qp rfl ?_)
    have hst : strF v seq (l.rs.toNat - 1 - i) (F + 1 + i) = if v.check ((F + 1 + i : Nat) : Int) ≠ 0 then [] else match decF 2 seq (F + 1 + i) ((v.image.drop ((F + 1 + i) * 64)).take 64) with
        | none => []
        | some p => p ++ strF v seq (l.rs.toNat - 1 - (i + 1)) (F + 1 + (i + 1)) := by
      have e : l.rs.toNat - 1 - i = (l.rs.toNat - 1 - (i + 1)) + 1 := by omega
      rw [e]; rfl
    have hrd := read_at X v ((F + 1 + i : Nat) : Int) hlv [] [some (.cells [.int .i64 l.id, .int .i64 l.ver, .int .i64 l.rs, .int .i64 l.regs] 29), some (.arr (out.map u8A) 5)] 0 rfl
    rw [Int.toNat_natCast] at hrd
    have hci := check_in hv (i := ((F + 1 + i : Nat) : Int))
    have hSw : IntKind.i64.wrap (((F + 1 + i : Nat) : Int) + 1) = ((F + 1 + (i + 1) : Nat) : Int) := wrap_eq (by omega) (by omega) (by omega)
    have hSb : F + 1 + i < 1048576 := by omega
    have hmeas : l.rs.toNat - 1 - (i + 1) < l.rs.toNat - 1 - i := Nat.sub_lt_sub_left hlt (Nat.lt_succ_self i)
    have hi1 : i + 1 ≤ l.rs.toNat - 1 := hlt
    have hol1 : out.length + 59 = 59 * (i + 1) := by rw [hol, Nat.mul_succ]
    by_cases hc : v.check ((F + 1 + i : Nat) : Int) = 0
    · obtain ⟨-, k, hk, hk2⟩ := hci hc
      have hkk : k = F + 1 + i := by omega
      subst hkk
      rw [if_neg (by rw [hc]; simp)] at hst
      have hbl : ((v.image.drop ((F + 1 + i) * 64)).take 64).length = 64 := by simp; omega
      generalize (v.image.drop ((F + 1 + i) * 64)).take 64 = bb at *
      have hde := fun X => fdec_c X 2 seq (F + 1 + i) bb ⟨by decide, by decide, hSb⟩ (by omega) (by omega)
      generalize hS : F + 1 + i = S at *
      refine st_call (fun _ => rfl) rfl ?_
      refine ACalls.mono hrd ?_
      rintro r H' (⟨hc2, -, -⟩ | ⟨-, rfl, rfl⟩)
      · exact absurd hc hc2
      first | refine nx rfl rfl ?_ | refine nx0 ?_
      repeat' (first | ((refine Qa rfl ?_); (first | refine Q0 ?_ | refine Q1 ?_ | refine QC rfl rfl ?_); (refine QX rfl rfl ?_)) | refine Qh ?_)
      refine then_i ?_
      cases hd : decF 2 seq S bb with
      | none =>
        rw [hd] at hst
        have ho : out = tot := by rw [← hr2, hst, List.append_nil]
        rw [← ho]
        refine awp_pre (Imp.trans (imp_freeze (id := 5) (k := 1) (es := bb.map u8A) (e := 5) rfl rfl rfl) (Imp.trans (imp_freeze (id := 4) (k := 1) (es := out.map u8A) (e := 5) rfl rfl rfl) (imp_cutk 3 (Nat.le_refl _) (hok_dev v) rfl (by simp [devH, devS])
          (sl' := [(3, .int .i64 (seq : Int)), (13, .sl 1 (out.map u8A)), (14, .int .i64 (S : Int)), (15, .sl 1 (bb.map u8A)), (16, .int .i64 0)]) ?_))) ?_
        · repeat' (first | exact fa_nil | refine fa_cons ⟨?_, ?_⟩ ?_)
          all_goals (try first | exact rfl | exact trivial | exact idsL_map fun _ => u8A_ids)
          · show frz 4 1 (out.map u8A) (frz 5 1 (bb.map u8A) (.own 4 0 out.length)) = _
            simp [frz, List.take_of_length_le]
          · show frz 4 1 (out.map u8A) (frz 5 1 (bb.map u8A) (.own 5 0 64)) = _
            simp [frz, hbl, List.take_of_length_le]
        repeat' (first | ((refine Qa rfl ?_); (first | refine Q0 ?_ | refine Q2 rfl ?_); (refine QX rfl rfl ?_)) | refine Qa rfl ?_ | refine Qh ?_ | refine Ql ?_ | refine Qm ?_ | refine Qo rfl ?_ | refine Qq rfl ?_)
        refine st_call (fun _ => rfl) rfl ?_
        refine ACalls.mono (acalls_pure (E := E0 X) (fun X => hde X) (by simp [IdsLtL, IdsLt]) _) ?_
        rintro r H' ⟨rfl, rfl⟩
        first | refine nx rfl rfl ?_ | refine nx0 ?_
        rw [hd]
        repeat' (first | ((refine Qa rfl ?_); (first | refine Q0 ?_ | refine Q1 ?_ | refine QC rfl rfl ?_ | refine QD rfl ?_); (refine QX rfl rfl ?_)) | refine Qh ?_ | refine Ql ?_ | refine Qo rfl ?_ | refine Qp rfl ?_ | refine Qr ?_ | refine Qs ?_)
        refine awp_ret ?_
        exact ⟨_, rfl, rfl, rfl⟩
      | some p =>
        have hpl := (decF_len hd).1
        rw [hd] at hst
        refine awp_pre (Imp.trans (imp_freeze (id := 5) (k := 1) (es := bb.map u8A) (e := 5) rfl rfl rfl) (imp_cutk 5 (by simp [devH]) (hok_st v l out) rfl (by simp [devH, devS])
          (sl' := [(0, .ptr 0 0), (3, .int .i64 (seq : Int)), (4, .int .i64 ((l.rs - 1) * 59)), (6, .ptr 3 0), (12, .int .i64 (F : Int)), (13, .own 4 0 out.length), (14, .int .i64 (S : Int)), (15, .sl 1 (bb.map u8A)), (16, .int .i64 0)]) ?_)) ?_
        · repeat' (first | exact fa_nil | refine fa_cons ⟨?_, ?_⟩ ?_)
          all_goals (try first | exact rfl | exact trivial | exact idsL_map (fun _ => u8A_ids) | (simp [IdsLt, IdsLtL]; done))
          · show frz 5 1 (bb.map u8A) (.own 5 0 64) = _
            simp [frz, hbl, List.take_of_length_le]
        repeat' (first | ((refine Qa rfl ?_); (first | refine Q0 ?_ | refine Q2 rfl ?_); (refine QX rfl rfl ?_)) | refine Qa rfl ?_ | refine Qh ?_ | refine Ql ?_ | refine Qm ?_ | refine Qo rfl ?_ | refine Qq rfl ?_)
        refine st_call (fun _ => rfl) rfl ?_
        refine ACalls.mono (acalls_pure (E := E0 X) (fun X => hde X) (by simp [IdsLtL, IdsLt]) _) ?_
        rintro r H' ⟨rfl, rfl⟩
        first | refine nx rfl rfl ?_ | refine nx0 ?_
        rw [hd]
        repeat' (first | ((refine Qa rfl ?_); (first | refine Q0 ?_ | refine Q1 ?_ | refine QC rfl rfl ?_ | refine QD rfl ?_); (refine QX rfl rfl ?_)) | refine Qa rfl ?_ | refine Qh ?_ | refine Ql ?_ | refine Qm ?_ | refine Qo rfl ?_ | refine Qq rfl ?_)
        refine st_app (oid := some 4) (es := out.map u8A) (out := (out ++ p).map u8A) (n := out.length + 59) (dst_own rfl (List.length_map _).symm) (rfl) (oneEs_u8 _) (by rw [List.map_append]) (by rw [List.length_map, List.length_map, hpl]) (by show _ ≤ 9223372036854775807; omega) (by show _ * 1 ≤ _; omega) rfl rfl rfl rfl rfl rfl rfl rfl ?_
        first | refine nx rfl rfl ?_ | refine nx0 ?_
        repeat' (first | ((refine Qa rfl ?_); (first | refine Q0 ?_ | refine Q1 ?_ | refine Q2 rfl ?_); (refine QX rfl rfl ?_)) | refine Qh ?_ | refine Qo rfl ?_ | refine Qs ?_)
        refine ⟨(i + 1, out ++ p), ⟨hi1, by show (out ++ p).length = 59 * (i + 1); rw [List.length_append, hpl]; exact hol1, by show (out ++ p) ++ strF v seq (l.rs.toNat - 1 - (i + 1)) (F + 1 + (i + 1)) = tot; rw [← hr2, hst, List.append_assoc]⟩, hmeas, ?_⟩
        refine imp_tid 4 [5] (H' := devH v ++ [some (.cells [.int .i64 l.id, .int .i64 l.ver, .int .i64 l.rs, .int .i64 l.regs] 29), some (.arr ((out ++ p).map u8A) 5)]) (os := [.arr ((out ++ p).map u8A) 5]) ?_ ?_ ?_ ?_ ?_ rfl ?_ ?_ ?_
        · simp [devH]
        · simp [devH]
        · simp
        · simp
        · intro j o ho2
          match j, ho2 with
          | 0, ho2 => cases ho2; exact ⟨by simp [IdsLt], by simp [IdsLt], trivial, trivial, trivial, trivial⟩
          | 1, ho2 => cases ho2; exact idsL_map fun _ => u8A_ids
          | 2, ho2 => cases ho2; exact ⟨by rw [List.map_map]; exact idsL_map fun _ => trivial, by rw [List.map_map]; exact idsL_map fun p => (idsL_map (f := u8A) fun _ => u8A_ids : IdsLtL _ (p.2.map u8A))⟩
          | 3, ho2 => cases ho2; exact ⟨trivial, trivial, trivial, trivial, trivial⟩
        · rfl
        · refine fa_cons (ren_lt rfl (by simp [IdsLt])) (fa_cons (ren_lt rfl trivial) (fa_cons (ren_lt rfl trivial) (fa_cons (ren_lt rfl (by simp [IdsLt])) (fa_cons (ren_lt rfl trivial) (fa_cons ?_ (fa_cons (ren_lt ?_ trivial) fa_nil))))))
          · rw [show (out ++ p).length = out.length + 59 by rw [List.length_append, hpl]]
            exact ren_own rfl
          · exact congrArg (AV.int .i64) hSw
        · exact os_cons rfl (renO_old 4 gcF_lt (idsL_map fun _ => u8A_ids)) os_nil
    · rw [if_pos hc] at hst
      have ho : out = tot := by rw [← hr2, hst, List.append_nil]
      rw [← ho]
      refine st_call (fun _ => rfl) rfl ?_
      refine ACalls.mono hrd ?_
      rintro r H' (⟨-, rfl, rfl⟩ | ⟨hc2, -, -⟩)
      rotate_left
      · exact absurd hc2 hc
      first | refine nx rfl rfl ?_ | refine nx0 ?_
      repeat' (first | ((refine Qa rfl ?_); (first | refine Q0 ?_ | refine Q1 ?_ | refine Q2 rfl ?_ | refine QC rfl rfl ?_); (refine QX rfl rfl ?_)) | refine Qh ?_ | refine Ql ?_ | refine Qo rfl ?_ | refine Qs ?_)
      refine awp_cond_dec rfl (fun h4 => ?_) (fun h4 => ?_)
      rotate_left
      · exact absurd (by omega) hc
      repeat' (first | ((refine Qa rfl ?_); (first | refine Q0 ?_ | refine Q1 ?_); (refine QX rfl rfl ?_)) | refine Qh ?_ | refine Ql ?_ | refine Qo rfl ?_ | refine Qr ?_ | refine Qs ?_)
      refine awp_pre (Imp.trans (imp_freeze (id := 4) (k := 1) (es := out.map u8A) (e := 5) rfl rfl rfl) (imp_cutk 3 (Nat.le_refl _) (hok_dev v) rfl (by simp [devH]) (sl' := [(10, .sl 1 (out.map u8A)), (11, .bool true)]) ?_)) ?_
      · refine fa_cons ⟨?_, idsL_map fun _ => u8A_ids⟩ (fa_cons ⟨rfl, trivial⟩ fa_nil)
        show frz 4 1 (out.map u8A) (.own 4 0 out.length) = _
        simp [frz, List.take_of_length_le]
      refine awp_ret ?_
      exact ⟨_, rfl, rfl, rfl⟩
  · have hz : strF v seq (l.rs.toNat - 1 - i) (F + 1 + i) = [] := by
      rw [show l.rs.toNat - 1 - i = 0 by omega]; rfl
    have ho : out = tot := by rw [← hr2, hz, List.append_nil]
    rw [← ho]
    rw [decide_eq_false (show ¬ ((F + 1 + i : Nat) : Int) < (F : Int) + l.rs by omega)]
    repeat' (first | ((refine Qa rfl ?_); (first | refine Q0 ?_ | refine Q1 ?_ | refine Q5 rfl ?_); (refine QX rfl rfl ?_)) | refine Qh ?_ | refine Qi rfl ?_ | refine Ql ?_ | refine Qo rfl ?_ | refine Qq rfl ?_ | refine Qr ?_ | refine Qs ?_)
    refine awp_pre (Imp.trans (imp_freeze (id := 4) (k := 1) (es := out.map u8A) (e := 5) rfl rfl rfl) (imp_cutk 3 (Nat.le_refl _) (hok_dev v) rfl (by simp [devH]) (sl' := [(10, .sl 1 (out.map u8A)), (11, .bool true)]) ?_)) ?_
    · refine fa_cons ⟨?_, idsL_map fun _ => u8A_ids⟩ (fa_cons ⟨rfl, trivial⟩ fa_nil)
      show frz 4 1 (out.map u8A) (.own 4 0 out.length) = _
      simp [frz, List.take_of_length_le]
    refine awp_ret ?_
    exact ⟨_, rfl, rfl, rfl⟩
end Go.Abs
namespace Go.Abs
def decG (ver : Int) (seq off : Nat) (b : List UInt8) (kd kl vl ex : Nat) : Option Rec :=
  if 65536 < vl ∨ b.length < 16 + kl + vl then none
  else if chkR ver ⟨(kd : Int), (b.drop 16).take kl, (b.drop (16 + kl)).take vl, (ex : Int)⟩ = 0 ∧ encR ver seq off ⟨(kd : Int), (b.drop 16).take kl, (b.drop (16 + kl)).take vl, (ex : Int)⟩ = b.take (16 + kl + vl)
    then some ⟨(kd : Int), (b.drop 16).take kl, (b.drop (16 + kl)).take vl, (ex : Int)⟩ else none
def decR (ver : Int) (seq off : Nat) (b : List UInt8) : Option Rec :=
  if b.length < 16 then none
  else if ver = 1 then decG ver seq off b (numN ((b.drop 1).take 1)) (numN ((b.drop 2).take 1)) (numN ((b.drop 4).take 4)) (numN ((b.drop 8).take 4))
  else decG ver seq off b (numN ((b.drop 2).take 1) / 16) (numN ((b.drop 1).take 1)) (numN ((b.drop 3).take 3)) (numN ((b.drop 7).take 5))
def recO : Option Rec → AV
  | none => .tup [.agg [.int .i64 0, .nils, .nils, .int .i64 0], .int .i64 0, .bool false]
  | some r => .tup [recA r, .int .i64 (lenR r : Int), .bool true]
theorem recO_ids (o : Option Rec) {n : Nat} : IdsLt n (recO o) := by
  cases o with
  | none => exact ⟨⟨trivial, trivial, trivial, trivial, trivial⟩, trivial, trivial, trivial⟩
  | some r => exact ⟨recA_ids, trivial, trivial, trivial⟩
theorem drop_take11 (b : List UInt8) (lo w : Nat) (h : lo + w ≤ 11) : ((((b.drop 1).take 11).drop lo).take w) = (b.drop (1 + lo)).take w := by
  rw [List.drop_take, List.take_take, List.drop_drop, Nat.min_eq_left (by omega)]
theorem decG_len {ver : Int} {seq off : Nat} {b : List UInt8} {kd kl vl ex : Nat} {r : Rec} (h : decG ver seq off b kd kl vl ex = some r) : lenR r ≤ b.length ∧ chkR ver r = 0 ∧ encR ver seq off r = b.take (lenR r) := by
  unfold decG at h
  split at h
  · cases h
  rename_i h1
  split at h
  · rename_i h2
    injection h with h
    subst h
    have e1 : lenR ⟨(kd : Int), (b.drop 16).take kl, (b.drop (16 + kl)).take vl, (ex : Int)⟩ = 16 + kl + vl := by
      simp only [lenR, List.length_take, List.length_drop]; omega
    exact ⟨by omega, h2.1, by rw [e1]; exact h2.2⟩
  · cases h
theorem decR_len {ver : Int} {seq off : Nat} {b : List UInt8} {r : Rec} (h : decR ver seq off b = some r) : lenR r ≤ b.length ∧ chkR ver r = 0 ∧ encR ver seq off r = b.take (lenR r) := by
  unfold decR at h
  split at h
  · cases h
  split at h
  · exact decG_len h
  · exact decG_len h
theorem num_1 {bs : List UInt8} {lo : Nat} : numN ((bs.drop lo).take 1) ≤ 255 := by
  have h1 := numN_lt ((bs.drop lo).take 1)
  have h2 : ((bs.drop lo).take 1).length ≤ 1 := by simp; omega
  have hp : 256 ^ ((bs.drop lo).take 1).length ≤ 256 ^ 1 := Nat.pow_le_pow_right (by decide) h2
  omega
attribute [local irreducible] AStep aops AWp Nx awM
set_option maxHeartbeats 0 in
theorem rclo_c (X : Nat → Prop) (bs : List UInt8) (lo w : Nat) (hw : 1 ≤ w) (hw6 : w ≤ 6) (h : lo + w ≤ bs.length) (hb : bs.length ≤ 1000) :
    ACalls (E0 X) 126 [.int .i64 (w : Int), .fp [.ptr 1 0]] (rdrH bs lo) (fun r H' => r = .int .i64 (numN ((bs.drop lo).take w) : Int) ∧ H' = rdrH bs (lo + w)) := by
  have s1 := num_small (bs := bs) (lo := lo) (w := w) hw6
  have c1 := num_c X bs lo w hw (by omega) h hb
  generalize numN ((bs.drop lo).take w) = n at *
  refine acalls_of Proofs.Tryd.func126 rfl Proofs.Tryd.ntmps126 (by kernel_rfl) rfl ?_
  intro hH hargs
  clear hH hargs
  repeat' (first | ((refine Qa rfl ?_); (first | refine Q0 ?_ | refine Q1 ?_ | refine Q3 rfl rfl rfl ?_); (refine QX rfl rfl ?_)) | refine Qa rfl ?_ | refine Qh ?_ | refine Ql ?_ | refine Qo rfl ?_)
  refine st_call (fun _ => rfl) rfl ?_
  refine ACalls.mono (c1) ?_
  rintro r H' ⟨rfl, rfl⟩
  first | refine nx rfl rfl ?_ | refine nx0 ?_
  repeat' (first | ((refine Qa rfl ?_); (first | refine Q1 ?_ | refine QG rfl rfl rfl rfl ?_); (refine QX rfl rfl ?_)) | refine Qh ?_ | refine Qs ?_)
  refine awp_ret ?_
  refine ⟨_, rfl, ?_, ?_⟩
  · exact congrArg (AV.int .i64) (wrapI s1)
  · rfl
theorem rclo_at (X : Nat → Prop) (bs : List UInt8) (lo w : Nat) (hw : 1 ≤ w) (hw6 : w ≤ 6) (h : lo + w ≤ bs.length) (hb : bs.length ≤ 1000) (L R : Hp) (s : Nat) (hs : L.length = s) :
    ACalls (E0 X) 126 [.int .i64 (w : Int), .fp [.ptr (1 + s) 0]] (L ++ rdrS bs s lo ++ R) (fun r H' => r = .int .i64 (numN ((bs.drop lo).take w) : Int) ∧ H' = L ++ rdrS bs s (lo + w) ++ R) := by
  subst hs
  have hm : ∀ lo, mapH (sh L.length R.length 2) (rdrH bs lo) = rdrS bs L.length lo := fun lo => mapH_rdrG _ 0 L.length bs lo (by simp [sh])
  refine ACalls.conv (ACalls.frameLR (E := E0 X) (fun X => rclo_c X bs lo w hw hw6 h hb) L R (some_rdr bs lo) ⟨trivial, ⟨by simp [IdsLt, rdrH], trivial⟩, trivial⟩ (hok_rdr bs lo)) ?_ (by rw [show (rdrH bs lo).length = 2 from rfl, hm]) ?_
  · simp [rnL, rnA, sh, rdrH]
  · rintro q H' ⟨r1, h', ⟨rfl, rfl⟩, -, rfl, rfl⟩
    refine ⟨rfl, ?_⟩
    show L ++ mapH (sh L.length R.length 2) (rdrH bs (lo + w)) ++ R ++ [] = _
    rw [hm, List.append_nil]
/-- The closure over the first eleven bytes behind the mark. -/
theorem rclo_b (X : Nat → Prop) (b : List UInt8) (lo w p : Nat) (hp : p = 1 + lo) (hw : 1 ≤ w) (hw6 : w ≤ 6) (h : lo + w ≤ 11) (hb : 12 ≤ b.length) (L R : Hp) (s : Nat) (hs : L.length = s) :
    ACalls (E0 X) 126 [.int .i64 (w : Int), .fp [.ptr (1 + s) 0]] (L ++ rdrS ((b.drop 1).take 11) s lo ++ R) (fun r H' => r = .int .i64 (numN ((b.drop p).take w) : Int) ∧ H' = L ++ rdrS ((b.drop 1).take 11) s (lo + w) ++ R) := by
  have hl : ((b.drop 1).take 11).length = 11 := by simp; omega
  have := rclo_at X ((b.drop 1).take 11) lo w hw hw6 (by omega) (by omega) L R s hs
  rw [drop_take11 b lo w h, ← hp] at this
  exact this
end Go.Abs
namespace Go.Abs
def zR : AO := .cells [.int .i64 0, .nils, .nils, .int .i64 0] 83
theorem hok_zr (bs : List UInt8) (lo : Nat) : HOk 3 [some zR, some (.arr (bs.map u8A) 5), some (rdrC bs 1 lo)] := fun j o ho => by
  match j, ho with
  | 0, ho => cases ho; exact ⟨trivial, trivial, trivial, trivial, trivial⟩
  | 1, ho => cases ho; exact idsL_map fun _ => u8A_ids
  | 2, ho => cases ho; exact ⟨by simp [IdsLt], trivial, trivial⟩
theorem hok_zr2 (bs : List UInt8) (lo : Nat) (a c : Int) : HOk 4 [some zR, some (.arr (bs.map u8A) 5), some (rdrC bs 1 lo), some (.cells [.int .i64 a, .nils, .nils, .int .i64 c] 83)] := fun j o ho => by
  match j, ho with
  | 0, ho => cases ho; exact ⟨trivial, trivial, trivial, trivial, trivial⟩
  | 1, ho => cases ho; exact idsL_map fun _ => u8A_ids
  | 2, ho => cases ho; exact ⟨by simp [IdsLt], trivial, trivial⟩
  | 3, ho => cases ho; exact ⟨trivial, trivial, trivial, trivial, trivial⟩
attribute [local irreducible] AStep aops AWp Nx awM
set_option maxHeartbeats 0 in
set_option maxRecDepth 100000 in
theorem rdec_c (X : Nat → Prop) (ver : Int) (seq off : Nat) (b : List UInt8) (hs : seq < 9223372036854775808) (ho : off ≤ 2147483647) (hb : b.length ≤ 1000000) :
    ACalls (E0 X) 85 [.int .i64 ver, .int .i64 (seq : Int), .int .i64 (off : Int), .sl 1 (b.map u8A)] [] (fun r H' => r = recO (decR ver seq off b) ∧ H' = []) := by
  refine ACalls.cut0 ?_ (recO_ids _)
  have hbm : (b.map u8A).length = b.length := List.length_map _
  refine acalls_of Proofs.Tryd.func85 rfl Proofs.Tryd.ntmps85 (by kernel_rfl) rfl ?_
  intro hH hargs
  clear hH hargs
  repeat' (first | ((refine Qa rfl ?_); (first | refine Q0 ?_ | refine Q1 ?_ | refine Q2 rfl ?_ | refine Q7 rfl rfl rfl ?_ | refine QJ rfl rfl ?_); (refine QX rfl rfl ?_)) | refine Qh ?_ | refine Ql ?_ | refine Qo rfl ?_ | refine Qs ?_)
  by_cases h1 : b.length < 16
  · rw [decide_eq_true (show ((b.map u8A).length : Int) < 16 by omega)]
    have e : decR ver seq off b = none := if_pos h1
    rw [e]
    repeat' (first | ((refine Qa rfl ?_); (first | refine Q1 ?_ | refine QP rfl rfl rfl rfl rfl rfl ?_); (refine QX rfl rfl ?_)) | (refine Qb rfl ?_; try (refine QS rfl rfl rfl rfl rfl rfl rfl ?_; (refine QX rfl rfl ?_))) | refine Qh ?_ | refine Ql ?_ | refine Qo rfl ?_ | refine Qp rfl ?_ | refine Qs ?_)
    refine awp_ret ?_
    exact ⟨_, rfl, rfl⟩
  rw [decide_eq_false (show ¬ ((b.map u8A).length : Int) < 16 by omega)]
  have hl11 : ((b.drop 1).take 11).length = 11 := by simp; omega
  obtain ⟨kd, kl, vl, ex, hkl, hvl, hdec, c1, c2⟩ : ∃ kd kl vl ex : Nat, kl ≤ 255 ∧ vl ≤ 281474976710655 ∧ decR ver seq off b = decG ver seq off b kd kl vl ex ∧
      (ver = 1 → numN ((b.drop 1).take 1) = kd ∧ numN ((b.drop 2).take 1) = kl ∧ numN ((b.drop 4).take 4) = vl ∧ numN ((b.drop 8).take 4) = ex) ∧
      (¬ ver = 1 → numN ((b.drop 2).take 1) / 16 = kd ∧ numN ((b.drop 1).take 1) = kl ∧ numN ((b.drop 3).take 3) = vl ∧ numN ((b.drop 7).take 5) = ex) := by
    by_cases h2 : ver = 1
    · exact ⟨_, _, _, _, num_1, num_small (by decide), by unfold decR; rw [if_neg h1, if_pos h2], fun _ => ⟨rfl, rfl, rfl, rfl⟩, fun h => absurd h2 h⟩
    · exact ⟨_, _, _, _, num_1, num_small (by decide), by unfold decR; rw [if_neg h1, if_neg h2], fun h => absurd h h2, fun _ => ⟨rfl, rfl, rfl, rfl⟩⟩
  have p1 := fun R => rclo_b X b 0 1 1 rfl (by decide) (by decide) (by decide) (by omega) [some zR] R 1 rfl
  have p2 := fun R => rclo_b X b 1 1 2 rfl (by decide) (by decide) (by decide) (by omega) [some zR] R 1 rfl
  have p3 := fun R => rclo_b X b 2 1 3 rfl (by decide) (by decide) (by decide) (by omega) [some zR] R 1 rfl
  have p4 := fun R => rclo_b X b 3 4 4 rfl (by decide) (by decide) (by decide) (by omega) [some zR] R 1 rfl
  have p5 := fun R => rclo_b X b 7 4 8 rfl (by decide) (by decide) (by decide) (by omega) [some zR] R 1 rfl
  have q3 := fun R => rclo_b X b 2 3 3 rfl (by decide) (by decide) (by decide) (by omega) [some zR] R 1 rfl
  have q4 := fun R => rclo_b X b 5 1 6 rfl (by decide) (by decide) (by decide) (by omega) [some zR] R 1 rfl
  have q5 := fun R => rclo_b X b 6 5 7 rfl (by decide) (by decide) (by decide) (by omega) [some zR] R 1 rfl
  rw [hdec]
  clear hdec
  have hnr := fun H x hx => newr_at X ((b.drop 1).take 11) (by omega) H x hx
  have hn16 := num_1 (bs := b) (lo := 2)
  repeat' (first | ((refine Qa rfl ?_); (refine Q0 ?_); (refine QX rfl rfl ?_)) | refine Qa rfl ?_ | refine Ql ?_ | refine Qm ?_ | refine Qo rfl ?_ | refine Qq rfl ?_)
  refine st_sls (l := 1) (h := 12) (ys := (b.drop 1).take 11) (bnd_some rfl rfl) (bnd_some rfl rfl) (by omega) (by omega) (by rw [List.drop_take]) rfl rfl rfl rfl rfl ?_
  first | refine nx rfl rfl ?_ | refine nx0 ?_
  generalize (b.drop 1).take 11 = hd at *
  repeat' (refine Qa rfl ?_)
  refine st_call (fun _ => rfl) rfl ?_
  refine ACalls.mono (hnr _ _ rfl) ?_
  rintro r H' ⟨rfl, rfl⟩
  first | refine nx rfl rfl ?_ | refine nx0 ?_
  repeat' (first | ((refine Qa rfl ?_); (refine QJ rfl rfl ?_); (refine QX rfl rfl ?_)) | (refine Qb rfl ?_; try (refine QS rfl rfl rfl rfl rfl rfl rfl ?_; (refine QX rfl rfl ?_))) | refine Qh ?_)
  refine then_i ?_
  refine awp_pre (imp_freezeP (id := 3) (cs := [.ptr 2 0]) rfl) ?_
  refine awp_pre (imp_cutk 3 (Nat.zero_le _) (hok_zr hd 0) rfl (by simp) (sl' := [(0, .int .i64 ver), (1, .int .i64 (seq : Int)), (2, .int .i64 (off : Int)), (3, .sl 1 (b.map u8A)), (8, .ptr 0 0), (11, .fp [.ptr 2 0])]) ?_) ?_
  · repeat' (first | exact fa_nil | refine fa_cons ⟨?_, ?_⟩ ?_)
    all_goals (try first | exact rfl | exact trivial | (simp [IdsLt, IdsLtL]; done) | (simp [get_cons]; done) | (simp [get_cons, *]; done) | (refine congrArg (AV.int .i64) (wrap_eq ?_ ?_ ?_) <;> (first | omega | (simp; omega))))
  repeat' (first | ((refine Qa rfl ?_); (first | refine Q0 ?_ | refine Q1 ?_ | refine Q2 rfl ?_ | refine QJ rfl rfl ?_ | refine QN ?_); (refine QX rfl rfl ?_)) | refine Qh ?_ | refine Ql ?_ | refine Qo rfl ?_ | refine Qs ?_)
  refine awp_mid (s1 := ⟨[(0, .int .i64 ver), (1, .int .i64 (seq : Int)), (2, .int .i64 (off : Int)), (3, .sl 1 (b.map u8A)), (8, .ptr 0 0), (13, .ptr 3 0), (14, .int .i64 (kl : Int)), (15, .int .i64 (vl : Int))], [some zR, some (.arr (hd.map u8A) 5), some (rdrC hd 1 11), some (.cells [.int .i64 (kd : Int), .nils, .nils, .int .i64 (ex : Int)] 83)]⟩) ?_ ?_
  · refine awp_cond_dec rfl (fun h2 => ?_) (fun h2 => ?_)
    · obtain ⟨e1, e2, e3, e4⟩ := c1 h2
      rw [e1] at p1
      rw [e2] at p2
      rw [e3] at p4
      rw [e4] at p5
      repeat' (first | ((refine Qa rfl ?_); (refine Q0 ?_); (refine QX rfl rfl ?_)) | refine Qa rfl ?_ | refine Qo rfl ?_)
      refine st_call (fun _ => rfl) rfl ?_
      refine ACalls.mono (p1 _) ?_
      rintro r H' ⟨rfl, rfl⟩
      first | refine nx rfl rfl ?_ | refine nx0 ?_
      repeat' (first | ((refine Qa rfl ?_); (refine Q0 ?_); (refine QX rfl rfl ?_)) | refine Qa rfl ?_)
      refine st_call (fun _ => rfl) rfl ?_
      refine ACalls.mono (p2 _) ?_
      rintro r H' ⟨rfl, rfl⟩
      first | refine nx rfl rfl ?_ | refine nx0 ?_
      repeat' (first | ((refine Qa rfl ?_); (refine Q0 ?_); (refine QX rfl rfl ?_)) | refine Qa rfl ?_)
      refine st_call (fun _ => rfl) rfl ?_
      refine ACalls.mono (p3 _) ?_
      rintro r H' ⟨rfl, rfl⟩
      first | refine nx rfl rfl ?_ | refine nx0 ?_
      repeat' (first | ((refine Qa rfl ?_); (refine Q0 ?_); (refine QX rfl rfl ?_)) | refine Qa rfl ?_)
      refine st_call (fun _ => rfl) rfl ?_
      refine ACalls.mono (p4 _) ?_
      rintro r H' ⟨rfl, rfl⟩
      first | refine nx rfl rfl ?_ | refine nx0 ?_
      repeat' (first | ((refine Qa rfl ?_); (refine Q0 ?_); (refine QX rfl rfl ?_)) | refine Qa rfl ?_)
      refine st_call (fun _ => rfl) rfl ?_
      refine ACalls.mono (p5 _) ?_
      rintro r H' ⟨rfl, rfl⟩
      first | refine nx rfl rfl ?_ | refine nx0 ?_
      repeat' (first | ((refine Qa rfl ?_); (first | refine Q1 ?_ | refine Q4 rfl rfl rfl rfl rfl ?_); (refine QX rfl rfl ?_)) | (refine Qb rfl ?_; try (refine QS rfl rfl rfl rfl rfl rfl rfl ?_; (refine QX rfl rfl ?_))) | refine Qh ?_)
      refine ⟨rfl, imp_cutk 4 (Nat.zero_le _) (hok_zr2 hd 11 kd ex) rfl (by simp) ?_⟩
      repeat' (first | exact fa_nil | refine fa_cons ⟨?_, ?_⟩ ?_)
      all_goals (try first | exact rfl | exact trivial | (simp [IdsLt, IdsLtL]; done) | (simp [get_cons]; done) | (simp [get_cons, *]; done) | (refine congrArg (AV.int .i64) (wrap_eq ?_ ?_ ?_) <;> (first | omega | (simp; omega))))
    · obtain ⟨e1, e2, e3, e4⟩ := c2 h2
      rw [e2] at p1
      rw [e3] at q3
      rw [e4] at q5
      generalize numN ((b.drop 2).take 1) = n16 at *
      have hw16 : IntKind.i64.wrap (Int.tdiv (n16 : Int) 16) = (kd : Int) := by
        rw [← e1, show Int.tdiv (n16 : Int) 16 = ((n16 / 16 : Nat) : Int) from rfl]
        exact wrap_in (by omega) (by omega)
      repeat' (first | ((refine Qa rfl ?_); (refine Q0 ?_); (refine QX rfl rfl ?_)) | refine Qa rfl ?_ | refine Qo rfl ?_)
      refine st_call (fun _ => rfl) rfl ?_
      refine ACalls.mono (p1 _) ?_
      rintro r H' ⟨rfl, rfl⟩
      first | refine nx rfl rfl ?_ | refine nx0 ?_
      repeat' (first | ((refine Qa rfl ?_); (refine Q0 ?_); (refine QX rfl rfl ?_)) | refine Qa rfl ?_)
      refine st_call (fun _ => rfl) rfl ?_
      refine ACalls.mono (p2 _) ?_
      rintro r H' ⟨rfl, rfl⟩
      first | refine nx rfl rfl ?_ | refine nx0 ?_
      repeat' (first | ((refine Qa rfl ?_); (first | refine Q0 ?_ | refine QA rfl rfl (by decide) ?_); (refine QX rfl rfl ?_)) | refine Qa rfl ?_)
      rw [hw16]
      refine st_call (fun _ => rfl) rfl ?_
      refine ACalls.mono (q3 _) ?_
      rintro r H' ⟨rfl, rfl⟩
      first | refine nx rfl rfl ?_ | refine nx0 ?_
      repeat' (first | ((refine Qa rfl ?_); (refine Q0 ?_); (refine QX rfl rfl ?_)) | refine Qa rfl ?_)
      refine st_call (fun _ => rfl) rfl ?_
      refine ACalls.mono (q4 _) ?_
      rintro r H' ⟨rfl, rfl⟩
      first | refine nx rfl rfl ?_ | refine nx0 ?_
      repeat' (first | ((refine Qa rfl ?_); (refine Q0 ?_); (refine QX rfl rfl ?_)) | refine Qa rfl ?_)
      refine st_call (fun _ => rfl) rfl ?_
      refine ACalls.mono (q5 _) ?_
      rintro r H' ⟨rfl, rfl⟩
      first | refine nx rfl rfl ?_ | refine nx0 ?_
      repeat' (first | ((refine Qa rfl ?_); (first | refine Q1 ?_ | refine Q4 rfl rfl rfl rfl rfl ?_); (refine QX rfl rfl ?_)) | (refine Qb rfl ?_; try (refine QS rfl rfl rfl rfl rfl rfl rfl ?_; (refine QX rfl rfl ?_))) | refine Qh ?_)
      refine ⟨rfl, imp_cutk 4 (Nat.zero_le _) (hok_zr2 hd 11 kd ex) rfl (by simp) ?_⟩
      repeat' (first | exact fa_nil | refine fa_cons ⟨?_, ?_⟩ ?_)
      all_goals (try first | exact rfl | exact trivial | (simp [IdsLt, IdsLtL]; done) | (simp [get_cons]; done) | (simp [get_cons, *]; done) | (refine congrArg (AV.int .i64) (wrap_eq ?_ ?_ ?_) <;> (first | omega | (simp; omega))))
  clear p1 p2 p3 p4 p5 q3 q4 q5 c1 c2 hnr hn16
  have w1 : IntKind.i64.wrap (16 + (kl : Int)) = ((16 + kl : Nat) : Int) := wrap_eq (by omega) (by omega) (by omega)
  have w2 : IntKind.i64.wrap (((16 + kl : Nat) : Int) + (vl : Int)) = ((16 + kl + vl : Nat) : Int) := wrap_eq (by omega) (by omega) (by omega)
  repeat' (first | ((refine Qa rfl ?_); (first | refine Q0 ?_ | refine Q2 rfl ?_); (refine QX rfl rfl ?_)) | refine Ql ?_ | refine Qo rfl ?_)
  by_cases h3 : 65536 < vl
  · rw [decide_eq_true (show (65536 : Int) < (vl : Int) by omega)]
    have e : decG ver seq off b kd kl vl ex = none := if_pos (.inl h3)
    rw [e]
    repeat' (first | ((refine Qa rfl ?_); (first | refine Q1 ?_ | refine Q5 rfl ?_ | refine QP rfl rfl rfl rfl rfl rfl ?_); (refine QX rfl rfl ?_)) | (refine Qb rfl ?_; try (refine QS rfl rfl rfl rfl rfl rfl rfl ?_; (refine QX rfl rfl ?_))) | refine Qh ?_ | refine Qi rfl ?_ | refine Ql ?_ | refine Qo rfl ?_ | refine Qp rfl ?_ | refine Qs ?_)
    refine awp_ret ?_
    exact ⟨_, rfl, rfl⟩
  rw [decide_eq_false (show ¬ (65536 : Int) < (vl : Int) by omega)]
  repeat' (first | ((refine Qa rfl ?_); (first | refine Q0 ?_ | refine Q2 rfl ?_ | refine Q5 rfl ?_ | refine Q7 rfl rfl rfl ?_); (refine QX rfl rfl ?_)) | refine Qh ?_ | refine Qs ?_)
  rw [w1, w2]
  by_cases h4 : b.length < 16 + kl + vl
  · rw [decide_eq_true (show ((b.map u8A).length : Int) < ((16 + kl + vl : Nat) : Int) by omega)]
    have e : decG ver seq off b kd kl vl ex = none := if_pos (.inr h4)
    rw [e]
    repeat' (first | ((refine Qa rfl ?_); (first | refine Q1 ?_ | refine QP rfl rfl rfl rfl rfl rfl ?_); (refine QX rfl rfl ?_)) | (refine Qb rfl ?_; try (refine QS rfl rfl rfl rfl rfl rfl rfl ?_; (refine QX rfl rfl ?_))) | refine Qh ?_ | refine Ql ?_ | refine Qo rfl ?_ | refine Qp rfl ?_ | refine Qs ?_)
    refine awp_ret ?_
    exact ⟨_, rfl, rfl⟩
  rw [decide_eq_false (show ¬ ((b.map u8A).length : Int) < ((16 + kl + vl : Nat) : Int) by omega)]
  have e : decG ver seq off b kd kl vl ex = if chkR ver ⟨(kd : Int), (b.drop 16).take kl, (b.drop (16 + kl)).take vl, (ex : Int)⟩ = 0 ∧ encR ver seq off ⟨(kd : Int), (b.drop 16).take kl, (b.drop (16 + kl)).take vl, (ex : Int)⟩ = b.take (16 + kl + vl)
    then some ⟨(kd : Int), (b.drop 16).take kl, (b.drop (16 + kl)).take vl, (ex : Int)⟩ else none := if_neg (by omega)
  rw [e]
  clear e
  have hk1 : ((b.drop 16).take kl).length = kl := by simp; omega
  have hv1 : ((b.drop (16 + kl)).take vl).length = vl := by simp; omega
  have ck := fun X => (ACalls.froz 1 (clone_sl X ((b.drop 16).take kl) (by omega)) (List.length_map _).symm rfl rfl hok_nil (idsL_map fun _ => u8A_ids) : ACalls (E0 X) 67 [.sl 1 (((b.drop 16).take kl).map u8A)] [] (fun r H' => r = .sl 1 (((b.drop 16).take kl).map u8A) ∧ H' = []))
  have cv := fun X => (ACalls.froz 1 (clone_sl X ((b.drop (16 + kl)).take vl) (by omega)) (List.length_map _).symm rfl rfl hok_nil (idsL_map fun _ => u8A_ids) : ACalls (E0 X) 67 [.sl 1 (((b.drop (16 + kl)).take vl).map u8A)] [] (fun r H' => r = .sl 1 (((b.drop (16 + kl)).take vl).map u8A) ∧ H' = []))
  repeat' (first | ((refine Qa rfl ?_); (first | refine Q0 ?_ | refine Q1 ?_ | refine Q2 rfl ?_); (refine QX rfl rfl ?_)) | refine Qh ?_ | refine Ql ?_ | refine Qm ?_ | refine Qo rfl ?_ | refine Qq rfl ?_)
  refine awp_region_any [12, 14] [0, 1, 2, 3, 4, 5, 6, 7, 8, 9, 10, 11, 13] (by exact rfl) ?_
  refine any_lin (fuel := 0) [0, 1, 2, 3, 4, 5, 6, 7, 8, 9, 10, 11, 12, 13, 14] (by exact rfl) (by kernel_rfl) (by kernel_rfl) ?_
  repeat' ((apply Qe rfl rfl rfl rfl; intro H9); (first | refine Q0 ?_ | refine Q2 rfl ?_); (exact QY rfl ⟨rfl, rfl⟩))
  rw [w1, w2]
  apply ds_soN rfl rfl rfl rfl
  · intro H9
    refine st_sls (l := 16) (h := 16 + kl) (ys := (b.drop 16).take kl) (bnd_some rfl rfl) (bnd_some rfl rfl) (by omega) (by omega) (by rw [List.drop_take]; congr 1; omega) rfl rfl rfl rfl rfl ?_
    exact nx0 ⟨rfl, rfl⟩
  have hlen : lenR ⟨(kd : Int), (b.drop 16).take kl, (b.drop (16 + kl)).take vl, (ex : Int)⟩ = 16 + kl + vl := by simp only [lenR, hk1, hv1]
  generalize (b.drop 16).take kl = key at *
  skip
  apply ds_soN rfl rfl rfl rfl
  · intro H9
    refine st_call (fun _ => rfl) rfl ?_
    refine ACalls.mono (acalls_pure (E := E0 X) (fun X => ck X) (by simp [IdsLtL, IdsLt]) _) ?_
    rintro r H' ⟨rfl, rfl⟩
    first | exact nxs rfl ⟨rfl, rfl⟩ | exact nx0 ⟨rfl, rfl⟩
  repeat' ((apply Qe rfl rfl rfl rfl; intro H9); (first | refine Q0 ?_ | refine Q2 rfl ?_); (exact QY rfl ⟨rfl, rfl⟩))
  rw [w1]
  apply ds_soN rfl rfl rfl rfl
  · intro H9
    refine st_sls (l := 16 + kl) (h := 16 + kl + vl) (ys := (b.drop (16 + kl)).take vl) (bnd_some rfl rfl) (bnd_some rfl rfl) (by omega) (by omega) (by rw [List.drop_take]; congr 1; omega) rfl rfl rfl rfl rfl ?_
    exact nx0 ⟨rfl, rfl⟩
  generalize (b.drop (16 + kl)).take vl = val at *
  skip
  apply ds_soN rfl rfl rfl rfl
  · intro H9
    refine st_call (fun _ => rfl) rfl ?_
    refine ACalls.mono (acalls_pure (E := E0 X) (fun X => cv X) (by simp [IdsLtL, IdsLt]) _) ?_
    rintro r H' ⟨rfl, rfl⟩
    first | exact nxs rfl ⟨rfl, rfl⟩ | exact nx0 ⟨rfl, rfl⟩
  repeat' (first | ((apply Qe rfl rfl rfl rfl; intro H9); (refine Q4 rfl rfl rfl rfl rfl ?_); (exact QY rfl ⟨rfl, rfl⟩)) | (refine Qf rfl rfl rfl ?_; refine QS rfl rfl rfl rfl rfl rfl rfl ?_; (refine QX rfl rfl ?_)) | refine Qk ?_ | refine Qw (by kernel_rfl) ?_)
  by_cases hc : chkR ver ⟨(kd : Int), key, val, (ex : Int)⟩ = 0
  · have hen := fun X => renc_x X ver seq off ⟨(kd : Int), key, val, (ex : Int)⟩ hc hs ho
    generalize encR ver seq off ⟨(kd : Int), key, val, (ex : Int)⟩ = eb at *
    repeat' (first | ((refine Qa rfl ?_); (first | refine Q0 ?_ | refine Q3 rfl rfl rfl ?_); (refine QX rfl rfl ?_)) | refine Qa rfl ?_ | refine Ql ?_ | refine Qo rfl ?_)
    refine st_call (fun _ => rfl) rfl ?_
    refine ACalls.mono (acalls_pure (E := E0 X) (fun X => hen X) (by simp [IdsLtL, IdsLt]) _) ?_
    rintro r H' ⟨rfl, rfl⟩
    first | refine nx rfl rfl ?_ | refine nx0 ?_
    repeat' (first | ((refine Qa rfl ?_); (first | refine Q0 ?_ | refine Q1 ?_ | refine Q2 rfl ?_ | refine QC rfl rfl ?_); (refine QX rfl rfl ?_)) | refine Qa rfl ?_ | refine Qh ?_ | refine Ql ?_ | refine Qo rfl ?_)
    refine st_sls (l := 0) (h := 16 + kl + vl) (ys := b.take (16 + kl + vl)) (bnd_none) (bnd_some rfl rfl) (by omega) (by omega) (rfl) rfl rfl rfl rfl rfl ?_
    first | refine nx rfl rfl ?_ | refine nx0 ?_
    generalize b.take (16 + kl + vl) = bt at *
    repeat' (refine Qa rfl ?_)
    refine st_call (fun _ => rfl) rfl ?_
    refine ACalls.mono (acalls_pure (E := E0 X) (fun X => beq_c X eb bt) (by simp [IdsLtL, IdsLt]) _) ?_
    rintro r H' ⟨rfl, rfl⟩
    first | refine nx rfl rfl ?_ | refine nx0 ?_
    repeat' (first | ((refine Qa rfl ?_); (first | refine Q5 rfl ?_ | refine QD rfl ?_); (refine QX rfl rfl ?_)) | refine Qh ?_ | refine Qs ?_)
    refine awp_cond rfl (fun h9 => ?_) (fun h9 => ?_)
    · have h8 : ¬ eb = bt := by simpa using h9
      rw [if_neg (fun h => h8 h.2)]
      repeat' (first | ((refine Qa rfl ?_); (first | refine Q1 ?_ | refine QP rfl rfl rfl rfl rfl rfl ?_); (refine QX rfl rfl ?_)) | (refine Qb rfl ?_; try (refine QS rfl rfl rfl rfl rfl rfl rfl ?_; (refine QX rfl rfl ?_))) | refine Qh ?_ | refine Ql ?_ | refine Qo rfl ?_ | refine Qs ?_)
      refine awp_ret ?_
      exact ⟨_, rfl, rfl⟩
    · have h8 : eb = bt := by simpa using h9
      rw [if_pos ⟨hc, h8⟩]
      repeat' (first | ((refine Qa rfl ?_); (first | refine Q0 ?_ | refine Q1 ?_ | refine Q3 rfl rfl rfl ?_); (refine QX rfl rfl ?_)) | (refine Qb rfl ?_; try (refine QS rfl rfl rfl rfl rfl rfl rfl ?_; (refine QX rfl rfl ?_))) | refine Qh ?_ | refine Ql ?_ | refine Qm ?_ | refine Qo rfl ?_ | refine Qs ?_)
      refine awp_ret ?_
      refine ⟨_, rfl, ?_⟩
      show _ = AV.tup [recA _, .int .i64 (lenR _ : Int), .bool true]
      rw [hlen]
      rfl
  · have hen := fun X => rencbad_c X ver seq off ⟨(kd : Int), key, val, (ex : Int)⟩ hc
    rw [if_neg (fun h => hc h.1)]
    generalize chkR ver ⟨(kd : Int), key, val, (ex : Int)⟩ = e at *
    repeat' (first | ((refine Qa rfl ?_); (first | refine Q0 ?_ | refine Q3 rfl rfl rfl ?_); (refine QX rfl rfl ?_)) | refine Qa rfl ?_ | refine Ql ?_ | refine Qo rfl ?_)
    refine st_call (fun _ => rfl) rfl ?_
    refine ACalls.mono (acalls_pure (E := E0 X) (fun X => hen X) (by simp [IdsLtL, IdsLt]) _) ?_
    rintro r H' ⟨rfl, rfl⟩
    first | refine nx rfl rfl ?_ | refine nx0 ?_
    repeat' (first | ((refine Qa rfl ?_); (first | refine Q0 ?_ | refine Q1 ?_ | refine Q2 rfl ?_ | refine QC rfl rfl ?_); (refine QX rfl rfl ?_)) | refine Qh ?_ | refine Ql ?_ | refine Qo rfl ?_)
    rw [decide_eq_true hc]
    repeat' (first | ((refine Qa rfl ?_); (first | refine Q1 ?_ | refine Q5 rfl ?_ | refine QP rfl rfl rfl rfl rfl rfl ?_); (refine QX rfl rfl ?_)) | (refine Qb rfl ?_; try (refine QS rfl rfl rfl rfl rfl rfl rfl ?_; (refine QX rfl rfl ?_))) | refine Qh ?_ | refine Qi rfl ?_ | refine Ql ?_ | refine Qo rfl ?_ | refine Qp rfl ?_ | refine Qs ?_)
    refine awp_ret ?_
    exact ⟨_, rfl, rfl⟩
end Go.Abs
namespace Go.Abs
theorem num3 {n : Nat} (h : n ≤ 16777215) : numN [byteAt n 16, byteAt n 8, byteAt n 0] = n := by
  simp only [numN, List.foldl_cons, List.foldl_nil, byteAt_nat]
  have e2 : (2 : Nat) ^ 16 = 65536 := by decide
  have e3 : (2 : Nat) ^ 8 = 256 := by decide
  rw [e2, e3]
  omega
def enc1l (k kl vl e s : Nat) (z : List UInt8) : List UInt8 := UInt8.ofNat (161 % 256) :: UInt8.ofNat (k % 256) :: UInt8.ofNat (kl % 256) :: UInt8.ofNat (0 % 256) ::
  byteAt vl 24 :: byteAt vl 16 :: byteAt vl 8 :: byteAt vl 0 :: byteAt e 24 :: byteAt e 16 :: byteAt e 8 :: byteAt e 0 :: byteAt s 24 :: byteAt s 16 :: byteAt s 8 :: byteAt s 0 :: z
def enc2l (k kl vl e s : Nat) (z : List UInt8) : List UInt8 := UInt8.ofNat (162 % 256) :: UInt8.ofNat (kl % 256) :: UInt8.ofNat (16 * k % 256) ::
  byteAt vl 16 :: byteAt vl 8 :: byteAt vl 0 :: 0 :: byteAt e 32 :: byteAt e 24 :: byteAt e 16 :: byteAt e 8 :: byteAt e 0 :: byteAt s 24 :: byteAt s 16 :: byteAt s 8 :: byteAt s 0 :: z
theorem enc1_eq (k kl vl e s : Nat) (z : List UInt8) : putN (headN 1 k kl vl e) s 4 ++ z = enc1l k kl vl e s z := by
  rw [← head1]; rfl
theorem enc2_eq {ver : Int} (h : ¬ ver = 1) (k kl vl e s : Nat) (z : List UInt8) : putN (headN ver k kl vl e) s 4 ++ z = enc2l k kl vl e s z := by
  rw [← head2 h]; rfl
theorem decG_back {ver : Int} {seq off : Nat} {r : Rec} (h : chkR ver r = 0) (more : List UInt8) :
    decG ver seq off (encR ver seq off r ++ more) r.kind.toNat r.key.length r.val.length r.exp.toNat = some r := by
  have hok := rec_ok h
  have hl := encR_len ver seq off r
  have hhl : (putN (headR ver r) (sumR ver seq off r) 4).length = 16 := by rw [putN_len, headR, headN_len]
  have e0 : encR ver seq off r ++ more = putN (headR ver r) (sumR ver seq off r) 4 ++ (r.key ++ (r.val ++ more)) := by simp [encR]
  have e1 : ((encR ver seq off r ++ more).drop 16).take r.key.length = r.key := by
    rw [e0, List.drop_left' hhl, List.take_left' rfl]
  have e2 : ((encR ver seq off r ++ more).drop (16 + r.key.length)).take r.val.length = r.val := by
    rw [e0, ← List.drop_drop, List.drop_left' hhl, List.drop_left' rfl, List.take_left' rfl]
  have e3 : (encR ver seq off r ++ more).take (16 + r.key.length + r.val.length) = encR ver seq off r := List.take_left' (by rw [hl]; rfl)
  have hr : (⟨(r.kind.toNat : Int), r.key, r.val, (r.exp.toNat : Int)⟩ : Rec) = r := by
    obtain ⟨kind, key, val, exp⟩ := r
    have := hok.kind
    have := hok.exp
    simp only at *
    simp only [Rec.mk.injEq, true_and]
    omega
  unfold decG
  rw [if_neg (by
    have := hok.val
    have h2 : (encR ver seq off r ++ more).length = lenR r + more.length := by rw [List.length_append, hl]
    rw [h2]
    simp only [lenR]
    omega), e1, e2, e3, hr, if_pos ⟨h, rfl⟩]
theorem decR_encR {ver : Int} {seq off : Nat} {r : Rec} (h : chkR ver r = 0) (more : List UInt8) : decR ver seq off (encR ver seq off r ++ more) = some r := by
  have hok := rec_ok h
  have hl := encR_len ver seq off r
  have hla : latI ver ≤ 1099511627775 := latI_le ver
  have hk := hok.kind
  have hkl := hok.keyle
  have hvl := hok.val
  have he := hok.exp
  have hg := decG_back (seq := seq) (off := off) h more
  unfold decR
  rw [if_neg (by rw [List.length_append, hl]; simp only [lenR]; omega)]
  split
  · rename_i h1
    have hlat : latI ver = 4294967295 := by unfold latI; rw [if_pos h1]
    have e : encR ver seq off r ++ more = enc1l r.kind.toNat r.key.length r.val.length r.exp.toNat (sumR ver seq off r) (r.key ++ r.val ++ more) := by
      rw [← enc1_eq, ← h1]; simp [encR, headR]
    have n1 : numN (((encR ver seq off r ++ more).drop 1).take 1) = r.kind.toNat := by rw [e]; exact num1 (by omega)
    have n2 : numN (((encR ver seq off r ++ more).drop 2).take 1) = r.key.length := by rw [e]; exact num1 (by omega)
    have n3 : numN (((encR ver seq off r ++ more).drop 4).take 4) = r.val.length := by rw [e]; exact num4 (by omega)
    have n4 : numN (((encR ver seq off r ++ more).drop 8).take 4) = r.exp.toNat := by rw [e]; exact num4 (by omega)
    rw [n1, n2, n3, n4]
    exact hg
  · rename_i h1
    have e : encR ver seq off r ++ more = enc2l r.kind.toNat r.key.length r.val.length r.exp.toNat (sumR ver seq off r) (r.key ++ r.val ++ more) := by
      rw [← enc2_eq h1]; simp [encR, headR]
    have n1 : numN (((encR ver seq off r ++ more).drop 2).take 1) / 16 = r.kind.toNat := by
      have : numN (((encR ver seq off r ++ more).drop 2).take 1) = 16 * r.kind.toNat := by rw [e]; exact num1 (by omega)
      omega
    have n2 : numN (((encR ver seq off r ++ more).drop 1).take 1) = r.key.length := by rw [e]; exact num1 (by omega)
    have n3 : numN (((encR ver seq off r ++ more).drop 3).take 3) = r.val.length := by rw [e]; exact num3 (by omega)
    have n4 : numN (((encR ver seq off r ++ more).drop 7).take 5) = r.exp.toNat := by rw [e]; exact num5h (by omega)
    rw [n1, n2, n3, n4]
    exact hg
/-- The records of a stream from off on, with fuel. -/
def recsF (ver : Int) (seq : Nat) (b : List UInt8) : Nat → Nat → List (Nat × Rec)
  | 0, _ => []
  | n + 1, off => if b.length ≤ off then [] else if b[off]? = some 0 then recsF ver seq b n ((off / 59 + 1) * 59) else match decR ver seq off (b.drop off) with
    | none => []
    | some r => (off, r) :: recsF ver seq b n (off + lenR r)
def recs (ver : Int) (seq : Nat) (b : List UInt8) : List (Nat × Rec) := recsF ver seq b b.length 0
def foA (p : Nat × Rec) : AV := .agg (.int .i64 (p.1 : Int) :: .int .i64 (lenR p.2 : Int) :: recL p.2)
@[simp] theorem foA_ids {n : Nat} {p : Nat × Rec} : IdsLt n (foA p) := ⟨trivial, trivial, recA_ids⟩
end Go.Abs

