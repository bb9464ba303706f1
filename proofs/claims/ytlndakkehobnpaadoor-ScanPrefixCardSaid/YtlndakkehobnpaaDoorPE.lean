/- The packer of the program: New, Room, Put. Joined texts, each with what its own name promises; no condition beyond those stated. -/
import Derived.Test.YtlndakkehobnpaaDoorPD
import Derived.Test.YtlndakkehobnpaaDoorPA
import Derived.Test.YtlndakkehobnpaaDoorMJ
import Derived.Test.YtlndakkehobnpaaDoorME
namespace Go.Abs
def pkC (l : La) (F seq n t id : Nat) : AO := .cells [.int .i64 l.id, .int .i64 l.ver, .int .i64 l.rs, .int .i64 l.regs, .int .i64 (F : Int), .int .i64 (seq : Int), .own id 0 n, .int .i64 (t : Int)] 181
def arB (s : List UInt8) : AO := .arr (s.map u8A) 5
def pkH (l : La) (F seq : Nat) (s : List UInt8) (t : Nat) : Hp := [some (pkC l F seq s.length t 1), some (arB s)]
def pkM (l : La) (F seq : Nat) (s : List UInt8) (t : Nat) : Hp := [some (pkC l F seq s.length t 2), none, some (arB s)]
theorem hok_pk (l : La) (F seq : Nat) (s : List UInt8) (t : Nat) : HOk 2 (pkH l F seq s t) := fun j o ho => by
  match j, ho with
  | 0, ho => cases ho; exact ⟨trivial, trivial, trivial, trivial, trivial, trivial, by simp [IdsLt], trivial, trivial⟩
  | 1, ho => cases ho; exact idsL_map fun _ => u8A_ids
theorem hok_pkm (l : La) (F seq : Nat) (s : List UInt8) (t : Nat) : HOk 3 (pkM l F seq s t) := fun j o ho => by
  match j, ho with
  | 0, ho => cases ho; exact ⟨trivial, trivial, trivial, trivial, trivial, trivial, by simp [IdsLt], trivial, trivial⟩
  | 1, ho => cases ho
  | 2, ho => cases ho; exact idsL_map fun _ => u8A_ids
theorem renO_arB {f : Nat → Option Nat} (s : List UInt8) : RenO f (arB s) (arB s) := renO_old 0 (fun i h => absurd h (Nat.not_lt_zero i)) (idsL_map fun _ => u8A_ids)
attribute [local irreducible] AStep aops AWp Nx awM
set_option maxHeartbeats 0 in
set_option maxRecDepth 100000 in
theorem pnew_c (X : Nat → Prop) (l : La) (slot : Int) (seq F : Nat) (h : slotOk l slot) (hs1 : 1 ≤ seq) (hs2 : seq ≤ 281474976710655) (hF : 74 + slot * l.rs = (F : Int)) :
    ACalls (E0 X) 90 [laA l, .int .i64 slot, .int .i64 (seq : Int)] [] (fun r H' => r = .tup [.ptr 0 0, .int .i64 0] ∧ H' = pkH l F seq [] 0) := by
  have hfo := fun X => form_c X l
  have hfc := fun X => first_c X l slot
  rw [show firstI l slot = 74 + slot * l.rs from if_pos h, hF] at hfc
  rw [h.1] at hfo
  have hn1 : ¬ (F : Int) < 0 := by omega
  have hn2 : ¬ (seq : Int) < 1 := by omega
  have hn3 : ¬ (281474976710655 : Int) < (seq : Int) := by omega
  show ACalls (E0 X) 90 [.agg [.int .i64 l.id, .int .i64 l.ver, .int .i64 l.rs, .int .i64 l.regs], .int .i64 slot, .int .i64 (seq : Int)] [] _
  refine acalls_of Proofs.Tryd.func90 rfl Proofs.Tryd.ntmps90 (by kernel_rfl) rfl ?_
  intro hH hargs
  clear hH hargs
  repeat' (first | ((refine Qa rfl ?_); (first | refine Q1 ?_ | refine Q3 rfl rfl rfl ?_ | refine QK rfl ?_); (refine QX rfl rfl ?_)) | refine Qa rfl ?_ | refine Qh ?_ | refine Ql ?_ | refine Qo rfl ?_)
  refine st_call (fun _ => rfl) rfl ?_
  refine ACalls.mono (acalls_pure (E := E0 X) (fun X => hfo X) (by simp [IdsLtL, IdsLt]) _) ?_
  rintro r H' ⟨rfl, rfl⟩
  first | refine nx rfl rfl ?_ | refine nx0 ?_
  repeat' (first | ((refine Qa rfl ?_); (first | refine Q0 ?_ | refine Q3 rfl rfl rfl ?_ | refine QD rfl ?_); (refine QX rfl rfl ?_)) | refine Qa rfl ?_ | refine Qh ?_ | refine Ql ?_ | refine Qm ?_ | refine Qo rfl ?_ | refine Qq rfl ?_)
  refine st_call (fun _ => rfl) rfl ?_
  refine ACalls.mono (acalls_pure (E := E0 X) (fun X => hfc X) (by simp [IdsLtL, IdsLt]) _) ?_
  rintro r H' ⟨rfl, rfl⟩
  first | refine nx rfl rfl ?_ | refine nx0 ?_
  repeat' (first | ((refine Qa rfl ?_); (first | refine Q0 ?_ | refine Q1 ?_ | refine Q2 rfl ?_ | refine Q5 rfl ?_); (refine QX rfl rfl ?_)) | refine Qh ?_ | refine Ql ?_ | refine Qo rfl ?_)
  rw [decide_eq_false hn1]
  skip
  rw [decide_eq_false hn2]
  repeat' (first | ((refine Qa rfl ?_); (first | refine Q0 ?_ | refine Q2 rfl ?_ | refine Q5 rfl ?_); (refine QX rfl rfl ?_)) | refine Qh ?_ | refine Qs ?_)
  rw [decide_eq_false hn3]
  repeat' (first | ((refine Qa rfl ?_); (first | refine Q0 ?_ | refine Q1 ?_ | refine Q3 rfl rfl rfl ?_ | refine QK rfl ?_ | refine QP rfl rfl rfl rfl rfl rfl ?_); (refine QX rfl rfl ?_)) | refine Qh ?_ | refine Ql ?_ | refine Qm ?_ | refine Qo rfl ?_ | refine Qq rfl ?_ | refine Qs ?_)
  refine awp_pre (Imp.trans (imp_nilC 1 6 5 rfl rfl) (imp_tid 0 [1, 2] (H' := pkH l F seq [] 0) (sl' := [(6, .ptr 0 0), (7, .int .i64 0)]) (os := [pkC l F seq 0 0 1, arB []]) (Nat.le_refl _) (Nat.zero_le _) (by simp) (by simp) hok_nil rfl rfl ?_ ?_)) ?_
  · repeat' (first
      | exact fa_nil
      | exact os_nil
      | exact RenL.nil
      | refine fa_cons ?_ ?_
      | refine os_cons rfl (renO_cells ?_) ?_
      | refine os_cons rfl (renO_old 0 (fun i h => absurd h (Nat.not_lt_zero i)) (by simp [IdsLtO, IdsLtL, IdsLt])) ?_
      | refine RenL.cons ?_ ?_
      | exact ren_own rfl
      | exact ren_ptr rfl
      | exact ren_mp rfl
      | exact ren_lt rfl (by first | trivial | (simp [IdsLt, IdsLtL]; done)))
  · repeat' (first
      | exact fa_nil
      | exact os_nil
      | exact RenL.nil
      | refine fa_cons ?_ ?_
      | refine os_cons rfl (renO_cells ?_) ?_
      | refine os_cons rfl (renO_old 0 (fun i h => absurd h (Nat.not_lt_zero i)) (by simp [IdsLtO, IdsLtL, IdsLt])) ?_
      | refine RenL.cons ?_ ?_
      | exact ren_own rfl
      | exact ren_ptr rfl
      | exact ren_mp rfl
      | exact ren_lt rfl (by first | trivial | (simp [IdsLt, IdsLtL]; done)))
  refine awp_ret ?_
  exact ⟨_, rfl, rfl, rfl⟩
set_option maxHeartbeats 0 in
set_option maxRecDepth 100000 in
theorem room_c (X : Nat → Prop) (l : La) (F seq : Nat) (s : List UInt8) (t : Nat) (hs : (s.length : Int) ≤ capI l) (hc : capI l ≤ 1000000) :
    ACalls (E0 X) 129 [.ptr 0 0] (pkH l F seq s t) (fun r H' => r = .int .i64 (capI l - s.length) ∧ H' = pkH l F seq s t) := by
  have hcap := fun X => capacity_c X l
  have hw : IntKind.i64.wrap (capI l - (s.length : Int)) = capI l - s.length := wrap_in (by omega) (by omega)
  generalize capI l = cap at *
  show ACalls (E0 X) _ _ [some (.cells [.int .i64 l.id, .int .i64 l.ver, .int .i64 l.rs, .int .i64 l.regs, .int .i64 (F : Int), .int .i64 (seq : Int), .own 1 0 s.length, .int .i64 (t : Int)] 181), some (.arr (s.map u8A) 5)] _
  refine acalls_of Proofs.Tryd.func129 rfl Proofs.Tryd.ntmps129 (by kernel_rfl) rfl ?_
  intro hH hargs
  clear hH hargs
  repeat' (first | ((refine Qa rfl ?_); (first | refine Q0 ?_ | refine Q1 ?_ | refine QH rfl rfl rfl ?_); (refine QX rfl rfl ?_)) | refine Qh ?_ | refine Ql ?_ | refine Qm ?_ | refine Qo rfl ?_ | refine Qq rfl ?_)
  refine awp_region_auto2 [] [] (by exact rfl) (by kernel_rfl) ?_
  repeat' ((apply Qd rfl rfl rfl rfl); (first | refine Q0 ?_ | refine Q3 rfl rfl rfl ?_ | refine Q4 rfl rfl rfl rfl rfl ?_ | refine Q6 rfl ?_); (exact QX rfl rfl ⟨rfl, rfl⟩))
  apply ds rfl rfl rfl rfl
  · refine st_call (fun _ => rfl) rfl ?_
    refine ACalls.mono (acalls_pure (E := E0 X) hcap (by simp [IdsLtL, IdsLt]) _) ?_
    rintro r H' ⟨rfl, rfl⟩
    first
    | exact nx rfl rfl ⟨rfl, rfl⟩
    | exact nx0 ⟨rfl, rfl⟩
  repeat' (first | ((apply Qd rfl rfl rfl rfl); (first | refine Q0 ?_ | refine Q1 ?_ | refine Q2 rfl ?_ | refine Q3 rfl rfl rfl ?_ | refine Q4 rfl rfl rfl rfl rfl ?_ | refine Q6 rfl ?_ | refine Q7 rfl rfl rfl ?_); (exact QX rfl rfl ⟨rfl, rfl⟩)) | refine Qk ?_ | refine Qs ?_)
  rw [hw]
  refine awp_pre (imp_cutk 2 (Nat.le_refl _) (hok_pk l F seq s t) rfl (by simp) (sl' := [(2, .int .i64 (cap - s.length))]) ?_) ?_
  · repeat' (first | exact fa_nil | refine fa_cons ⟨?_, ?_⟩ ?_)
    all_goals (try first | exact rfl | exact trivial | (simp [IdsLt, IdsLtL]; done) | (simp [get_cons]; done) | (simp [get_cons, *]; done) | (refine congrArg (AV.int .i64) (wrap_eq ?_ ?_ ?_) <;> (first | omega | (simp; omega))))
  refine awp_ret ?_
  exact ⟨_, rfl, rfl, rfl⟩
end Go.Abs
namespace Go.Abs
theorem capI_le (l : La) : capI l ≤ 120773 := by
  unfold capI
  split
  · rename_i h
    have := form_rs h
    omega
  · omega
def padS (s : List UInt8) : List UInt8 := s ++ List.replicate ((59 - s.length % 59) % 59) 0
theorem padS_len (s : List UInt8) : (padS s).length % 59 = 0 := by
  simp only [padS, List.length_append, List.length_replicate]
  omega
attribute [local irreducible] AStep aops AWp Nx awM
set_option maxHeartbeats 0 in
set_option maxRecDepth 100000 in
theorem put_bad (X : Nat → Prop) (l : La) (F seq : Nat) (s : List UInt8) (t : Nat) (r : Rec) (hc : chkR l.ver r ≠ 0) :
    ACalls (E0 X) 92 [.ptr 0 0, recA r] (pkH l F seq s t) (fun q H' => q = .tup [.int .i64 0, .int .i64 0, .int .i64 (chkR l.ver r)] ∧ H' = pkH l F seq s t) := by
  have hen := fun X => rencbad_c X l.ver seq s.length r hc
  show ACalls (E0 X) _ [.ptr 0 0, .agg [.int .i64 r.kind, .sl 1 (r.key.map u8A), .sl 1 (r.val.map u8A), .int .i64 r.exp]] [some (.cells [.int .i64 l.id, .int .i64 l.ver, .int .i64 l.rs, .int .i64 l.regs, .int .i64 (F : Int), .int .i64 (seq : Int), .own 1 0 s.length, .int .i64 (t : Int)] 181), some (.arr (s.map u8A) 5)] _
  refine acalls_of Proofs.Tryd.func92 rfl Proofs.Tryd.ntmps92 (by kernel_rfl) rfl ?_
  intro hH hargs
  clear hH hargs
  repeat' (first | ((refine Qa rfl ?_); (first | refine Q0 ?_ | refine Q1 ?_ | refine Q3 rfl rfl rfl ?_ | refine Q4 rfl rfl rfl rfl rfl ?_ | refine Q6 rfl ?_ | refine Q7 rfl rfl rfl ?_ | refine QH rfl rfl rfl ?_ | refine QK rfl ?_); (refine QX rfl rfl ?_)) | refine Qh ?_ | refine Ql ?_ | refine Qm ?_ | refine Qo rfl ?_ | refine Qq rfl ?_)
  refine awp_region_auto2 [] [] (by exact rfl) (by kernel_rfl) ?_
  repeat' ((apply Qd rfl rfl rfl rfl); (first | refine Q0 ?_ | refine Q3 rfl rfl rfl ?_ | refine Q4 rfl rfl rfl rfl rfl ?_ | refine Q6 rfl ?_); (exact QX rfl rfl ⟨rfl, rfl⟩))
  apply ds rfl rfl rfl rfl
  · refine st_call (fun _ => rfl) rfl ?_
    refine ACalls.mono (acalls_pure (E := E0 X) hen (by simp [IdsLtL, IdsLt]) _) ?_
    rintro r H' ⟨rfl, rfl⟩
    first
    | exact nx rfl rfl ⟨rfl, rfl⟩
    | exact nx0 ⟨rfl, rfl⟩
  generalize chkR l.ver r = e at *
  repeat' (first | ((first | refine Qa rfl ?_ | apply Qd rfl rfl rfl rfl); (first | refine Q0 ?_ | refine Q1 ?_ | refine Q2 rfl ?_ | refine QC rfl rfl ?_); (first | exact QX rfl rfl ⟨rfl, rfl⟩ | refine QX rfl rfl ?_)) | refine Qh ?_ | refine Qk ?_ | refine Ql ?_ | refine Qn ?_ | refine Qo rfl ?_ | refine Qs ?_)
  rw [decide_eq_true hc]
  repeat' (first | ((refine Qa rfl ?_); (first | refine Q0 ?_ | refine Q1 ?_); (refine QX rfl rfl ?_)) | refine Qh ?_ | refine Ql ?_ | refine Qo rfl ?_ | refine Qp rfl ?_ | refine Qs ?_)
  refine awp_pre (imp_cutk 2 (Nat.le_refl _) (hok_pk l F seq s t) rfl (by simp) (sl' := [(4, .int .i64 0), (5, .int .i64 0), (6, .int .i64 e)]) ?_) ?_
  · repeat' (first | exact fa_nil | refine fa_cons ⟨?_, ?_⟩ ?_)
    all_goals (try first | exact rfl | exact trivial | (simp [IdsLt, IdsLtL]; done) | (simp [get_cons]; done) | (simp [get_cons, *]; done) | (refine congrArg (AV.int .i64) (wrap_eq ?_ ?_ ?_) <;> (first | omega | (simp; omega))))
  refine awp_ret ?_
  exact ⟨_, rfl, rfl, rfl⟩
set_option maxHeartbeats 0 in
set_option maxRecDepth 100000 in
theorem put_full (X : Nat → Prop) (l : La) (F seq : Nat) (s : List UInt8) (t : Nat) (r : Rec) (hc : chkR l.ver r = 0) (hq : seq < 9223372036854775808) (hs : (s.length : Int) ≤ capI l) (hl : capI l - s.length < (lenR r : Int)) :
    ACalls (E0 X) 92 [.ptr 0 0, recA r] (pkH l F seq s t) (fun q H' => q = .tup [.int .i64 0, .int .i64 0, .int .i64 8] ∧ H' = pkH l F seq s t) := by
  have hcl := capI_le l
  have hen := fun X => renc_x X l.ver seq s.length r hc hq (by omega)
  have hel := encR_len l.ver seq s.length r
  have hro := room_c X l F seq s t hs (by omega)
  generalize encR l.ver seq s.length r = eb at *
  generalize lenR r = L at *
  have hem : (eb.map u8A).length = eb.length := List.length_map _
  generalize capI l = cap at *
  have hl2 : cap - (s.length : Int) < ((eb.map u8A).length : Int) := by omega
  show ACalls (E0 X) _ [.ptr 0 0, .agg [.int .i64 r.kind, .sl 1 (r.key.map u8A), .sl 1 (r.val.map u8A), .int .i64 r.exp]] [some (.cells [.int .i64 l.id, .int .i64 l.ver, .int .i64 l.rs, .int .i64 l.regs, .int .i64 (F : Int), .int .i64 (seq : Int), .own 1 0 s.length, .int .i64 (t : Int)] 181), some (.arr (s.map u8A) 5)] _
  refine acalls_of Proofs.Tryd.func92 rfl Proofs.Tryd.ntmps92 (by kernel_rfl) rfl ?_
  intro hH hargs
  clear hH hargs
  repeat' (first | ((refine Qa rfl ?_); (first | refine Q0 ?_ | refine Q1 ?_ | refine Q3 rfl rfl rfl ?_ | refine Q4 rfl rfl rfl rfl rfl ?_ | refine Q6 rfl ?_ | refine Q7 rfl rfl rfl ?_ | refine QH rfl rfl rfl ?_ | refine QK rfl ?_); (refine QX rfl rfl ?_)) | refine Qh ?_ | refine Ql ?_ | refine Qm ?_ | refine Qo rfl ?_ | refine Qq rfl ?_)
  refine awp_pre (Imp.trans (imp_freezeP (id := 2) (cs := [.int .i64 r.kind, .sl 1 (r.key.map u8A), .sl 1 (r.val.map u8A), .int .i64 r.exp]) rfl) (imp_cutk 2 (Nat.le_refl _) (hok_pk l F seq s t) rfl (by simp) (sl' := [(0, .ptr 0 0), (3, .fp [.int .i64 r.kind, .sl 1 (r.key.map u8A), .sl 1 (r.val.map u8A), .int .i64 r.exp]), (4, .int .i64 (s.length : Int))]) ?_)) ?_
  · repeat' (first | exact fa_nil | refine fa_cons ⟨?_, ?_⟩ ?_)
    all_goals (try first | exact rfl | exact trivial | (simp [IdsLt, IdsLtL]; done) | (simp [get_cons]; done) | (simp [get_cons, *]; done) | (refine congrArg (AV.int .i64) (wrap_eq ?_ ?_ ?_) <;> (first | omega | (simp; omega))))
  show AWp _ _ _ _ _ ⟨_, [some (.cells [.int .i64 l.id, .int .i64 l.ver, .int .i64 l.rs, .int .i64 l.regs, .int .i64 (F : Int), .int .i64 (seq : Int), .own 1 0 s.length, .int .i64 (t : Int)] 181), some (.arr (s.map u8A) 5)]⟩
  refine awp_region_auto2 [] [] (by exact rfl) (by kernel_rfl) ?_
  repeat' ((apply Qd rfl rfl rfl rfl); (first | refine Q0 ?_ | refine Q3 rfl rfl rfl ?_ | refine Q4 rfl rfl rfl rfl rfl ?_ | refine Q6 rfl ?_); (exact QX rfl rfl ⟨rfl, rfl⟩))
  apply ds rfl rfl rfl rfl
  · refine st_call (fun _ => rfl) rfl ?_
    refine ACalls.mono (acalls_pure (E := E0 X) hen (by simp [IdsLtL, IdsLt]) _) ?_
    rintro r H' ⟨rfl, rfl⟩
    first
    | exact nx rfl rfl ⟨rfl, rfl⟩
    | exact nx0 ⟨rfl, rfl⟩
  repeat' (first | ((first | refine Qa rfl ?_ | apply Qd rfl rfl rfl rfl); (first | refine Q0 ?_ | refine Q1 ?_ | refine Q2 rfl ?_ | refine Q7 rfl rfl rfl ?_ | refine QC rfl rfl ?_); (first | exact QX rfl rfl ⟨rfl, rfl⟩ | refine QX rfl rfl ?_)) | refine Qa rfl ?_ | refine Qh ?_ | refine Qk ?_ | refine Ql ?_ | refine Qn ?_ | refine Qo rfl ?_ | refine Qq rfl ?_)
  refine st_call (fun _ => rfl) rfl ?_
  refine ACalls.mono (hro) ?_
  rintro r H' ⟨rfl, rfl⟩
  first | refine nx rfl rfl ?_ | refine nx0 ?_
  repeat' (first | ((refine Qa rfl ?_); (first | refine Q1 ?_ | refine Q2 rfl ?_); (refine QX rfl rfl ?_)) | refine Qh ?_ | refine Qs ?_)
  rw [decide_eq_true hl2]
  repeat' (first | ((refine Qa rfl ?_); (refine Q1 ?_); (refine QX rfl rfl ?_)) | refine Qh ?_ | refine Ql ?_ | refine Qo rfl ?_ | refine Qp rfl ?_ | refine Qs ?_)
  refine awp_ret ?_
  exact ⟨_, rfl, rfl, rfl⟩
set_option maxHeartbeats 0 in
set_option maxRecDepth 100000 in
theorem put_ok (X : Nat → Prop) (l : La) (F seq : Nat) (s : List UInt8) (t : Nat) (r : Rec) (hc : chkR l.ver r = 0) (hq : seq < 9223372036854775808) (hs : (s.length : Int) ≤ capI l) (hl : (s.length : Int) + (lenR r : Int) ≤ capI l) :
    ACalls (E0 X) 92 [.ptr 0 0, recA r] (pkH l F seq s t) (fun q H' => q = .tup [.int .i64 (s.length : Int), .int .i64 (lenR r : Int), .int .i64 0] ∧ H' = pkM l F seq (s ++ encR l.ver seq s.length r) t) := by
  have hcl := capI_le l
  have hen := fun X => renc_x X l.ver seq s.length r hc hq (by omega)
  have hel := encR_len l.ver seq s.length r
  have hro := room_c X l F seq s t hs (by omega)
  generalize encR l.ver seq s.length r = eb at *
  generalize lenR r = L at *
  subst hel
  have hem : (eb.map u8A).length = eb.length := List.length_map _
  generalize capI l = cap at *
  have hl2 : ¬ cap - (s.length : Int) < ((eb.map u8A).length : Int) := by omega
  show ACalls (E0 X) _ [.ptr 0 0, .agg [.int .i64 r.kind, .sl 1 (r.key.map u8A), .sl 1 (r.val.map u8A), .int .i64 r.exp]] [some (.cells [.int .i64 l.id, .int .i64 l.ver, .int .i64 l.rs, .int .i64 l.regs, .int .i64 (F : Int), .int .i64 (seq : Int), .own 1 0 s.length, .int .i64 (t : Int)] 181), some (.arr (s.map u8A) 5)] _
  refine acalls_of Proofs.Tryd.func92 rfl Proofs.Tryd.ntmps92 (by kernel_rfl) rfl ?_
  intro hH hargs
  clear hH hargs
  repeat' (first | ((refine Qa rfl ?_); (first | refine Q0 ?_ | refine Q1 ?_ | refine Q3 rfl rfl rfl ?_ | refine Q4 rfl rfl rfl rfl rfl ?_ | refine Q6 rfl ?_ | refine Q7 rfl rfl rfl ?_ | refine QH rfl rfl rfl ?_ | refine QK rfl ?_); (refine QX rfl rfl ?_)) | refine Qh ?_ | refine Ql ?_ | refine Qm ?_ | refine Qo rfl ?_ | refine Qq rfl ?_)
  refine awp_pre (Imp.trans (imp_freezeP (id := 2) (cs := [.int .i64 r.kind, .sl 1 (r.key.map u8A), .sl 1 (r.val.map u8A), .int .i64 r.exp]) rfl) (imp_cutk 2 (Nat.le_refl _) (hok_pk l F seq s t) rfl (by simp) (sl' := [(0, .ptr 0 0), (3, .fp [.int .i64 r.kind, .sl 1 (r.key.map u8A), .sl 1 (r.val.map u8A), .int .i64 r.exp]), (4, .int .i64 (s.length : Int))]) ?_)) ?_
  · repeat' (first | exact fa_nil | refine fa_cons ⟨?_, ?_⟩ ?_)
    all_goals (try first | exact rfl | exact trivial | (simp [IdsLt, IdsLtL]; done) | (simp [get_cons]; done) | (simp [get_cons, *]; done) | (refine congrArg (AV.int .i64) (wrap_eq ?_ ?_ ?_) <;> (first | omega | (simp; omega))))
  show AWp _ _ _ _ _ ⟨_, [some (.cells [.int .i64 l.id, .int .i64 l.ver, .int .i64 l.rs, .int .i64 l.regs, .int .i64 (F : Int), .int .i64 (seq : Int), .own 1 0 s.length, .int .i64 (t : Int)] 181), some (.arr (s.map u8A) 5)]⟩
  refine awp_region_auto2 [] [] (by exact rfl) (by kernel_rfl) ?_
  repeat' ((apply Qd rfl rfl rfl rfl); (first | refine Q0 ?_ | refine Q3 rfl rfl rfl ?_ | refine Q4 rfl rfl rfl rfl rfl ?_ | refine Q6 rfl ?_); (exact QX rfl rfl ⟨rfl, rfl⟩))
  apply ds rfl rfl rfl rfl
  · refine st_call (fun _ => rfl) rfl ?_
    refine ACalls.mono (acalls_pure (E := E0 X) hen (by simp [IdsLtL, IdsLt]) _) ?_
    rintro r H' ⟨rfl, rfl⟩
    first
    | exact nx rfl rfl ⟨rfl, rfl⟩
    | exact nx0 ⟨rfl, rfl⟩
  repeat' (first | ((first | refine Qa rfl ?_ | apply Qd rfl rfl rfl rfl); (first | refine Q0 ?_ | refine Q1 ?_ | refine Q2 rfl ?_ | refine Q7 rfl rfl rfl ?_ | refine QC rfl rfl ?_); (first | exact QX rfl rfl ⟨rfl, rfl⟩ | refine QX rfl rfl ?_)) | refine Qa rfl ?_ | refine Qh ?_ | refine Qk ?_ | refine Ql ?_ | refine Qn ?_ | refine Qo rfl ?_ | refine Qq rfl ?_)
  refine st_call (fun _ => rfl) rfl ?_
  refine ACalls.mono (hro) ?_
  rintro r H' ⟨rfl, rfl⟩
  first | refine nx rfl rfl ?_ | refine nx0 ?_
  repeat' (first | ((refine Qa rfl ?_); (first | refine Q1 ?_ | refine Q2 rfl ?_); (refine QX rfl rfl ?_)) | refine Qh ?_ | refine Qs ?_)
  rw [decide_eq_false hl2]
  repeat' (first | ((refine Qa rfl ?_); (first | refine Q0 ?_ | refine Q3 rfl rfl rfl ?_ | refine Q4 rfl rfl rfl rfl rfl ?_ | refine Q6 rfl ?_); (refine QX rfl rfl ?_)) | refine Qa rfl ?_ | refine Ql ?_ | refine Qm ?_ | refine Qo rfl ?_ | refine Qq rfl ?_)
  show AStep _ _ _ [some (.cells [.int .i64 l.id, .int .i64 l.ver, .int .i64 l.rs, .int .i64 l.regs, .int .i64 (F : Int), .int .i64 (seq : Int), .own 1 0 s.length, .int .i64 (t : Int)] 181), some (.arr (s.map u8A) 5)] _
  refine st_app (oid := some 1) (es := s.map u8A) (out := (s ++ eb).map u8A) (n := s.length + eb.length) (dst_own rfl (List.length_map _).symm) (rfl) (oneEs_u8 _) (by rw [List.map_append]) (by rw [List.length_map, List.length_map]) (by show _ ≤ 9223372036854775807; omega) (by show _ * 1 ≤ _; omega) rfl rfl rfl rfl rfl rfl rfl rfl ?_
  first | refine nx rfl rfl ?_ | refine nx0 ?_
  repeat' (first | ((refine Qa rfl ?_); (first | refine Q0 ?_ | refine Q1 ?_ | refine Q4 rfl rfl rfl rfl rfl ?_ | refine Q6 rfl ?_ | refine Q7 rfl rfl rfl ?_); (refine QX rfl rfl ?_)) | (refine Qb rfl ?_; try (refine QS rfl rfl rfl rfl rfl rfl rfl ?_; (refine QX rfl rfl ?_))) | refine Qh ?_ | refine Ql ?_ | refine Qo rfl ?_ | refine Qs ?_)
  rw [hem]
  have hsl : s.length + eb.length = (s ++ eb).length := (List.length_append).symm
  rw [hsl]
  refine awp_pre (imp_cutk 3 (by simp [pkH]) (hok_pkm l F seq (s ++ eb) t) rfl (by simp) (sl' := [(4, .int .i64 (s.length : Int)), (5, .int .i64 (eb.length : Int)), (6, .int .i64 0)]) ?_) ?_
  · repeat' (first | exact fa_nil | refine fa_cons ⟨?_, ?_⟩ ?_)
    all_goals (try first | exact rfl | exact trivial | (simp [IdsLt, IdsLtL]; done) | (simp [get_cons]; done) | (simp [get_cons, *]; done) | (refine congrArg (AV.int .i64) (wrap_eq ?_ ?_ ?_) <;> (first | omega | (simp; omega))))
  refine awp_ret ?_
  exact ⟨_, rfl, rfl, rfl⟩
end Go.Abs
namespace Go.Abs
def padI (s : List UInt8) (i : Nat) : List UInt8 := s ++ List.replicate i 0
theorem padI_len (s : List UInt8) (i : Nat) : (padI s i).length = s.length + i := by simp [padI]
theorem padI_succ (s : List UInt8) (i : Nat) : padI s (i + 1) = padI s i ++ [0] := by simp [padI, List.replicate_succ']
theorem padI_all (s : List UInt8) : padI s ((59 - s.length % 59) % 59) = padS s := rfl
attribute [local irreducible] AStep aops AWp Nx awM
set_option maxHeartbeats 0 in
set_option maxRecDepth 100000 in
theorem pad_c (X : Nat → Prop) (l : La) (F seq : Nat) (s : List UInt8) (t : Nat) (hs : s.length ≤ 1000000) :
    ACalls (E0 X) 94 [.ptr 0 0] (pkH l F seq s t) (fun q H' => q = .tup [] ∧ H' = pkM l F seq (padS s) t) := by
  rw [← padI_all]
  show ACalls (E0 X) _ [.ptr 0 0] [some (.cells [.int .i64 l.id, .int .i64 l.ver, .int .i64 l.rs, .int .i64 l.regs, .int .i64 (F : Int), .int .i64 (seq : Int), .own 1 0 s.length, .int .i64 (t : Int)] 181), some (.arr (s.map u8A) 5)] _
  refine acalls_of Proofs.Tryd.func94 rfl Proofs.Tryd.ntmps94 (by kernel_rfl) rfl ?_
  intro hH hargs
  clear hH hargs
  repeat' (first | ((refine Qa rfl ?_); (first | refine Q0 ?_ | refine QH rfl rfl rfl ?_); (refine QX rfl rfl ?_)) | refine Qh ?_ | refine Ql ?_ | refine Qm ?_ | refine Qn ?_ | refine Qo rfl ?_ | refine Qq rfl ?_)
  refine awp_loop2 (fun i : Nat => ⟨[(0, .ptr 0 0)], pkM l F seq (padI s i) t⟩) (fun i => i ≤ (59 - s.length % 59) % 59) (fun i => (59 - s.length % 59) % 59 - i) 0 (Nat.zero_le _) ?_ ?_
  · refine imp_tg [some (pkC l F seq (padI s 0).length t 2), none] [1] [arB (padI s 0)] (Nat.le_refl _) (Nat.le_refl _) (by simp) (by simp) rfl rfl ⟨⟨_, rfl, ?_⟩, trivial⟩ ?_ ?_
    · rw [show padI s 0 = s by simp [padI]]
      refine renO_cells ?_
      repeat' (first
        | exact fa_nil
        | exact os_nil
        | exact RenL.nil
        | refine fa_cons ?_ ?_
        | refine RenL.cons ?_ ?_
        | exact ren_own rfl
        | exact ren_ptr rfl
        | exact ren_mp rfl
        | exact ren_cl rfl (by first | trivial | (simp [IdsLt, IdsLtL]; done)))
    · repeat' (first
        | exact fa_nil
        | exact os_nil
        | exact RenL.nil
        | refine fa_cons ?_ ?_
        | refine RenL.cons ?_ ?_
        | exact ren_own rfl
        | exact ren_ptr rfl
        | exact ren_mp rfl
        | exact ren_cl rfl (by first | trivial | (simp [IdsLt, IdsLtL]; done)))
    · rw [show padI s 0 = s by simp [padI]]
      exact os_cons rfl (renO_arB s) os_nil
  rintro i hi
  have hil := padI_len s i
  have hsu := padI_succ s i
  have hi' : i ≤ (59 - s.length % 59) % 59 := hi
  have hil2 := padI_len s (i + 1)
  have hpl : (padI s i).length ≤ 1000058 := by omega
  show AWp _ _ _ _ _ ⟨[(0, .ptr 0 0)], [some (.cells [.int .i64 l.id, .int .i64 l.ver, .int .i64 l.rs, .int .i64 l.regs, .int .i64 (F : Int), .int .i64 (seq : Int), .own 2 0 (padI s i).length, .int .i64 (t : Int)] 181), none, some (.arr ((padI s i).map u8A) 5)]⟩
  repeat' (first | ((refine Qa rfl ?_); (first | refine Q0 ?_ | refine Q2 rfl ?_ | refine Q3 rfl rfl rfl ?_ | refine Q4 rfl rfl rfl rfl rfl ?_ | refine Q6 rfl ?_ | refine Q7 rfl rfl rfl ?_ | refine QB rfl rfl (by decide) ?_); (refine QX rfl rfl ?_)) | refine Qh ?_ | refine Ql ?_ | refine Qo rfl ?_ | refine Qs ?_)
  rw [show Int.tmod ((padI s i).length : Int) 59 = (((padI s i).length % 59 : Nat) : Int) from rfl]
  by_cases hz : (padI s i).length % 59 = 0
  · rw [hz]
    have hii : i = (59 - s.length % 59) % 59 := by omega
    rw [decide_eq_false (show ¬ ¬ ((0 : Nat) : Int) = 0 from fun h => h rfl)]
    repeat' (first | refine Qq rfl ?_ | refine Qr ?_ | refine Qt ?_ | refine Qv ?_)
    refine ⟨_, rfl, rfl, ?_⟩
    rw [← hii]; rfl
  · have hlt : i < (59 - s.length % 59) % 59 := by omega
    rw [decide_eq_true (show ¬ (((padI s i).length % 59 : Nat) : Int) = 0 by omega)]
    repeat' (first | ((refine Qa rfl ?_); (first | refine Q0 ?_ | refine Q3 rfl rfl rfl ?_ | refine Q4 rfl rfl rfl rfl rfl ?_ | refine Q6 rfl ?_ | refine QR rfl rfl rfl rfl rfl rfl rfl rfl rfl rfl rfl rfl ?_); (refine QX rfl rfl ?_)) | refine Qa rfl ?_ | refine Qm ?_ | refine Qn ?_ | refine Qo rfl ?_ | refine Qp rfl ?_)
    refine st_app (oid := some 2) (es := (padI s i).map u8A) (out := (padI s (i + 1)).map u8A) (n := (padI s i).length + 1) (dst_own rfl (List.length_map _).symm) (rfl) (oneEs_u8 [0]) (by rw [hsu, List.map_append]; rfl) (by rw [List.length_map]; rfl) (by show _ ≤ 9223372036854775807; omega) (by show _ * 1 ≤ _; omega) rfl rfl rfl rfl rfl rfl rfl rfl ?_
    first | refine nx rfl rfl ?_ | refine nx0 ?_
    repeat' (first | ((refine Qa rfl ?_); (first | refine Q4 rfl rfl rfl rfl rfl ?_ | refine Q6 rfl ?_); (refine QX rfl rfl ?_)) | (refine Qb rfl ?_; try (refine QS rfl rfl rfl rfl rfl rfl rfl ?_; (refine QX rfl rfl ?_))) | refine Qh ?_ | refine Qs ?_ | refine Qu ?_)
    refine ⟨i + 1, hlt, by omega, ?_⟩
    rw [show (padI s i).length + 1 = (padI s (i + 1)).length by omega]
    refine imp_tg [some (pkC l F seq (padI s (i + 1)).length t 2), none] [3] [arB (padI s (i + 1))] (Nat.le_refl _) (by simp) (by simp) (by simp) rfl rfl ⟨⟨_, rfl, ?_⟩, trivial⟩ ?_ ?_
    · refine renO_cells ?_
      repeat' (first
        | exact fa_nil
        | exact os_nil
        | exact RenL.nil
        | refine fa_cons ?_ ?_
        | refine RenL.cons ?_ ?_
        | exact ren_own rfl
        | exact ren_ptr rfl
        | exact ren_mp rfl
        | exact ren_cl rfl (by first | trivial | (simp [IdsLt, IdsLtL]; done)))
    · repeat' (first
        | exact fa_nil
        | exact os_nil
        | exact RenL.nil
        | refine fa_cons ?_ ?_
        | refine RenL.cons ?_ ?_
        | exact ren_own rfl
        | exact ren_ptr rfl
        | exact ren_mp rfl
        | exact ren_cl rfl (by first | trivial | (simp [IdsLt, IdsLtL]; done)))
    · exact os_cons rfl (renO_arB _) os_nil
/-- The frame with the number t of a stream. -/
def frN (F seq : Nat) (s : List UInt8) (t : Nat) : List UInt8 := encF 2 seq (F + 1 + t) ((s.drop (t * 59)).take 59)
def tkS (F t n : Nat) : List Int := (List.range n).map fun (i : Nat) => ((F + 1 + t + i : Nat) : Int)
def tkF (F seq : Nat) (s : List UInt8) (t n : Nat) : List (List UInt8) := (List.range n).map fun i => frN F seq s (t + i)
theorem tkS_succ (F t n : Nat) : tkS F t (n + 1) = tkS F t n ++ [((F + 1 + t + n : Nat) : Int)] := by simp [tkS, List.range_succ]
theorem tkF_succ (F seq : Nat) (s : List UInt8) (t n : Nat) : tkF F seq s t (n + 1) = tkF F seq s t n ++ [frN F seq s (t + n)] := by simp [tkF, List.range_succ]
theorem tkS_len (F t n : Nat) : (tkS F t n).length = n := by simp [tkS]
theorem tkF_len (F seq : Nat) (s : List UInt8) (t n : Nat) : (tkF F seq s t n).length = n := by simp [tkF]
theorem ids_sl8 (l : List (List UInt8)) {n : Nat} : IdsLtL n (l.map sl8A) := idsL_map fun _ => sl8_ids
theorem oneEs_sl8 (l : List (List UInt8)) : OneEs (l.map sl8A) := fun y hy => by
  obtain ⟨b, _, rfl⟩ := List.mem_map.1 hy; exact ⟨rfl, rfl⟩
theorem hok_tk (l : La) (F seq : Nat) (s : List UInt8) (t : Nat) (a : List Int) (b : List (List UInt8)) : HOk 4 (pkH l F seq s t ++ [some (.arr (a.map iA) 3), some (.arr (b.map sl8A) 38)]) := fun j o ho => by
  match j, ho with
  | 0, ho => cases ho; exact ⟨trivial, trivial, trivial, trivial, trivial, trivial, by simp [IdsLt], trivial, trivial⟩
  | 1, ho => cases ho; exact idsL_map fun _ => u8A_ids
  | 2, ho => cases ho; exact ids_i _
  | 3, ho => cases ho; exact ids_sl8 _
set_option maxHeartbeats 0 in
set_option maxRecDepth 100000 in
theorem ptake_c (X : Nat → Prop) (l : La) (F seq : Nat) (s : List UInt8) (t n : Nat) (hq : seq < 9223372036854775808) (hF : F + s.length ≤ 1000000) (hn : t + n = s.length / 59) :
    ACalls (E0 X) 130 [.ptr 0 0] (pkH l F seq s t) (fun q H' => q = .tup [.sl 1 ((tkS F t n).map iA), .sl 1 ((tkF F seq s t n).map sl8A)] ∧ H' = pkH l F seq s (t + n)) := by
  show ACalls (E0 X) _ [.ptr 0 0] [some (.cells [.int .i64 l.id, .int .i64 l.ver, .int .i64 l.rs, .int .i64 l.regs, .int .i64 (F : Int), .int .i64 (seq : Int), .own 1 0 s.length, .int .i64 (t : Int)] 181), some (.arr (s.map u8A) 5)] _
  refine acalls_of Proofs.Tryd.func130 rfl Proofs.Tryd.ntmps130 (by kernel_rfl) rfl ?_
  intro hH hargs
  clear hH hargs
  repeat' (first | ((refine Qa rfl ?_); (first | refine Q0 ?_ | refine Q1 ?_ | refine QH rfl rfl rfl ?_); (refine QX rfl rfl ?_)) | refine Qh ?_ | refine Ql ?_ | refine Qm ?_ | refine Qn ?_ | refine Qo rfl ?_ | refine Qq rfl ?_)
  refine awp_loop2 (fun i : Nat => ⟨[(0, .ptr 0 0), (2, .own 2 0 i), (3, .own 3 0 i)], pkH l F seq s (t + i) ++ [some (.arr ((tkS F t i).map iA) 3), some (.arr ((tkF F seq s t i).map sl8A) 38)]⟩) (fun i => i ≤ n) (fun i => n - i) 0 (Nat.zero_le _) ?_ ?_
  · refine Imp.trans (imp_nil 2 3 rfl) (Imp.trans (imp_nil 3 38 rfl) (imp_cutk 4 (by simp) (hok_tk l F seq s t [] []) rfl (by simp) ?_))
    repeat' (first | exact fa_nil | refine fa_cons ⟨?_, ?_⟩ ?_)
    all_goals (try first | exact rfl | exact trivial | (simp [IdsLt, IdsLtL]; done) | (simp [get_cons]; done) | (simp [get_cons, *]; done) | (refine congrArg (AV.int .i64) (wrap_eq ?_ ?_ ?_) <;> (first | omega | (simp; omega))))
  rintro i hi
  have hi' : i ≤ n := hi
  have hsl := tkS_len F t i
  have hfl := tkF_len F seq s t i
  have hss := tkS_succ F t i
  have hfs := tkF_succ F seq s t i
  have w1 : IntKind.i64.wrap (IntKind.i64.wrap (((t + i : Nat) : Int) + 1) * 59) = (((t + i + 1) * 59 : Nat) : Int) := by
    rw [show IntKind.i64.wrap (((t + i : Nat) : Int) + 1) = ((t + i + 1 : Nat) : Int) from wrap_eq (by omega) (by omega) (by omega)]
    exact wrap_eq (by omega) (by omega) (by omega)
  have w2 : IntKind.i64.wrap (IntKind.i64.wrap ((F : Int) + 1) + ((t + i : Nat) : Int)) = ((F + 1 + (t + i) : Nat) : Int) := by
    rw [show IntKind.i64.wrap ((F : Int) + 1) = ((F + 1 : Nat) : Int) from wrap_eq (by omega) (by omega) (by omega)]
    exact wrap_eq (by omega) (by omega) (by omega)
  have w3 : IntKind.i64.wrap (((t + i : Nat) : Int) * 59) = (((t + i) * 59 : Nat) : Int) := wrap_eq (by omega) (by omega) (by omega)
  have w4 : IntKind.i64.wrap (((t + i : Nat) : Int) + 1) = ((t + (i + 1) : Nat) : Int) := wrap_eq (by omega) (by omega) (by omega)
  show AWp _ _ _ _ _ ⟨[(0, .ptr 0 0), (2, .own 2 0 i), (3, .own 3 0 i)], [some (.cells [.int .i64 l.id, .int .i64 l.ver, .int .i64 l.rs, .int .i64 l.regs, .int .i64 (F : Int), .int .i64 (seq : Int), .own 1 0 s.length, .int .i64 ((t + i : Nat) : Int)] 181), some (.arr (s.map u8A) 5), some (.arr ((tkS F t i).map iA) 3), some (.arr ((tkF F seq s t i).map sl8A) 38)]⟩
  have hfr : frN F seq s (t + i) = encF 2 seq (F + 1 + (t + i)) ((s.drop ((t + i) * 59)).take 59) := rfl
  have hSb : F + 1 + (t + i) < 1048576 := by omega
  repeat' (refine Ql ?_)
  refine awp_region_auto2 [] [] (by exact rfl) (by kernel_rfl) ?_
  repeat' (first | ((apply Qd rfl rfl rfl rfl); (first | refine Q0 ?_ | refine Q2 rfl ?_ | refine Q3 rfl rfl rfl ?_ | refine Q4 rfl rfl rfl rfl rfl ?_ | refine Q6 rfl ?_ | refine Q7 rfl rfl rfl ?_); (exact QX rfl rfl ⟨rfl, rfl⟩)) | refine Qk ?_ | refine Qs ?_)
  rw [w1]
  by_cases hlt : i < n
  · have hi9 : i + 1 ≤ 1000000 := by omega
    have hmu : n - (i + 1) < n - i := by omega
    have hle : (t + i + 1) * 59 ≤ s.length := by omega
    rw [decide_eq_true (show (((t + i + 1) * 59 : Nat) : Int) ≤ (s.length : Int) by omega)]
    have hpl : ((s.drop ((t + i) * 59)).take 59).length = 59 := by simp; omega
    generalize hp : (s.drop ((t + i) * 59)).take 59 = p at *
    have hen := fun X H x hx => fenc_at X H x 2 seq (F + 1 + (t + i)) p ⟨by decide, by decide, hSb⟩ hq (by omega) hx
    have hel : (encF 2 seq (F + 1 + (t + i)) p).length = 64 := encF_len (by omega)
    rw [← hfr] at hen hel
    generalize frN F seq s (t + i) = fr at *
    generalize hA : tkS F t (i + 1) = A2 at *
    generalize hB : tkF F seq s t (i + 1) = B2 at *
    generalize hA0 : tkS F t i = A1 at *
    generalize hB0 : tkF F seq s t i = B1 at *
    generalize hS : F + 1 + (t + i) = S at *
    have hS2 : F + 1 + t + i = S := by omega
    rw [hS2] at hss
    repeat' (first | refine Ql ?_ | refine Qm ?_ | refine Qn ?_ | refine Qp rfl ?_)
    refine awp_region_auto2 [] [] (by exact rfl) (by kernel_rfl) ?_
    repeat' (first | ((apply Qd rfl rfl rfl rfl); (first | refine Q0 ?_ | refine Q1 ?_ | refine Q2 rfl ?_ | refine Q3 rfl rfl rfl ?_ | refine Q4 rfl rfl rfl rfl rfl ?_ | refine Q6 rfl ?_); (exact QX rfl rfl ⟨rfl, rfl⟩)) | refine Qk ?_ | refine Ql ?_)
    rw [w2]
    refine awp_region_any [21] [0, 1, 2, 4, 5, 6, 7, 9, 10, 11, 13, 14, 15, 16, 18, 19, 22, 23, 24, 25, 26] (by exact rfl) ?_
    refine any_lin (fuel := 0) [0, 1, 2, 3, 4, 5, 6, 7, 8, 9, 10, 11, 12, 13, 14, 15, 16, 17, 18, 19, 20, 21, 22, 23, 24, 25, 26] (by exact rfl) (by kernel_rfl) (by kernel_rfl) ?_
    repeat' ((first | apply Qd rfl rfl rfl rfl | (apply Qe rfl rfl rfl rfl; intro H9)); (first | refine Q0 ?_ | refine Q2 rfl ?_ | refine Q3 rfl rfl rfl ?_ | refine Q4 rfl rfl rfl rfl rfl ?_ | refine Q6 rfl ?_); (first | exact QX rfl rfl ⟨rfl, rfl⟩ | exact QY rfl ⟨rfl, rfl⟩))
    apply ds rfl rfl rfl rfl
    · refine st_slo (l := (t + i) * 59) (h := (t + i + 1) * 59) (lo' := (t + i) * 59) (n' := 59) (bnd_some rfl w3) (bnd_some rfl w1) (by omega) (by first | omega | (simp; omega)) (by omega) (by omega) rfl rfl rfl rfl rfl rfl rfl ?_
      first
      | exact nx rfl rfl ⟨rfl, rfl⟩
      | exact nx0 ⟨rfl, rfl⟩
    skip
    refine ds_ef rfl rfl rfl ?_
    refine st_call (fun _ => rfl) rfl ?_
    refine ACalls.mono (hen X _ _ (src_ownm' rfl rfl rfl (by omega) (by rw [hp]))) ?_
    rintro r H' ⟨rfl, rfl⟩
    first | refine nx rfl rfl ?_ | refine nx0 ?_
    repeat' (first | ((apply Qe rfl rfl rfl rfl; intro H9); (first | refine Q0 ?_ | refine Q1 ?_ | refine QC rfl rfl ?_); (exact QY rfl ⟨rfl, rfl⟩)) | refine Qk ?_ | refine Qw (by kernel_rfl) ?_)
    refine then_i ?_
    refine awp_pre (Imp.trans (imp_freeze (id := 4) (k := 1) (es := fr.map u8A) (e := 5) rfl rfl rfl) (imp_cutk 4 (by simp) (hok_tk l F seq s (t + i) (A1) (B1)) rfl (by simp) (sl' := [(0, .ptr 0 0), (2, .own 2 0 i), (3, .own 3 0 i), (4, .int .i64 (S : Int)), (5, .sl 1 (fr.map u8A))]) ?_)) ?_
    · repeat' (first | exact fa_nil | refine fa_cons ⟨?_, ?_⟩ ?_)
      all_goals (try first | exact rfl | exact trivial | exact idsL_map (fun _ => u8A_ids) | (simp [IdsLt, IdsLtL]; done))
      show frz 4 1 (fr.map u8A) (.own 4 0 64) = _
      simp [frz, hel, List.take_of_length_le]
    repeat' (first | ((refine Qa rfl ?_); (first | refine Q0 ?_ | refine QR rfl rfl rfl rfl rfl rfl rfl rfl rfl rfl rfl rfl ?_); (refine QX rfl rfl ?_)) | refine Qa rfl ?_ | refine Qo rfl ?_)
    refine st_app (oid := some 2) (es := (A1).map iA) (out := (A2).map iA) (n := i + 1) (dst_own rfl (by rw [List.length_map, hsl])) (rfl) (oneEs_i [(S : Int)]) (by rw [hss, List.map_append]; rfl) (by rw [List.length_map, hsl]; rfl) (by show _ ≤ 9223372036854775807; omega) (by show _ * 8 ≤ _; omega) rfl rfl rfl rfl rfl rfl rfl rfl ?_
    first | refine nx rfl rfl ?_ | refine nx0 ?_
    repeat' (first | ((refine Qa rfl ?_); (first | refine Q0 ?_ | refine QR rfl rfl rfl rfl rfl rfl rfl rfl rfl rfl rfl rfl ?_); (refine QX rfl rfl ?_)) | refine Qa rfl ?_)
    refine st_app (oid := some 3) (es := (B1).map sl8A) (out := (B2).map sl8A) (n := i + 1) (new := [fr].map sl8A) (dst_own rfl (by rw [List.length_map, hfl])) rfl (oneEs_sl8 [fr]) (by rw [hfs, List.map_append]) (by rw [List.length_map, hfl]; rfl) (Nat.le_trans hi9 (by decide)) (Nat.le_trans (Nat.mul_le_mul_right 24 hi9) (by decide)) rfl rfl rfl rfl rfl rfl rfl rfl ?_
    first | refine nx rfl rfl ?_ | refine nx0 ?_
    repeat' (first | ((refine Qa rfl ?_); (first | refine Q0 ?_ | refine Q1 ?_ | refine Q2 rfl ?_ | refine Q3 rfl rfl rfl ?_ | refine Q4 rfl rfl rfl rfl rfl ?_ | refine Q6 rfl ?_); (refine QX rfl rfl ?_)) | (refine Qb rfl ?_; try (refine QS rfl rfl rfl rfl rfl rfl rfl ?_; (refine QX rfl rfl ?_))) | refine Qh ?_ | refine Qo rfl ?_ | refine Qs ?_)
    rw [w4]
    refine ⟨i + 1, hlt, hmu, ?_⟩
    show Imp _ _ _ _ ⟨[(0, .ptr 0 0), (2, .own 2 0 (i + 1)), (3, .own 3 0 (i + 1))], pkH l F seq s (t + (i + 1)) ++ [some (.arr ((tkS F t (i + 1)).map iA) 3), some (.arr ((tkF F seq s t (i + 1)).map sl8A) 38)]⟩
    rw [hA, hB]
    refine imp_tid 2 [4, 5] (H' := pkH l F seq s (t + (i + 1)) ++ [some (.arr ((A2).map iA) 3), some (.arr ((B2).map sl8A) 38)]) (os := [.arr ((A2).map iA) 3, .arr ((B2).map sl8A) 38]) (Nat.le_refl _) ?_ ?_ ?_ ?_ rfl ?_ ?_ ?_
    · simp
    · simp
    · simp
    · exact hok_pk l F seq s (t + (i + 1))
    · rfl
    · exact fa_cons (ren_lt rfl (by simp [IdsLt])) (fa_cons (ren_own rfl) (fa_cons (ren_own rfl) fa_nil))
    · exact os_cons rfl (renO_old 2 gcF_lt (ids_i _)) (os_cons rfl (renO_old 2 gcF_lt (ids_sl8 _)) os_nil)
  · have hii : i = n := by omega
    subst hii
    rw [decide_eq_false (show ¬ (((t + i + 1) * 59 : Nat) : Int) ≤ (s.length : Int) by omega)]
    repeat' (first | ((refine Qa rfl ?_); (first | refine Q0 ?_ | refine Q1 ?_); (refine QX rfl rfl ?_)) | refine Qh ?_ | refine Ql ?_ | refine Qo rfl ?_ | refine Qq rfl ?_ | refine Qr ?_ | refine Qs ?_)
    refine awp_pre (Imp.trans (imp_freeze (id := 3) (k := 1) (es := (tkF F seq s t i).map sl8A) (e := 38) rfl rfl rfl) (Imp.trans (imp_freeze (id := 2) (k := 1) (es := (tkS F t i).map iA) (e := 3) rfl rfl rfl) (imp_cutk 2 (Nat.le_refl _) (hok_pk l F seq s (t + i)) rfl (by simp) (sl' := [(2, .sl 1 ((tkS F t i).map iA)), (3, .sl 1 ((tkF F seq s t i).map sl8A))]) ?_))) ?_
    · refine fa_cons ⟨?_, ids_i _⟩ (fa_cons ⟨?_, ids_sl8 _⟩ fa_nil)
      · show frz 2 1 ((tkS F t i).map iA) (frz 3 1 ((tkF F seq s t i).map sl8A) (.own 2 0 i)) = _
        simp [frz, hsl, List.take_of_length_le]
      · show frz 2 1 ((tkS F t i).map iA) (frz 3 1 ((tkF F seq s t i).map sl8A) (.own 3 0 i)) = _
        simp [frz, hfl, List.take_of_length_le]
    refine awp_ret ?_
    exact ⟨_, rfl, rfl, rfl⟩
end Go.Abs
namespace Go.Abs
def rgC (h : Hd) : AO := .cells [.ptr 0 0, .int .i64 h.ver, .int .i64 h.slot, .int .i64 h.lay, .int .i64 h.seq, .int .i64 h.tail, .int .i64 h.now, .ptr 4 0] 151
def rgH (v : Dv) (h : Hd) (l : La) (F seq : Nat) (s : List UInt8) (t : Nat) : Hp := devH v ++ [some (rgC h), some (pkC l F seq s.length t 5), some (arB s)]
def rgM (v : Dv) (h : Hd) (l : La) (F seq : Nat) (s : List UInt8) (t : Nat) : Hp := devH v ++ [some (rgC h), some (pkC l F seq s.length t 6), none, some (arB s)]
theorem hok_rg (v : Dv) (h : Hd) (l : La) (F seq : Nat) (s : List UInt8) (t : Nat) : HOk 6 (rgH v h l F seq s t) := fun j o ho => by
  match j, ho with
  | 0, ho => cases ho; exact ⟨by simp [IdsLt], by simp [IdsLt], trivial, trivial, trivial, trivial⟩
  | 1, ho => cases ho; exact idsL_map fun _ => u8A_ids
  | 2, ho => cases ho; exact ⟨by rw [List.map_map]; exact idsL_map fun _ => trivial, by rw [List.map_map]; exact idsL_map fun p => (idsL_map (f := u8A) fun _ => u8A_ids : IdsLtL _ (p.2.map u8A))⟩
  | 3, ho => cases ho; exact ⟨by simp [IdsLt], trivial, trivial, trivial, trivial, trivial, trivial, by simp [IdsLt], trivial⟩
  | 4, ho => cases ho; exact ⟨trivial, trivial, trivial, trivial, trivial, trivial, by simp [IdsLt], trivial, trivial⟩
  | 5, ho => cases ho; exact idsL_map fun _ => u8A_ids
theorem some_pk (l : La) (F seq : Nat) (s : List UInt8) (t : Nat) : ∀ j : Nat, (pkH l F seq s t)[j]? ≠ some none := fun j => by
  match j with
  | 0 | 1 => simp [pkH]
  | j + 2 => simp [pkH]
theorem mapH_pk (g : Nat → Nat) (l : La) (F seq : Nat) (s : List UInt8) (t k : Nat) (hg : g 1 = k) : mapH g (pkH l F seq s t) = [some (pkC l F seq s.length t k), some (arB s)] := by
  simp [mapH, pkH, pkC, arB, rnO, rnL, rnA, hg, rnL_map (f := u8A) (fun _ => rfl)]
theorem mapH_ar (g : Nat → Nat) (s : List UInt8) : mapH g [some (arB s)] = [some (arB s)] := by
  simp [mapH, arB, rnO, rnL_map (f := u8A) (fun _ => rfl)]
theorem noFz_pk (l : La) (F seq : Nat) (s : List UInt8) (t : Nat) : noFzH (pkH l F seq s t) = true := by
  simp [noFzH, noFzO, pkH, pkC, arB, noFzL, noFz, noFz_map (f := u8A) (fun _ => rfl)]
/-- A method of the packer, anywhere in a heap. -/
theorem pk_at {X : Nat → Prop} {f : FuncId} {rest : List AV} {r0 : AV} {l : La} {F seq : Nat} {s s' : List UInt8} {t t' : Nat} (hc : ∀ X, ACalls (E0 X) f (.ptr 0 0 :: rest) (pkH l F seq s t) (fun r H' => r = r0 ∧ H' = pkH l F seq s' t')) (hrest : IdsLtL 0 rest) (hr : IdsLt 0 r0) (L : Hp) (k : Nat) (hs : L.length = k) :
    ACalls (E0 X) f (.ptr k 0 :: rest) (L ++ [some (pkC l F seq s.length t (1 + k)), some (arB s)]) (fun r H' => r = r0 ∧ H' = L ++ [some (pkC l F seq s'.length t' (1 + k)), some (arB s')]) := by
  subst hs
  have e : ∀ s t, mapH (sh L.length ([] : Hp).length 2) (pkH l F seq s t) = [some (pkC l F seq s.length t (1 + L.length)), some (arB s)] := fun s t => mapH_pk _ l F seq s t _ (by simp [sh])
  refine ACalls.conv (ACalls.frameLR (E := E0 X) hc L [] (some_pk l F seq s t) ⟨by simp [IdsLt, pkH], ids_mono (Nat.zero_le _) hrest⟩ (hok_pk l F seq s t)) ?_ (by rw [show (pkH l F seq s t).length = 2 from rfl, e, List.append_nil]) ?_
  · show _ :: rnL _ rest = _
    rw [rnL_closed _ hrest]; simp [rnA, sh, pkH]
  · rintro r H' ⟨r1, h', ⟨rfl, rfl⟩, -, rfl, rfl⟩
    refine ⟨rn_closed _ hr, ?_⟩
    show L ++ mapH (sh L.length ([] : Hp).length 2) (pkH l F seq s' t') ++ [] ++ [] = _
    rw [e, List.append_nil, List.append_nil]
theorem pk_atM {X : Nat → Prop} {f : FuncId} {rest : List AV} {r0 : AV} {l : La} {F seq : Nat} {s s' : List UInt8} {t t' : Nat} (hc : ∀ X, ACalls (E0 X) f (.ptr 0 0 :: rest) (pkH l F seq s t) (fun r H' => r = r0 ∧ H' = pkM l F seq s' t')) (hrest : IdsLtL 0 rest) (hr : IdsLt 0 r0) (L : Hp) (k : Nat) (hs : L.length = k) :
    ACalls (E0 X) f (.ptr k 0 :: rest) (L ++ [some (pkC l F seq s.length t (1 + k)), some (arB s)]) (fun r H' => r = r0 ∧ H' = L ++ [some (pkC l F seq s'.length t' (2 + k)), none, some (arB s')]) := by
  subst hs
  have e : ∀ s t, mapH (sh L.length ([] : Hp).length 2) (pkH l F seq s t) = [some (pkC l F seq s.length t (1 + L.length)), some (arB s)] := fun s t => mapH_pk _ l F seq s t _ (by simp [sh])
  refine ACalls.conv (ACalls.frameLR (E := E0 X) hc L [] (some_pk l F seq s t) ⟨by simp [IdsLt, pkH], ids_mono (Nat.zero_le _) hrest⟩ (hok_pk l F seq s t)) ?_ (by rw [show (pkH l F seq s t).length = 2 from rfl, e, List.append_nil]) ?_
  · show _ :: rnL _ rest = _
    rw [rnL_closed _ hrest]; simp [rnA, sh, pkH]
  · rintro r H' ⟨r1, h', ⟨rfl, rfl⟩, -, rfl, rfl⟩
    refine ⟨rn_closed _ hr, ?_⟩
    show L ++ mapH (sh L.length ([] : Hp).length 2) [some (pkC l F seq s'.length t' 2), none] ++ [] ++ mapH (sh L.length ([] : Hp).length 2) [some (arB s')] = _
    rw [mapH_ar]
    simp [mapH, pkC, rnO, rnL, rnA, sh]
theorem pnew_at (X : Nat → Prop) (l : La) (slot : Int) (seq F : Nat) (h : slotOk l slot) (hs1 : 1 ≤ seq) (hs2 : seq ≤ 281474976710655) (hF : 74 + slot * l.rs = (F : Int)) (H : Hp) :
    ACalls (E0 X) 90 [laA l, .int .i64 slot, .int .i64 (seq : Int)] H (fun r H' => r = .tup [.ptr H.length 0, .int .i64 0] ∧ H' = H ++ [some (pkC l F seq 0 0 (1 + H.length)), some (arB [])]) := by
  refine (acalls_make (E := E0 X) (P := fun v H' => v = .tup [.ptr 0 0, .int .i64 0] ∧ H' = pkH l F seq [] 0) (fun X => pnew_c X l slot seq F h hs1 hs2 hF) (fun r h' h => by
    obtain ⟨h1, h2⟩ := h; subst h1; subst h2; exact ⟨rfl, noFz_pk l F seq [] 0⟩) (Bor.same laA_ids (Bor.same trivial (Bor.same trivial .nil)))).mono ?_
  rintro r H' ⟨r0, h', ⟨rfl, rfl⟩, rfl, rfl⟩
  refine ⟨by simp [rnA, rnL], ?_⟩
  rw [mapH_pk _ l F seq [] 0 (1 + H.length) rfl]
  rfl
attribute [local irreducible] AStep aops AWp Nx awM
set_option maxHeartbeats 0 in
set_option maxRecDepth 100000 in
theorem ropen_c (X : Nat → Prop) (v : Dv) (L : Nat) (hv : Lv L v) (l : La) (h : Hd) (F seq : Nat) (hs : slotOk l h.slot) (hb : hdB h = true) (h1 : h.ver = l.ver) (h2 : h.lay = l.id) (hq : h.seq = (seq : Int)) (hF : 74 + h.slot * l.rs = (F : Int)) (hFL : F * 64 + 64 ≤ L) (hL : L ≤ 67108864) :
    ACalls (E0 X) 48 [.ptr 0 0, laA l, hdA h] (devH v) (fun r H' => r = .tup [.ptr 3 0, .int .i64 0] ∧ H' = rgH { v.put F (encH h F) with old := [] } h l F seq [] 0) := by
  obtain ⟨-, -, -, ⟨d1, d2⟩, -, -⟩ := hd_ok hb
  have hfo := fun X => form_c X l
  rw [hs.1] at hfo
  have hva := fun X => hvalid_c X h
  rw [hb] at hva
  have hfc := fun X => first_c X l h.slot
  rw [show firstI l h.slot = 74 + h.slot * l.rs from if_pos hs, hF] at hfc
  have hnew := pnew_at X l h.slot seq F hs (by omega) (by omega) hF (devH v)
  rw [← hq] at hnew
  have hen := fun X => henc_x X h F hb (by omega)
  have hel := encH_len h F
  have hw := fun R => dev_l (fun X => write_c X v hv.inv.ok F (encH h F) (by omega)) ⟨trivial, idsL_map fun _ => u8A_ids, trivial⟩ trivial R (X := X)
  rw [hv.write (by omega) (by omega)] at hw
  have hv1 := hv.put (k := F) (by omega) (b := encH h F) (by omega)
  have hba := fun R => dev_l (fun X => barrier_c X _ hv1.inv.fuse) trivial trivial R (X := X)
  rw [hv1.bar] at hba
  have hn1 : ¬ ¬ h.ver = l.ver := fun x => x h1
  have hn2 : ¬ ¬ h.lay = l.id := fun x => x h2
  show ACalls (E0 X) 48 [.ptr 0 0, .agg [.int .i64 l.id, .int .i64 l.ver, .int .i64 l.rs, .int .i64 l.regs], .agg [.int .i64 h.ver, .int .i64 h.slot, .int .i64 h.lay, .int .i64 h.seq, .int .i64 h.tail, .int .i64 h.now]] (devH v) _
  refine acalls_of Proofs.Tryd.func48 rfl Proofs.Tryd.ntmps48 (by kernel_rfl) rfl ?_
  intro hH hargs
  clear hH hargs
  repeat' (first | ((refine Qa rfl ?_); (first | refine Q1 ?_ | refine Q3 rfl rfl rfl ?_ | refine QK rfl ?_); (refine QX rfl rfl ?_)) | refine Qa rfl ?_ | refine Qh ?_ | refine Ql ?_ | refine Qo rfl ?_)
  refine st_call (fun _ => rfl) rfl ?_
  refine ACalls.mono (acalls_pure (E := E0 X) (fun X => hfo X) (by simp [IdsLtL, IdsLt]) _) ?_
  rintro r H' ⟨rfl, rfl⟩
  first | refine nx rfl rfl ?_ | refine nx0 ?_
  repeat' (first | ((refine Qa rfl ?_); (first | refine Q0 ?_ | refine Q3 rfl rfl rfl ?_ | refine QD rfl ?_); (refine QX rfl rfl ?_)) | refine Qa rfl ?_)
  refine st_call (fun _ => rfl) rfl ?_
  refine ACalls.mono (acalls_pure (E := E0 X) (fun X => hva X) (by simp [IdsLtL, IdsLt]) _) ?_
  rintro r H' ⟨rfl, rfl⟩
  first | refine nx rfl rfl ?_ | refine nx0 ?_
  repeat' ((refine Qa rfl ?_); (first | refine Q0 ?_ | refine Q2 rfl ?_ | refine Q3 rfl rfl rfl ?_ | refine Q4 rfl rfl rfl rfl rfl ?_ | refine Q5 rfl ?_ | refine QD rfl ?_); (refine QX rfl rfl ?_))
  rw [decide_eq_false hn1]
  repeat' (first | ((refine Qa rfl ?_); (first | refine Q2 rfl ?_ | refine Q3 rfl rfl rfl ?_ | refine Q4 rfl rfl rfl rfl rfl ?_ | refine Q5 rfl ?_); (refine QX rfl rfl ?_)) | refine Qh ?_ | refine Qs ?_)
  rw [decide_eq_false hn2]
  skip
  refine awp_pre (Imp.trans (imp_freezeP (id := 4) (cs := [.int .i64 h.ver, .int .i64 h.slot, .int .i64 h.lay, .int .i64 h.seq, .int .i64 h.tail, .int .i64 h.now]) rfl) (Imp.trans (imp_freezeP (id := 3) (cs := [.int .i64 l.id, .int .i64 l.ver, .int .i64 l.rs, .int .i64 l.regs]) rfl) (imp_cutk 3 (Nat.le_refl _) (hok_dev v) rfl (by simp [devH]) (sl' := [(0, .ptr 0 0), (4, .fp [.int .i64 l.id, .int .i64 l.ver, .int .i64 l.rs, .int .i64 l.regs]), (5, .fp [.int .i64 h.ver, .int .i64 h.slot, .int .i64 h.lay, .int .i64 h.seq, .int .i64 h.tail, .int .i64 h.now]), (33, .bool false)]) ?_))) ?_
  · repeat' (first | exact fa_nil | refine fa_cons ⟨?_, ?_⟩ ?_)
    all_goals (try first | exact rfl | exact trivial | (simp [IdsLt, IdsLtL]; done) | (simp [get_cons]; done) | (simp [get_cons, *]; done) | (refine congrArg (AV.int .i64) (wrap_eq ?_ ?_ ?_) <;> (first | omega | (simp; omega))))
  repeat' (first | ((refine Qa rfl ?_); (first | refine Q3 rfl rfl rfl ?_ | refine Q4 rfl rfl rfl rfl rfl ?_); (refine QX rfl rfl ?_)) | refine Qa rfl ?_ | refine Ql ?_ | refine Qm ?_ | refine Qo rfl ?_ | refine Qq rfl ?_)
  refine st_call (fun _ => rfl) rfl ?_
  refine ACalls.mono (hnew) ?_
  rintro r H' ⟨rfl, rfl⟩
  first | refine nx rfl rfl ?_ | refine nx0 ?_
  repeat' (first | ((refine Qa rfl ?_); (first | refine Q0 ?_ | refine Q1 ?_ | refine Q2 rfl ?_ | refine Q3 rfl rfl rfl ?_ | refine Q4 rfl rfl rfl rfl rfl ?_ | refine QC rfl rfl ?_); (refine QX rfl rfl ?_)) | refine Qa rfl ?_ | refine Qh ?_ | refine Ql ?_ | refine Qm ?_ | refine Qo rfl ?_ | refine Qq rfl ?_)
  refine st_call (fun _ => rfl) rfl ?_
  refine ACalls.mono (acalls_pure (E := E0 X) (fun X => hfc X) (by simp [IdsLtL, IdsLt]) _) ?_
  rintro r H' ⟨rfl, rfl⟩
  first | refine nx rfl rfl ?_ | refine nx0 ?_
  repeat' (first | ((refine Qa rfl ?_); (first | refine Q0 ?_ | refine Q1 ?_ | refine Q3 rfl rfl rfl ?_); (refine QX rfl rfl ?_)) | refine Qa rfl ?_ | refine Qh ?_ | refine Ql ?_ | refine Qo rfl ?_)
  refine st_call (fun _ => rfl) rfl ?_
  refine ACalls.mono (acalls_pure (E := E0 X) (fun X => hen X) (by simp [IdsLtL, IdsLt]) _) ?_
  rintro r H' ⟨rfl, rfl⟩
  first | refine nx rfl rfl ?_ | refine nx0 ?_
  repeat' (first | ((refine Qa rfl ?_); (first | refine Q0 ?_ | refine Q1 ?_ | refine Q2 rfl ?_ | refine QC rfl rfl ?_); (refine QX rfl rfl ?_)) | refine Qa rfl ?_ | refine Qh ?_ | refine Ql ?_ | refine Qo rfl ?_ | refine Qp rfl ?_)
  generalize encH h F = eh at *
  refine st_call (fun _ => rfl) rfl ?_
  refine ACalls.mono (hw _) ?_
  rintro r H' ⟨rfl, rfl⟩
  first | refine nx rfl rfl ?_ | refine nx0 ?_
  generalize v.put F eh = v1 at *
  repeat' (first | ((refine Qa rfl ?_); (first | refine Q0 ?_ | refine Q1 ?_ | refine Q2 rfl ?_); (refine QX rfl rfl ?_)) | refine Qa rfl ?_ | refine Qh ?_ | refine Ql ?_ | refine Qo rfl ?_ | refine Qp rfl ?_)
  refine st_call (fun _ => rfl) rfl ?_
  refine ACalls.mono (hba _) ?_
  rintro r H' ⟨rfl, rfl⟩
  first | refine nx rfl rfl ?_ | refine nx0 ?_
  generalize { v1 with old := [] } = v2 at *
  repeat' (first | ((refine Qa rfl ?_); (first | refine Q0 ?_ | refine Q1 ?_ | refine Q2 rfl ?_ | refine Q3 rfl rfl rfl ?_ | refine QK rfl ?_ | refine QP rfl rfl rfl rfl rfl rfl ?_); (refine QX rfl rfl ?_)) | refine Qh ?_ | refine Ql ?_ | refine Qm ?_ | refine Qo rfl ?_ | refine Qq rfl ?_ | refine Qs ?_)
  refine awp_pre (imp_tid 3 [5, 3, 4] (H' := rgH v2 h l F seq [] 0) (sl' := [(6, .ptr 3 0), (7, .int .i64 0)]) (os := [rgC h, pkC l F seq 0 0 5, arB []]) (Nat.le_refl _) ?_ ?_ ?_ ?_ rfl ?_ ?_ ?_) ?_
  · simp [devH]
  · simp
  · simp
  · exact hok_dev v2
  · rfl
  · repeat' (first
      | exact fa_nil
      | exact os_nil
      | exact RenL.nil
      | refine fa_cons ?_ ?_
      | refine os_cons rfl (renO_cells ?_) ?_
      | refine os_cons rfl (renO_old 0 (fun i h => absurd h (Nat.not_lt_zero i)) (by simp [IdsLtO, IdsLtL, IdsLt])) ?_
      | refine RenL.cons ?_ ?_
      | exact ren_own rfl
      | exact ren_ptr rfl
      | exact ren_mp rfl
      | exact ren_lt rfl (by first | trivial | (simp [IdsLt, IdsLtL]; done)))
  · repeat' (first
      | exact fa_nil
      | exact os_nil
      | exact RenL.nil
      | refine fa_cons ?_ ?_
      | refine os_cons rfl (renO_cells ?_) ?_
      | refine os_cons rfl (renO_old 0 (fun i h => absurd h (Nat.not_lt_zero i)) (by simp [IdsLtO, IdsLtL, IdsLt])) ?_
      | refine RenL.cons ?_ ?_
      | exact ren_own rfl
      | exact ren_ptr rfl
      | exact ren_mp rfl
      | exact ren_lt rfl (by first | trivial | (simp [IdsLt, IdsLtL]; done)))
  refine awp_ret ?_
  exact ⟨_, rfl, rfl, rfl⟩
/-- The device behind i frames of a stream. -/
def dfN (v : Dv) (F seq : Nat) (s : List UInt8) (t : Nat) : Nat → Dv
  | 0 => v
  | i + 1 => (dfN v F seq s t i).put (F + 1 + t + i) (frN F seq s (t + i))
theorem frN_len {F seq : Nat} {s : List UInt8} {t : Nat} : (frN F seq s t).length = 64 := encF_len (by simp; omega)
theorem Lv.df {L : Nat} {v : Dv} (hv : Lv L v) {F seq : Nat} {s : List UInt8} {t : Nat} : ∀ n, (F + 1 + t + n) * 64 ≤ L → Lv L (dfN v F seq s t n)
  | 0, _ => hv
  | n + 1, h => (Lv.df hv n (by omega)).put (by omega) (by rw [frN_len]; omega)
theorem tkS_get {F t n i : Nat} (h : i < n) : (tkS F t n)[i]? = some ((F + 1 + t + i : Nat) : Int) := by simp [tkS, h]
theorem tkF_get {F seq : Nat} {s : List UInt8} {t n i : Nat} (h : i < n) : (tkF F seq s t n)[i]? = some (frN F seq s (t + i)) := by simp [tkF, h]
set_option maxHeartbeats 0 in
set_option maxRecDepth 100000 in
theorem flush_c (X : Nat → Prop) (v : Dv) (L : Nat) (hv : Lv L v) (l : La) (h : Hd) (F seq : Nat) (s : List UInt8) (t n : Nat) (hq : seq < 9223372036854775808) (hF : F + s.length ≤ 1000000) (hn : t + n = s.length / 59) (hFL : (F + 1 + s.length / 59) * 64 ≤ L) (hL : L ≤ 67108864) :
    ACalls (E0 X) 93 [.ptr 3 0] (rgH v h l F seq s t) (fun r H' => r = .int .i64 0 ∧ H' = rgH (dfN v F seq s t n) h l F seq s (t + n)) := by
  have htk := fun Lp k hs => pk_at (X := X) (fun X => ptake_c X l F seq s t n hq hF hn) trivial (by exact ⟨ids_i _, ids_sl8 _, trivial⟩) Lp k hs
  have hsl := tkS_len F t n
  have hfl := tkF_len F seq s t n
  have hlv := fun i (hi : i ≤ n) => hv.df (F := F) (seq := seq) (s := s) (t := t) i (by omega)
  have hxs := fun i (hi : i < n) => tkS_get (F := F) (t := t) hi
  have hxf := fun i (hi : i < n) => tkF_get (F := F) (seq := seq) (s := s) (t := t) hi
  have hsu : ∀ i, dfN v F seq s t (i + 1) = (dfN v F seq s t i).put (F + 1 + t + i) (frN F seq s (t + i)) := fun i => rfl
  generalize tkS F t n = xs at *
  generalize tkF F seq s t n = fs at *
  have hxm : (xs.map iA).length = n := by rw [List.length_map, hsl]
  have hn9 : n ≤ 1000000 := by omega
  show ACalls (E0 X) _ [.ptr 3 0] (devH v ++ [some (.cells [.ptr 0 0, .int .i64 h.ver, .int .i64 h.slot, .int .i64 h.lay, .int .i64 h.seq, .int .i64 h.tail, .int .i64 h.now, .ptr 4 0] 151), some (pkC l F seq s.length t 5), some (arB s)]) _
  refine acalls_of Proofs.Tryd.func93 rfl Proofs.Tryd.ntmps93 (by kernel_rfl) rfl ?_
  intro hH hargs
  clear hH hargs
  repeat' (first | ((refine Qa rfl ?_); (first | refine Q0 ?_ | refine Q1 ?_ | refine Q3 rfl rfl rfl ?_ | refine Q4 rfl rfl rfl rfl rfl ?_ | refine Q6 rfl ?_); (refine QX rfl rfl ?_)) | refine Qa rfl ?_ | refine Qh ?_ | refine Ql ?_ | refine Qo rfl ?_)
  refine st_call (fun _ => rfl) rfl ?_
  refine ACalls.mono (htk (devH v ++ [some (rgC h)]) 4 rfl) ?_
  rintro r H' ⟨rfl, rfl⟩
  first | refine nx rfl rfl ?_ | refine nx0 ?_
  repeat' (first | ((refine Qa rfl ?_); (first | refine Q0 ?_ | refine Q1 ?_ | refine Q7 rfl rfl rfl ?_ | refine QC rfl rfl ?_); (refine QX rfl rfl ?_)) | refine Qh ?_ | refine Ql ?_ | refine Qn ?_ | refine Qo rfl ?_)
  refine awp_loop2 (fun i : Nat => ⟨[(0, .ptr 3 0), (4, .sl 1 (fs.map sl8A)), (16, .sl 1 (xs.map iA)), (17, .int .i64 ((xs.map iA).length : Int)), (18, .int .i64 (i : Int))], rgH (dfN v F seq s t i) h l F seq s (t + n)⟩) (fun i => i ≤ n) (fun i => n - i) 0 (Nat.zero_le _) ?_ ?_
  · refine imp_cutk 6 (Nat.le_refl _) (hok_rg v h l F seq s (t + n)) rfl (by simp [devH]) ?_
    repeat' (first | exact fa_nil | refine fa_cons ⟨?_, ?_⟩ ?_)
    all_goals (try first | exact rfl | exact trivial | (simp [IdsLt, IdsLtL]; done) | (simp [get_cons]; done) | (simp [get_cons, *]; done) | (refine congrArg (AV.int .i64) (wrap_eq ?_ ?_ ?_) <;> (first | omega | (simp; omega))))
    all_goals first | exact ids_i _ | exact ids_sl8 _
  rintro i hi
  have hi' : i ≤ n := hi
  have hsi := hsu i
  have hlvi := hlv i hi'
  show AWp _ _ _ _ _ ⟨[(0, .ptr 3 0), (4, .sl 1 (fs.map sl8A)), (16, .sl 1 (xs.map iA)), (17, .int .i64 ((xs.map iA).length : Int)), (18, .int .i64 (i : Int))], devH (dfN v F seq s t i) ++ [some (.cells [.ptr 0 0, .int .i64 h.ver, .int .i64 h.slot, .int .i64 h.lay, .int .i64 h.seq, .int .i64 h.tail, .int .i64 h.now, .ptr 4 0] 151), some (pkC l F seq s.length (t + n) 5), some (arB s)]⟩
  have hrl : (frN F seq s (t + i)).length = 64 := frN_len
  have hinv := hlvi.inv
  by_cases hlt : i < n
  · have hx := hxs i hlt
    have hf := hxf i hlt
    have hK : (F + 1 + t + i) * 64 + 64 ≤ L := by omega
    have hw := fun R => dev_l (fun X => write_c X (dfN v F seq s t i) hinv.ok (F + 1 + t + i : Nat) (frN F seq s (t + i)) (by rw [hrl]; decide)) ⟨trivial, idsL_map fun _ => u8A_ids, trivial⟩ trivial R (X := X)
    rw [hlvi.write hK (by rw [hrl]; decide)] at hw
    have hiw : IntKind.i64.wrap ((i : Int) + 1) = ((i + 1 : Nat) : Int) := wrap_eq (by omega) (by omega) (by omega)
    have hmu : n - (i + 1) < n - i := by omega
    generalize dfN v F seq s t i = vi at *
    generalize frN F seq s (t + i) = fr at *
    generalize vi.put (F + 1 + t + i) fr = v2 at *
    generalize F + 1 + t + i = S at *
    repeat' (first | ((refine Qa rfl ?_); (refine Q2 rfl ?_); (refine QX rfl rfl ?_)) | refine Qh ?_ | refine Ql ?_ | refine Qo rfl ?_)
    rw [decide_eq_true (show (i : Int) < ((xs.map iA).length : Int) by rw [hxm]; omega)]
    repeat' (first | ((refine Qa rfl ?_); (refine Q0 ?_); (refine QX rfl rfl ?_)) | refine Qa rfl ?_ | refine Ql ?_ | refine Qm ?_ | refine Qn ?_ | refine Qo rfl ?_ | refine Qp rfl ?_)
    refine st_ixm hx rfl rfl rfl rfl rfl rfl rfl (by first | rfl | omega) rfl ?_
    first | refine nx rfl rfl ?_ | refine nx0 ?_
    repeat' (first | ((refine Qa rfl ?_); (first | refine Q1 ?_ | refine Q3 rfl rfl rfl ?_); (refine QX rfl rfl ?_)) | refine Qh ?_ | refine Ql ?_)
    refine awp_region_any [9] [0, 1, 2, 4, 5, 6, 10] (by exact rfl) ?_
    refine any_lin (fuel := 0) [0, 1, 2, 3, 4, 5, 6, 7, 8, 9, 10] (by exact rfl) (by kernel_rfl) (by kernel_rfl) ?_
    repeat' ((first | apply Qd rfl rfl rfl rfl | (apply Qe rfl rfl rfl rfl; intro H9)); (first | refine Q0 ?_ | refine Q3 rfl rfl rfl ?_ | refine Q4 rfl rfl rfl rfl rfl ?_ | refine Q6 rfl ?_); (first | exact QX rfl rfl ⟨rfl, rfl⟩ | exact QY rfl ⟨rfl, rfl⟩))
    apply ds rfl rfl rfl rfl
    · refine st_ixm hf rfl rfl rfl rfl rfl rfl rfl (by first | rfl | omega) rfl ?_
      first | exact nx rfl rfl ⟨rfl, rfl⟩ | exact nx0 ⟨rfl, rfl⟩
    repeat' ((first | refine Qc rfl rfl rfl ?_ | apply Qd rfl rfl rfl rfl); (refine Q3 rfl rfl rfl ?_); (exact QX rfl rfl ⟨rfl, rfl⟩))
    refine ds_ef rfl rfl rfl ?_
    refine st_call (fun _ => rfl) rfl ?_
    refine ACalls.mono (hw _) ?_
    rintro r H' ⟨rfl, rfl⟩
    first | refine nx rfl rfl ?_ | refine nx0 ?_
    repeat' (first | ((apply Qe rfl rfl rfl rfl; intro H9); (refine Q1 ?_); (exact QY rfl ⟨rfl, rfl⟩)) | refine Qk ?_ | refine Qw (by kernel_rfl) ?_)
    repeat' (first | ((refine Qa rfl ?_); (first | refine Q0 ?_ | refine Q2 rfl ?_); (refine QX rfl rfl ?_)) | refine Qh ?_ | refine Ql ?_ | refine Qm ?_ | refine Qo rfl ?_ | refine Qq rfl ?_ | refine Qs ?_)
    rw [hiw]
    refine ⟨i + 1, hlt, hmu, ?_⟩
    show Imp _ _ _ _ ⟨_, rgH (dfN v F seq s t (i + 1)) h l F seq s (t + n)⟩
    rw [hsi]
    refine imp_cutk 6 (Nat.le_refl _) (hok_rg v2 h l F seq s (t + n)) rfl (by simp [devH]) ?_
    repeat' (first | exact fa_nil | refine fa_cons ⟨?_, ?_⟩ ?_)
    all_goals (try first | exact rfl | exact trivial | (simp [IdsLt, IdsLtL]; done) | (simp [get_cons]; done) | (simp [get_cons, *]; done) | (refine congrArg (AV.int .i64) (wrap_eq ?_ ?_ ?_) <;> (first | omega | (simp; omega))))
    all_goals first | exact ids_i _ | exact ids_sl8 _
  · have hii : i = n := by omega
    subst hii
    repeat' (first | ((refine Qa rfl ?_); (refine Q2 rfl ?_); (refine QX rfl rfl ?_)) | refine Qh ?_ | refine Ql ?_ | refine Qo rfl ?_)
    rw [decide_eq_false (show ¬ (i : Int) < ((xs.map iA).length : Int) by rw [hxm]; omega)]
    repeat' (first | ((refine Qa rfl ?_); (refine Q1 ?_); (refine QX rfl rfl ?_)) | refine Qh ?_ | refine Ql ?_ | refine Qo rfl ?_ | refine Qq rfl ?_ | refine Qr ?_ | refine Qs ?_)
    refine awp_ret ?_
    exact ⟨_, rfl, rfl, rfl⟩
end Go.Abs
namespace Go.Abs
theorem some_rg (v : Dv) (h : Hd) (l : La) (F seq : Nat) (s : List UInt8) (t : Nat) : ∀ j : Nat, (rgH v h l F seq s t)[j]? ≠ some none := fun j => by
  match j with
  | 0 | 1 | 2 | 3 | 4 | 5 => simp [rgH, devH]
  | j + 6 => simp [rgH, devH]
theorem rn_rg (v : Dv) (h : Hd) (l : La) (F seq : Nat) (s : List UInt8) (t : Nat) : mapH (reN [0, 1, 2, 3, 4, 6] 7) (rgH v h l F seq s t) = devH v ++ [some (rgC h), some (pkC l F seq s.length t 6), some (arB s)] := by
  simp [mapH, rgH, devH, rgC, pkC, arB, rnO, rnL, rnA, reN, rnL_map (f := u8A) (fun _ => rfl)]
  have := rnMap_old (g := reN [0, 1, 2, 3, 4, 6] 7) v.old
  simpa using this
theorem flush_m (X : Nat → Prop) (v : Dv) (L : Nat) (hv : Lv L v) (l : La) (h : Hd) (F seq : Nat) (s : List UInt8) (t n : Nat) (hq : seq < 9223372036854775808) (hF : F + s.length ≤ 1000000) (hn : t + n = s.length / 59) (hFL : (F + 1 + s.length / 59) * 64 ≤ L) (hL : L ≤ 67108864) :
    ACalls (E0 X) 93 [.ptr 3 0] (rgM v h l F seq s t) (fun r H' => r = .int .i64 0 ∧ H' = rgM (dfN v F seq s t n) h l F seq s (t + n)) := by
  have hm := rn_rg v h l F seq s t
  have hfr := ACalls.frame (E := E0 X) (fun X => flush_c X v L hv l h F seq s t n hq hF hn hFL hL) [0, 1, 2, 3, 4, 6] (rgM v h l F seq s t) (by simp) rfl (some_rg v h l F seq s t) (fun j i o hj ho => by
    have h1 : (mapH (reN [0, 1, 2, 3, 4, 6] 7) (rgH v h l F seq s t))[j]? = some (some (rnO (reN [0, 1, 2, 3, 4, 6] 7) o)) := by simp [mapH, ho]
    rw [hm] at h1
    match j, hj with
    | 0, hj => cases hj; exact h1
    | 1, hj => cases hj; exact h1
    | 2, hj => cases hj; exact h1
    | 3, hj => cases hj; exact h1
    | 4, hj => cases hj; exact h1
    | 5, hj => cases hj; exact h1) ⟨by simp [IdsLt, rgH, devH], trivial⟩ (hok_rg v h l F seq s t)
  refine ACalls.conv hfr rfl rfl ?_
  rintro r H' ⟨r0, h', ⟨rfl, rfl⟩, -, rfl, rfl⟩
  refine ⟨rfl, ?_⟩
  have hm2 := rn_rg (dfN v F seq s t n) h l F seq s (t + n)
  show mrg _ _ (mapH (reN [0, 1, 2, 3, 4, 6] 7) (rgH (dfN v F seq s t n) h l F seq s (t + n))) = _
  rw [hm2]
  rfl
attribute [local irreducible] AStep aops AWp Nx awM
set_option maxHeartbeats 0 in
set_option maxRecDepth 100000 in
theorem app_bad (X : Nat → Prop) (v : Dv) (l : La) (h : Hd) (F seq : Nat) (s : List UInt8) (t : Nat) (r : Rec) (hc : chkR l.ver r ≠ 0) :
    ACalls (E0 X) 50 [.ptr 3 0, recA r] (rgH v h l F seq s t) (fun q H' => q = .tup [.int .i64 0, .int .i64 0, .int .i64 (chkR l.ver r)] ∧ H' = rgH v h l F seq s t) := by
  have hpu := fun Lp k hs => pk_at (X := X) (fun X => put_bad X l F seq s t r hc) (by exact ⟨recA_ids, trivial⟩) (by exact ⟨trivial, trivial, trivial, trivial⟩) Lp k hs
  generalize chkR l.ver r = e at *
  show ACalls (E0 X) _ [.ptr 3 0, .agg [.int .i64 r.kind, .sl 1 (r.key.map u8A), .sl 1 (r.val.map u8A), .int .i64 r.exp]] (devH v ++ [some (.cells [.ptr 0 0, .int .i64 h.ver, .int .i64 h.slot, .int .i64 h.lay, .int .i64 h.seq, .int .i64 h.tail, .int .i64 h.now, .ptr 4 0] 151), some (pkC l F seq s.length t 5), some (arB s)]) _
  refine acalls_of Proofs.Tryd.func50 rfl Proofs.Tryd.ntmps50 (by kernel_rfl) rfl ?_
  intro hH hargs
  clear hH hargs
  repeat' (first | ((refine Qa rfl ?_); (first | refine Q0 ?_ | refine Q1 ?_ | refine QH rfl rfl rfl ?_ | refine QK rfl ?_); (refine QX rfl rfl ?_)) | refine Qh ?_ | refine Ql ?_ | refine Qm ?_ | refine Qo rfl ?_ | refine Qq rfl ?_)
  refine awp_pre (Imp.trans (imp_freezeP (id := 6) (cs := [.int .i64 r.kind, .sl 1 (r.key.map u8A), .sl 1 (r.val.map u8A), .int .i64 r.exp]) rfl) (imp_cutk 6 (Nat.le_refl _) (hok_rg v h l F seq s t) rfl (by simp [devH]) (sl' := [(0, .ptr 3 0), (3, .fp [.int .i64 r.kind, .sl 1 (r.key.map u8A), .sl 1 (r.val.map u8A), .int .i64 r.exp])]) ?_)) ?_
  · repeat' (first | exact fa_nil | refine fa_cons ⟨?_, ?_⟩ ?_)
    all_goals (try first | exact rfl | exact trivial | (simp [IdsLt, IdsLtL]; done) | (simp [get_cons]; done) | (simp [get_cons, *]; done) | (refine congrArg (AV.int .i64) (wrap_eq ?_ ?_ ?_) <;> (first | omega | (simp; omega))))
  show AWp _ _ _ _ _ ⟨_, (devH v ++ [some (.cells [.ptr 0 0, .int .i64 h.ver, .int .i64 h.slot, .int .i64 h.lay, .int .i64 h.seq, .int .i64 h.tail, .int .i64 h.now, .ptr 4 0] 151), some (pkC l F seq s.length t 5), some (arB s)])⟩
  refine awp_region_auto2 [] [] (by exact rfl) (by kernel_rfl) ?_
  repeat' ((apply Qd rfl rfl rfl rfl); (first | refine Q0 ?_ | refine Q3 rfl rfl rfl ?_ | refine Q4 rfl rfl rfl rfl rfl ?_ | refine Q6 rfl ?_); (exact QX rfl rfl ⟨rfl, rfl⟩))
  apply ds rfl rfl rfl rfl
  · refine st_call (fun _ => rfl) rfl ?_
    refine ACalls.mono (hpu (devH v ++ [some (rgC h)]) 4 rfl) ?_
    rintro r H' ⟨rfl, rfl⟩
    first
    | exact nx rfl rfl ⟨rfl, rfl⟩
    | exact nx0 ⟨rfl, rfl⟩
  repeat' (first | ((first | refine Qa rfl ?_ | apply Qd rfl rfl rfl rfl); (first | refine Q0 ?_ | refine Q1 ?_ | refine Q2 rfl ?_ | refine QC rfl rfl ?_); (first | exact QX rfl rfl ⟨rfl, rfl⟩ | refine QX rfl rfl ?_)) | refine Qh ?_ | refine Qk ?_ | refine Ql ?_ | refine Qo rfl ?_ | refine Qs ?_)
  rw [decide_eq_true hc]
  repeat' (first | ((refine Qa rfl ?_); (first | refine Q0 ?_ | refine Q1 ?_); (refine QX rfl rfl ?_)) | refine Qh ?_ | refine Ql ?_ | refine Qo rfl ?_ | refine Qp rfl ?_ | refine Qs ?_)
  refine awp_ret ?_
  exact ⟨_, rfl, rfl, rfl⟩
set_option maxHeartbeats 0 in
set_option maxRecDepth 100000 in
theorem app_full (X : Nat → Prop) (v : Dv) (l : La) (h : Hd) (F seq : Nat) (s : List UInt8) (t : Nat) (r : Rec) (hc : chkR l.ver r = 0) (hq : seq < 9223372036854775808) (hs : (s.length : Int) ≤ capI l) (hl : capI l - s.length < (lenR r : Int)) :
    ACalls (E0 X) 50 [.ptr 3 0, recA r] (rgH v h l F seq s t) (fun q H' => q = .tup [.int .i64 0, .int .i64 0, .int .i64 8] ∧ H' = rgH v h l F seq s t) := by
  have hpu := fun Lp k hs2 => pk_at (X := X) (fun X => put_full X l F seq s t r hc hq hs hl) (by exact ⟨recA_ids, trivial⟩) (by exact ⟨trivial, trivial, trivial, trivial⟩) Lp k hs2
  show ACalls (E0 X) _ [.ptr 3 0, .agg [.int .i64 r.kind, .sl 1 (r.key.map u8A), .sl 1 (r.val.map u8A), .int .i64 r.exp]] (devH v ++ [some (.cells [.ptr 0 0, .int .i64 h.ver, .int .i64 h.slot, .int .i64 h.lay, .int .i64 h.seq, .int .i64 h.tail, .int .i64 h.now, .ptr 4 0] 151), some (pkC l F seq s.length t 5), some (arB s)]) _
  refine acalls_of Proofs.Tryd.func50 rfl Proofs.Tryd.ntmps50 (by kernel_rfl) rfl ?_
  intro hH hargs
  clear hH hargs
  repeat' (first | ((refine Qa rfl ?_); (first | refine Q0 ?_ | refine Q1 ?_ | refine QH rfl rfl rfl ?_ | refine QK rfl ?_); (refine QX rfl rfl ?_)) | refine Qh ?_ | refine Ql ?_ | refine Qm ?_ | refine Qo rfl ?_ | refine Qq rfl ?_)
  refine awp_pre (Imp.trans (imp_freezeP (id := 6) (cs := [.int .i64 r.kind, .sl 1 (r.key.map u8A), .sl 1 (r.val.map u8A), .int .i64 r.exp]) rfl) (imp_cutk 6 (Nat.le_refl _) (hok_rg v h l F seq s t) rfl (by simp [devH]) (sl' := [(0, .ptr 3 0), (3, .fp [.int .i64 r.kind, .sl 1 (r.key.map u8A), .sl 1 (r.val.map u8A), .int .i64 r.exp])]) ?_)) ?_
  · repeat' (first | exact fa_nil | refine fa_cons ⟨?_, ?_⟩ ?_)
    all_goals (try first | exact rfl | exact trivial | (simp [IdsLt, IdsLtL]; done) | (simp [get_cons]; done) | (simp [get_cons, *]; done) | (refine congrArg (AV.int .i64) (wrap_eq ?_ ?_ ?_) <;> (first | omega | (simp; omega))))
  show AWp _ _ _ _ _ ⟨_, (devH v ++ [some (.cells [.ptr 0 0, .int .i64 h.ver, .int .i64 h.slot, .int .i64 h.lay, .int .i64 h.seq, .int .i64 h.tail, .int .i64 h.now, .ptr 4 0] 151), some (pkC l F seq s.length t 5), some (arB s)])⟩
  refine awp_region_auto2 [] [] (by exact rfl) (by kernel_rfl) ?_
  repeat' ((apply Qd rfl rfl rfl rfl); (first | refine Q0 ?_ | refine Q3 rfl rfl rfl ?_ | refine Q4 rfl rfl rfl rfl rfl ?_ | refine Q6 rfl ?_); (exact QX rfl rfl ⟨rfl, rfl⟩))
  apply ds rfl rfl rfl rfl
  · refine st_call (fun _ => rfl) rfl ?_
    refine ACalls.mono (hpu (devH v ++ [some (rgC h)]) 4 rfl) ?_
    rintro r H' ⟨rfl, rfl⟩
    first
    | exact nx rfl rfl ⟨rfl, rfl⟩
    | exact nx0 ⟨rfl, rfl⟩
  repeat' (first | ((first | refine Qa rfl ?_ | apply Qd rfl rfl rfl rfl); (first | refine Q0 ?_ | refine Q1 ?_ | refine Q2 rfl ?_ | refine QC rfl rfl ?_); (first | exact QX rfl rfl ⟨rfl, rfl⟩ | refine QX rfl rfl ?_)) | refine Qh ?_ | refine Qk ?_ | refine Ql ?_ | refine Qo rfl ?_ | refine Qp rfl ?_ | refine Qs ?_)
  skip
  refine awp_ret ?_
  exact ⟨_, rfl, rfl, rfl⟩
set_option maxHeartbeats 0 in
set_option maxRecDepth 100000 in
theorem app_ok (X : Nat → Prop) (v : Dv) (l : La) (h : Hd) (F seq : Nat) (s : List UInt8) (t : Nat) (r : Rec) (L : Nat) (hv : Lv L v) (hL : L ≤ 67108864) (n : Nat) (hc : chkR l.ver r = 0) (hq : seq < 9223372036854775808) (hs : (s.length : Int) ≤ capI l) (hl : (s.length : Int) + (lenR r : Int) ≤ capI l) (hF : F ≤ 100000) (hn : t + n = (s ++ encR l.ver seq s.length r).length / 59) (hFL : (F + 1 + (s ++ encR l.ver seq s.length r).length / 59) * 64 ≤ L) :
    ACalls (E0 X) 50 [.ptr 3 0, recA r] (rgH v h l F seq s t) (fun q H' => q = .tup [.int .i64 (s.length : Int), .int .i64 (lenR r : Int), .int .i64 0] ∧ H' = rgM (dfN v F seq (s ++ encR l.ver seq s.length r) t n) h l F seq (s ++ encR l.ver seq s.length r) (t + n)) := by
  have hpu := fun Lp k hs2 => pk_atM (X := X) (fun X => put_ok X l F seq s t r hc hq hs hl) (by exact ⟨recA_ids, trivial⟩) (by exact ⟨trivial, trivial, trivial, trivial⟩) Lp k hs2
  have hcl := capI_le l
  have hsl : (s ++ encR l.ver seq s.length r).length = s.length + lenR r := by rw [List.length_append, encR_len]
  have hfl := flush_m X v L hv l h F seq (s ++ encR l.ver seq s.length r) t n hq (by omega) hn hFL hL
  generalize s ++ encR l.ver seq s.length r = s2 at *
  generalize lenR r = lr at *
  show ACalls (E0 X) _ [.ptr 3 0, .agg [.int .i64 r.kind, .sl 1 (r.key.map u8A), .sl 1 (r.val.map u8A), .int .i64 r.exp]] (devH v ++ [some (.cells [.ptr 0 0, .int .i64 h.ver, .int .i64 h.slot, .int .i64 h.lay, .int .i64 h.seq, .int .i64 h.tail, .int .i64 h.now, .ptr 4 0] 151), some (pkC l F seq s.length t 5), some (arB s)]) _
  refine acalls_of Proofs.Tryd.func50 rfl Proofs.Tryd.ntmps50 (by kernel_rfl) rfl ?_
  intro hH hargs
  clear hH hargs
  repeat' (first | ((refine Qa rfl ?_); (first | refine Q0 ?_ | refine Q1 ?_ | refine QH rfl rfl rfl ?_ | refine QK rfl ?_); (refine QX rfl rfl ?_)) | refine Qh ?_ | refine Ql ?_ | refine Qm ?_ | refine Qo rfl ?_ | refine Qq rfl ?_)
  refine awp_pre (Imp.trans (imp_freezeP (id := 6) (cs := [.int .i64 r.kind, .sl 1 (r.key.map u8A), .sl 1 (r.val.map u8A), .int .i64 r.exp]) rfl) (imp_cutk 6 (Nat.le_refl _) (hok_rg v h l F seq s t) rfl (by simp [devH]) (sl' := [(0, .ptr 3 0), (3, .fp [.int .i64 r.kind, .sl 1 (r.key.map u8A), .sl 1 (r.val.map u8A), .int .i64 r.exp])]) ?_)) ?_
  · repeat' (first | exact fa_nil | refine fa_cons ⟨?_, ?_⟩ ?_)
    all_goals (try first | exact rfl | exact trivial | (simp [IdsLt, IdsLtL]; done) | (simp [get_cons]; done) | (simp [get_cons, *]; done) | (refine congrArg (AV.int .i64) (wrap_eq ?_ ?_ ?_) <;> (first | omega | (simp; omega))))
  show AWp _ _ _ _ _ ⟨_, (devH v ++ [some (.cells [.ptr 0 0, .int .i64 h.ver, .int .i64 h.slot, .int .i64 h.lay, .int .i64 h.seq, .int .i64 h.tail, .int .i64 h.now, .ptr 4 0] 151), some (pkC l F seq s.length t 5), some (arB s)])⟩
  refine awp_region_any [5] [0, 1, 2, 4, 6, 7, 8, 9, 10, 11, 12] (by exact rfl) ?_
  refine any_lin (fuel := 0) [0, 1, 2, 3, 4, 5, 6, 7, 8, 9, 10, 11, 12] (by exact rfl) (by kernel_rfl) (by kernel_rfl) ?_
  repeat' ((first | refine Qc rfl rfl rfl ?_ | apply Qd rfl rfl rfl rfl | (apply Qe rfl rfl rfl rfl; intro H9)); (first | refine Q0 ?_ | refine Q3 rfl rfl rfl ?_ | refine Q4 rfl rfl rfl rfl rfl ?_ | refine Q6 rfl ?_); (first | exact QX rfl rfl ⟨rfl, rfl⟩ | exact QY rfl ⟨rfl, rfl⟩))
  refine ds_ef rfl rfl rfl ?_
  refine st_call (fun _ => rfl) rfl ?_
  refine ACalls.mono (hpu (devH v ++ [some (rgC h)]) 4 rfl) ?_
  rintro r H' ⟨rfl, rfl⟩
  first | refine nx rfl rfl ?_ | refine nx0 ?_
  repeat' (first | ((apply Qe rfl rfl rfl rfl; intro H9); (first | refine Q0 ?_ | refine Q1 ?_ | refine QC rfl rfl ?_); (exact QY rfl ⟨rfl, rfl⟩)) | refine Qk ?_ | refine Qw (by kernel_rfl) ?_)
  repeat' (first | ((refine Qa rfl ?_); (first | refine Q0 ?_ | refine Q2 rfl ?_); (refine QX rfl rfl ?_)) | refine Qa rfl ?_ | refine Qh ?_ | refine Ql ?_ | refine Qm ?_ | refine Qo rfl ?_ | refine Qq rfl ?_)
  refine st_call (fun _ => rfl) rfl ?_
  refine ACalls.mono hfl ?_
  rintro r H' ⟨rfl, rfl⟩
  first | refine nx rfl rfl ?_ | refine nx0 ?_
  repeat' (first | ((refine Qa rfl ?_); (first | refine Q0 ?_ | refine Q1 ?_ | refine Q2 rfl ?_); (refine QX rfl rfl ?_)) | refine Qh ?_ | refine Ql ?_ | refine Qm ?_ | refine Qo rfl ?_ | refine Qq rfl ?_ | refine Qs ?_)
  refine awp_ret ?_
  exact ⟨_, rfl, rfl, rfl⟩
set_option maxHeartbeats 0 in
set_option maxRecDepth 100000 in
theorem rsync_c (X : Nat → Prop) (v : Dv) (L : Nat) (hv : Lv L v) (hL : L ≤ 67108864) (l : La) (h : Hd) (F seq : Nat) (s : List UInt8) (t n : Nat) (hq : seq < 9223372036854775808) (hF : F ≤ 100000) (hs : s.length ≤ 120773) (hn : t + n = (padS s).length / 59) (hFL : (F + 1 + (padS s).length / 59) * 64 ≤ L) :
    ACalls (E0 X) 51 [.ptr 3 0] (rgH v h l F seq s t) (fun q H' => q = .int .i64 0 ∧ H' = rgM { dfN v F seq (padS s) t n with old := [] } h l F seq (padS s) (t + n)) := by
  have hpl : (padS s).length ≤ 130000 := by
    simp only [padS, List.length_append, List.length_replicate]
    omega
  have hpa := fun Lp k hs2 => pk_atM (X := X) (fun X => pad_c X l F seq s t (by omega)) trivial trivial Lp k hs2
  have hfl := flush_m X v L hv l h F seq (padS s) t n hq (by omega) hn hFL hL
  have hlv := hv.df (F := F) (seq := seq) (s := padS s) (t := t) n (by omega)
  generalize padS s = s2 at *
  generalize dfN v F seq s2 t n = v2 at *
  have hba := fun R => dev_l (fun X => barrier_c X v2 hlv.inv.fuse) trivial trivial R (X := X)
  rw [hlv.bar] at hba
  show ACalls (E0 X) _ [.ptr 3 0] (devH v ++ [some (.cells [.ptr 0 0, .int .i64 h.ver, .int .i64 h.slot, .int .i64 h.lay, .int .i64 h.seq, .int .i64 h.tail, .int .i64 h.now, .ptr 4 0] 151), some (pkC l F seq s.length t 5), some (arB s)]) _
  refine acalls_of Proofs.Tryd.func51 rfl Proofs.Tryd.ntmps51 (by kernel_rfl) rfl ?_
  intro hH hargs
  clear hH hargs
  repeat' (first | ((refine Qa rfl ?_); (first | refine Q0 ?_ | refine Q1 ?_ | refine Q3 rfl rfl rfl ?_ | refine Q4 rfl rfl rfl rfl rfl ?_ | refine Q6 rfl ?_ | refine QH rfl rfl rfl ?_); (refine QX rfl rfl ?_)) | refine Qa rfl ?_ | refine Qh ?_ | refine Ql ?_ | refine Qm ?_ | refine Qo rfl ?_ | refine Qq rfl ?_)
  refine st_call (fun _ => rfl) rfl ?_
  refine ACalls.mono (hpa (devH v ++ [some (rgC h)]) 4 rfl) ?_
  rintro r H' ⟨rfl, rfl⟩
  first | refine nx rfl rfl ?_ | refine nx0 ?_
  repeat' (first | ((refine Qa rfl ?_); (refine Q0 ?_); (refine QX rfl rfl ?_)) | refine Qa rfl ?_ | refine Qh ?_ | refine Ql ?_ | refine Qo rfl ?_)
  refine st_call (fun _ => rfl) rfl ?_
  refine ACalls.mono hfl ?_
  rintro r H' ⟨rfl, rfl⟩
  first | refine nx rfl rfl ?_ | refine nx0 ?_
  repeat' (first | ((refine Qa rfl ?_); (first | refine Q0 ?_ | refine Q1 ?_ | refine Q2 rfl ?_ | refine Q3 rfl rfl rfl ?_ | refine Q4 rfl rfl rfl rfl rfl ?_ | refine Q6 rfl ?_); (refine QX rfl rfl ?_)) | refine Qa rfl ?_ | refine Qh ?_ | refine Ql ?_ | refine Qm ?_ | refine Qo rfl ?_ | refine Qq rfl ?_)
  refine st_call (fun _ => rfl) rfl ?_
  refine ACalls.mono (hba _) ?_
  rintro r H' ⟨rfl, rfl⟩
  first | refine nx rfl rfl ?_ | refine nx0 ?_
  repeat' (first | ((refine Qa rfl ?_); (refine Q1 ?_); (refine QX rfl rfl ?_)) | refine Qh ?_ | refine Qs ?_)
  refine awp_ret ?_
  exact ⟨_, rfl, rfl, rfl⟩
end Go.Abs
namespace Go.Abs
section
variable {X : Nat → Prop} {f : FuncId} {rest : List AV} {r0 : AV} {v v' : Dv} {h : Hd} {l : La} {F seq : Nat} {s s' : List UInt8} {t t' : Nat}
theorem mapH_rg (q : Nat) : mapH (sh 0 q 6) (rgH v h l F seq s t) = rgH v h l F seq s t := by
  simp [mapH, rgH, devH, rgC, pkC, arB, rnO, rnL, rnA, sh, rnL_map (f := u8A) (fun _ => rfl)]
  have := rnMap_old (g := sh 0 q 6) v.old
  simpa using this
theorem rg_R (hc : ∀ X, ACalls (E0 X) f (.ptr 3 0 :: rest) (rgH v h l F seq s t) (fun r H' => r = r0 ∧ H' = rgH v' h l F seq s' t')) (hrest : IdsLtL 0 rest) (hr : IdsLt 0 r0) (R : Hp) :
    ACalls (E0 X) f (.ptr 3 0 :: rest) (rgH v h l F seq s t ++ R) (fun r H' => r = r0 ∧ H' = rgH v' h l F seq s' t' ++ R) := by
  refine ACalls.conv (ACalls.frameLR (E := E0 X) hc [] R (some_rg v h l F seq s t) ⟨by simp [IdsLt, rgH, devH], ids_mono (Nat.zero_le _) hrest⟩ (hok_rg v h l F seq s t)) ?_ ?_ ?_
  · show _ :: rnL _ rest = _
    rw [rnL_closed _ hrest]; simp [rnA, sh, rgH, devH]
  · show [] ++ mapH (sh 0 R.length 6) (rgH v h l F seq s t) ++ R = _
    rw [mapH_rg]; rfl
  · rintro r H' ⟨r1, h', ⟨rfl, rfl⟩, -, rfl, rfl⟩
    refine ⟨rn_closed _ hr, ?_⟩
    show [] ++ mapH (sh 0 R.length 6) (rgH v' h l F seq s' t') ++ R ++ [] = _
    rw [mapH_rg]; simp
theorem rg_RM (hc : ∀ X, ACalls (E0 X) f (.ptr 3 0 :: rest) (rgH v h l F seq s t) (fun r H' => r = r0 ∧ H' = rgM v' h l F seq s' t')) (hrest : IdsLtL 0 rest) (hr : IdsLt 0 r0) (R : Hp) :
    ACalls (E0 X) f (.ptr 3 0 :: rest) (rgH v h l F seq s t ++ R) (fun r H' => r = r0 ∧ H' = devH v' ++ [some (rgC h), some (pkC l F seq s'.length t' (6 + R.length)), none] ++ R ++ [some (arB s')]) := by
  refine ACalls.conv (ACalls.frameLR (E := E0 X) hc [] R (some_rg v h l F seq s t) ⟨by simp [IdsLt, rgH, devH], ids_mono (Nat.zero_le _) hrest⟩ (hok_rg v h l F seq s t)) ?_ ?_ ?_
  · show _ :: rnL _ rest = _
    rw [rnL_closed _ hrest]; simp [rnA, sh, rgH, devH]
  · show [] ++ mapH (sh 0 R.length 6) (rgH v h l F seq s t) ++ R = _
    rw [mapH_rg]; rfl
  · rintro r H' ⟨r1, h', ⟨rfl, rfl⟩, -, rfl, rfl⟩
    refine ⟨rn_closed _ hr, ?_⟩
    show [] ++ mapH (sh 0 R.length 6) (devH v' ++ [some (rgC h), some (pkC l F seq s'.length t' 6), none]) ++ R ++ mapH (sh 0 R.length 6) [some (arB s')] = _
    have e : mapH (sh 0 R.length 6) (devH v' ++ [some (rgC h), some (pkC l F seq s'.length t' 6), none]) = devH v' ++ [some (rgC h), some (pkC l F seq s'.length t' (6 + R.length)), none] := by
      simp [mapH, devH, rgC, pkC, rnO, rnL, rnA, sh, rnL_map (f := u8A) (fun _ => rfl)]
      have := rnMap_old (g := sh 0 R.length 6) v'.old
      simpa using this
    rw [e, mapH_ar]
    simp
end
end Go.Abs
namespace Go.Abs
theorem xor_eq0 {a b : Nat} (h : a ^^^ b = 0) : a = b := by
  have e : (a ^^^ b) ^^^ b = a := by rw [Nat.xor_assoc, Nat.xor_self, Nat.xor_zero]
  rw [h, Nat.zero_xor] at e
  exact e.symm
theorem bitS_lt {c : Nat} (h : c < 4294967296) : bitS c < 4294967296 := by
  unfold bitS
  have h1 : c >>> 1 < 2 ^ 32 := by rw [Nat.shiftRight_eq_div_pow]; omega
  have h2 : (if c &&& 1 = 1 then crcP else 0) < 2 ^ 32 := by split <;> decide
  exact Nat.xor_lt_two_pow h1 h2
theorem bitS_zero {c : Nat} (h : c < 4294967296) (hz : bitS c = 0) : c = 0 := by
  unfold bitS at hz
  have h1 := xor_eq0 hz
  rw [and1, Nat.shiftRight_eq_div_pow] at h1
  split at h1
  · unfold crcP at h1; omega
  · omega
theorem bitK_zero : ∀ (n : Nat) {c : Nat}, c < 4294967296 → bitK n c = 0 → c = 0
  | 0, _, _, h => h
  | n + 1, _, h, hz => bitS_zero h (bitK_zero n (bitS_lt h) hz)
theorem xor_lt32 {a b : Nat} (ha : a < 4294967296) (hb : b < 4294967296) : a ^^^ b < 4294967296 := Nat.xor_lt_two_pow (n := 32) ha hb
theorem bitK_inj {n a b : Nat} (ha : a < 4294967296) (hb : b < 4294967296) (h : bitK n a = bitK n b) : a = b := by
  have h1 : bitK n (a ^^^ b) = 0 := by rw [bitK_xor, h, Nat.xor_self]
  exact xor_eq0 (bitK_zero n (xor_lt32 ha hb) h1)
theorem bitK8_mul (v : Nat) : bitK 8 (v * 256) = v := by
  have e : v * 256 = v * 2 * 2 * 2 * 2 * 2 * 2 * 2 * 2 := by omega
  rw [e]
  simp only [bitK, bitS_two]
def foldN (c : Nat) (l : List UInt8) : Nat := l.foldl (fun c x => stepN c x.toNat) c
theorem foldN_cons (c : Nat) (x : UInt8) (l : List UInt8) : foldN c (x :: l) = foldN (stepN c x.toNat) l := rfl
theorem foldN_app (c : Nat) (a b : List UInt8) : foldN c (a ++ b) = foldN (foldN c a) b := by simp [foldN]
theorem u8_lt32 (x : UInt8) : x.toNat < 4294967296 := by have := x.toNat_lt; omega
theorem foldN_lt : ∀ (l : List UInt8) {c : Nat}, c < 4294967296 → foldN c l < 4294967296
  | [], _, h => h
  | x :: l, _, h => foldN_lt l (stepN_lt h (u8_lt32 x))
theorem stepN_inj {c d x : Nat} (hc : c < 4294967296) (hd : d < 4294967296) (hx : x < 4294967296) (h : stepN c x = stepN d x) : c = d := by
  rw [stepN_bits, stepN_bits] at h
  have h1 := bitK_inj (xor_lt32 hc hx) (xor_lt32 hd hx) h
  have h2 : (c ^^^ x) ^^^ x = (d ^^^ x) ^^^ x := by rw [h1]
  rwa [Nat.xor_assoc, Nat.xor_assoc, Nat.xor_self, Nat.xor_zero, Nat.xor_zero] at h2
theorem foldN_inj : ∀ (l : List UInt8) {c d : Nat}, c < 4294967296 → d < 4294967296 → foldN c l = foldN d l → c = d
  | [], _, _, _, _, h => h
  | x :: l, _, _, hc, hd, h => stepN_inj hc hd (u8_lt32 x) (foldN_inj l (stepN_lt hc (u8_lt32 x)) (stepN_lt hd (u8_lt32 x)) h)
theorem xor4 (a b c d : Nat) : (a ^^^ b) ^^^ (c ^^^ d) = (a ^^^ c) ^^^ (b ^^^ d) := by
  rw [Nat.xor_assoc, Nat.xor_assoc, ← Nat.xor_assoc b, Nat.xor_comm b c, Nat.xor_assoc c]
theorem step_diff (c d x y : Nat) : stepN c x ^^^ stepN d y = bitK 8 ((c ^^^ d) ^^^ (x ^^^ y)) := by
  rw [stepN_bits, stepN_bits, ← bitK_xor, xor4]
/-- Four bytes that lead from one state to one state are the same. -/
theorem four_inj {c : Nat} (hc : c < 4294967296) {x3 x2 x1 x0 y3 y2 y1 y0 : UInt8} (h : foldN c [x3, x2, x1, x0] = foldN c [y3, y2, y1, y0]) : x3 = y3 ∧ x2 = y2 ∧ x1 = y1 ∧ x0 = y0 := by
  simp only [foldN_cons] at h
  have lt : ∀ x y : UInt8, x.toNat ^^^ y.toNat < 256 := fun x y => Nat.xor_lt_two_pow (n := 8) x.toNat_lt y.toNat_lt
  have a3 := lt x3 y3
  have a2 := lt x2 y2
  have a1 := lt x1 y1
  have a0 := lt x0 y0
  have d1 := step_diff c c x3.toNat y3.toNat
  rw [Nat.xor_self, Nat.zero_xor] at d1
  have l1 : stepN c x3.toNat ^^^ stepN c y3.toNat < 4294967296 := xor_lt32 (stepN_lt hc (u8_lt32 _)) (stepN_lt hc (u8_lt32 _))
  have d2 := step_diff (stepN c x3.toNat) (stepN c y3.toNat) x2.toNat y2.toNat
  have l2 : stepN (stepN c x3.toNat) x2.toNat ^^^ stepN (stepN c y3.toNat) y2.toNat < 4294967296 := xor_lt32 (stepN_lt (stepN_lt hc (u8_lt32 _)) (u8_lt32 _)) (stepN_lt (stepN_lt hc (u8_lt32 _)) (u8_lt32 _))
  have d3 := step_diff (stepN (stepN c x3.toNat) x2.toNat) (stepN (stepN c y3.toNat) y2.toNat) x1.toNat y1.toNat
  have l3 : stepN (stepN (stepN c x3.toNat) x2.toNat) x1.toNat ^^^ stepN (stepN (stepN c y3.toNat) y2.toNat) y1.toNat < 4294967296 :=
    xor_lt32 (stepN_lt (stepN_lt (stepN_lt hc (u8_lt32 _)) (u8_lt32 _)) (u8_lt32 _)) (stepN_lt (stepN_lt (stepN_lt hc (u8_lt32 _)) (u8_lt32 _)) (u8_lt32 _))
  have d4 := step_diff (stepN (stepN (stepN c x3.toNat) x2.toNat) x1.toNat) (stepN (stepN (stepN c y3.toNat) y2.toNat) y1.toNat) x0.toNat y0.toNat
  have h' : stepN (stepN (stepN (stepN c x3.toNat) x2.toNat) x1.toNat) x0.toNat = stepN (stepN (stepN (stepN c y3.toNat) y2.toNat) y1.toNat) y0.toNat := h
  rw [h', Nat.xor_self] at d4
  generalize stepN (stepN (stepN c x3.toNat) x2.toNat) x1.toNat ^^^ stepN (stepN (stepN c y3.toNat) y2.toNat) y1.toNat = e3 at *
  generalize stepN (stepN c x3.toNat) x2.toNat ^^^ stepN (stepN c y3.toNat) y2.toNat = e2 at *
  generalize stepN c x3.toNat ^^^ stepN c y3.toNat = e1 at *
  have inj : ∀ x y : UInt8, x.toNat ^^^ y.toNat = 0 → x = y := fun x y hh => UInt8.toNat_inj.1 (xor_eq0 hh)
  generalize hz3 : x3.toNat ^^^ y3.toNat = z3 at *
  generalize hz2 : x2.toNat ^^^ y2.toNat = z2 at *
  generalize hz1 : x1.toNat ^^^ y1.toNat = z1 at *
  generalize hz0 : x0.toNat ^^^ y0.toNat = z0 at *
  have b3 : e3 = z0 := xor_eq0 (bitK_zero 8 (xor_lt32 l3 (by omega)) d4.symm)
  have b2 : e2 ^^^ z1 = e3 * 256 := bitK_inj (xor_lt32 l2 (by omega)) (by omega) (by rw [bitK8_mul]; exact d3.symm)
  have b2' : e2 = z1 ^^^ e3 * 256 := by rw [← b2, Nat.xor_comm e2, ← Nat.xor_assoc, Nat.xor_self, Nat.zero_xor]
  have m2 : e2 < 65536 := by rw [b2']; exact Nat.xor_lt_two_pow (n := 16) (by omega) (by omega)
  have b1 : e1 ^^^ z2 = e2 * 256 := bitK_inj (xor_lt32 l1 (by omega)) (by omega) (by rw [bitK8_mul]; exact d2.symm)
  have b1' : e1 = z2 ^^^ e2 * 256 := by rw [← b1, Nat.xor_comm e1, ← Nat.xor_assoc, Nat.xor_self, Nat.zero_xor]
  have m1 : e1 < 16777216 := by rw [b1']; exact Nat.xor_lt_two_pow (n := 24) (by omega) (by omega)
  have b0 : z3 = e1 * 256 := bitK_inj (by omega) (by omega) (by rw [bitK8_mul]; exact d1.symm)
  have q1 : e1 = 0 := by omega
  have q2 : z2 = e2 * 256 := by
    rw [q1] at b1'
    exact xor_eq0 b1'.symm
  have q3 : e2 = 0 := by omega
  have q4 : z1 = e3 * 256 := by
    rw [q3] at b2'
    exact xor_eq0 b2'.symm
  exact ⟨inj _ _ (by omega), inj _ _ (by omega), inj _ _ (by omega), inj _ _ (by omega)⟩
theorem putB8 (n : Nat) : putB n 8 8 = [byteAt n 56, byteAt n 48, byteAt n 40, byteAt n 32, byteAt n 24, byteAt n 16, byteAt n 8, byteAt n 0] := rfl
theorem byteAt_hi {n s : Nat} (h : n < 2 ^ s) : byteAt n s = 0 := by
  unfold byteAt
  rw [Nat.div_eq_of_lt h]
  rfl
theorem frSum_fold (s k : Nat) (b : List UInt8) : frSum s k b = foldN (foldN crcM (putB s 8 8)) (putB k 4 4 ++ b) ^^^ crcM := by
  have e : ∀ c l, updN c l = foldN (c ^^^ crcM) l ^^^ crcM := fun _ _ => rfl
  unfold frSum
  rw [e, e, Nat.zero_xor, Nat.xor_assoc, Nat.xor_self, Nat.xor_zero]
  simp only [putN, List.nil_append]
  rw [foldN_app, foldN_app]
theorem frSum_salt {s t k : Nat} {b : List UInt8} (hs : s < 4294967296) (ht : t < 4294967296) (h : frSum s k b = frSum t k b) : s = t := by
  rw [frSum_fold, frSum_fold] at h
  have hM : crcM < 4294967296 := by decide
  have h1 : foldN (foldN crcM (putB s 8 8)) (putB k 4 4 ++ b) = foldN (foldN crcM (putB t 8 8)) (putB k 4 4 ++ b) := by
    have h2 := congrArg (· ^^^ crcM) h
    simp only [Nat.xor_assoc, Nat.xor_self, Nat.xor_zero] at h2
    exact h2
  have h3 := foldN_inj _ (foldN_lt _ hM) (foldN_lt _ hM) h1
  have e : ∀ n, n < 4294967296 → putB n 8 8 = [0, 0, 0, 0] ++ [byteAt n 24, byteAt n 16, byteAt n 8, byteAt n 0] := fun n hn => by
    rw [putB8, byteAt_hi (s := 56) (by omega), byteAt_hi (s := 48) (by omega), byteAt_hi (s := 40) (by omega), byteAt_hi (s := 32) (by omega)]
    rfl
  rw [e s hs, e t ht, foldN_app, foldN_app] at h3
  obtain ⟨a, b, c, d⟩ := four_inj (foldN_lt _ hM) h3
  have hn := num4 (n := s) (by omega)
  rw [a, b, c, d, num4 (by omega)] at hn
  exact hn.symm
theorem frSum_lt (s k : Nat) (b : List UInt8) : frSum s k b < 4294967296 := updN_lt (updN_lt (by decide) _) _
theorem decF_other {k s t n : Nat} {p : List UInt8} (hp : p.length ≤ 59) (hs : s < 4294967296) (ht : t < 4294967296) (hne : s ≠ t) : decF k t n (encF k s n p) = none := by
  unfold decF
  rw [if_neg]
  rintro ⟨-, h⟩
  have hq : ((encF k s n p).drop 1).take 59 = p ++ List.replicate (59 - p.length) 0 := by
    have e : encF k s n p = UInt8.ofNat (k % 256) :: ((p ++ List.replicate (59 - p.length) 0) ++ putB (frSum s n (frB k p)) 4 4) := rfl
    rw [e]
    simp only [List.drop_succ_cons, List.drop_zero]
    exact List.take_left' (by simp; omega)
  rw [hq] at h
  simp only [encF, frB_pad hp, putN] at h
  have h2 := List.append_cancel_left h
  rw [putB4, putB4] at h2
  have h3 := congrArg numN h2
  rw [num4 (by have := frSum_lt t n (frB k p); omega), num4 (by have := frSum_lt s n (frB k p); omega)] at h3
  exact hne (frSum_salt ht hs h3).symm
theorem decF_zero {k s n : Nat} (h : k % 256 ≠ 0) : decF k s n (List.replicate 64 0) = none := by
  unfold decF
  rw [if_neg]
  rintro ⟨_, h2⟩
  have h3 := congrArg (fun l => l[0]?) h2
  have e : ∀ p, (encF k s n p)[0]? = some (UInt8.ofNat (k % 256)) := fun p => rfl
  simp only [e] at h3
  have h4 : UInt8.ofNat (k % 256) = 0 := by simpa using h3
  have h5 := congrArg UInt8.toNat h4
  rw [UInt8.toNat_ofNat'] at h5
  have h6 : k % 256 % 256 = 0 := h5
  omega
end Go.Abs
namespace Go.Abs
/-- A stream with its records. -/
inductive Strm (ver : Int) (seq : Nat) : List UInt8 → List (Nat × Rec) → Prop where
  | nil : Strm ver seq [] []
  | app {s : List UInt8} {l : List (Nat × Rec)} (r : Rec) : Strm ver seq s l → chkR ver r = 0 → Strm ver seq (s ++ encR ver seq s.length r) (l ++ [(s.length, r)])
  | pad {s : List UInt8} {l : List (Nat × Rec)} : Strm ver seq s l → Strm ver seq (padS s) l
theorem lenR_pos (r : Rec) : 0 < lenR r := by unfold lenR; omega
theorem recsF_fuel {ver : Int} {seq : Nat} {b : List UInt8} : ∀ (n m off : Nat), b.length - off ≤ n → b.length - off ≤ m → recsF ver seq b n off = recsF ver seq b m off := by
  intro n
  induction n with
  | zero =>
    intro m off hn hm
    rw [recsF_end 0 (by omega), recsF_end m (by omega)]
  | succ n ih =>
    intro m off hn hm
    rcases Nat.lt_or_ge off b.length with h | h
    · obtain ⟨m', rfl⟩ : ∃ k, m = k + 1 := ⟨m - 1, by omega⟩
      rw [recsF_off n h, recsF_off m' h]
      split
      · exact ih m' _ (by omega) (by omega)
      · cases hd : decR ver seq off (b.drop off) with
        | none => rfl
        | some r =>
          have := lenR_pos r
          simp only
          rw [ih m' (off + lenR r) (by omega) (by omega)]
    · rw [recsF_end _ h, recsF_end _ h]
def recG (ver : Int) (seq : Nat) (b : List UInt8) (off : Nat) : List (Nat × Rec) := recsF ver seq b b.length off
theorem recG_end {ver : Int} {seq : Nat} {b : List UInt8} {off : Nat} (h : b.length ≤ off) : recG ver seq b off = [] := recsF_end _ h
theorem recG_pad {ver : Int} {seq : Nat} {b : List UInt8} {off : Nat} (h : b[off]? = some 0) : recG ver seq b off = recG ver seq b ((off / 59 + 1) * 59) := by
  have hl : off < b.length := (List.getElem?_eq_some_iff.1 h).1
  unfold recG
  obtain ⟨n, hn⟩ : ∃ k, b.length = k + 1 := ⟨b.length - 1, by omega⟩
  rw [hn, recsF_off n hl, if_pos h]
  exact recsF_fuel n (n + 1) _ (by omega) (by omega)
theorem recG_rec {ver : Int} {seq : Nat} {b : List UInt8} {off : Nat} {x : UInt8} (h : b[off]? = some x) (hx : x ≠ 0) : recG ver seq b off = match decR ver seq off (b.drop off) with
    | none => []
    | some r => (off, r) :: recG ver seq b (off + lenR r) := by
  have hl : off < b.length := (List.getElem?_eq_some_iff.1 h).1
  unfold recG
  obtain ⟨n, hn⟩ : ∃ k, b.length = k + 1 := ⟨b.length - 1, by omega⟩
  rw [hn, recsF_off n hl, if_neg (by rw [h]; simpa using hx)]
  cases hd : decR ver seq off (b.drop off) with
  | none => rfl
  | some r =>
    have := lenR_pos r
    simp only
    rw [recsF_fuel n (n + 1) (off + lenR r) (by omega) (by omega)]
theorem encR_first (ver : Int) (seq off : Nat) (r : Rec) (z : List UInt8) : ∃ x, (encR ver seq off r ++ z)[0]? = some x ∧ x ≠ 0 := by
  by_cases h1 : ver = 1
  · have e : encR ver seq off r ++ z = enc1l r.kind.toNat r.key.length r.val.length r.exp.toNat (sumR ver seq off r) (r.key ++ r.val ++ z) := by
      rw [← enc1_eq, ← h1]; simp [encR, headR]
    rw [e]
    exact ⟨161, rfl, by decide⟩
  · have e : encR ver seq off r ++ z = enc2l r.kind.toNat r.key.length r.val.length r.exp.toNat (sumR ver seq off r) (r.key ++ r.val ++ z) := by
      rw [← enc2_eq h1]; simp [encR, headR]
    rw [e]
    exact ⟨162, rfl, by decide⟩
theorem at_app {s z : List UInt8} {x : UInt8} (h : z[0]? = some x) : (s ++ z)[s.length]? = some x := by
  rw [List.getElem?_append_right (Nat.le_refl _), Nat.sub_self]; exact h
theorem Strm.fwd {ver : Int} {seq : Nat} {s : List UInt8} {l : List (Nat × Rec)} (h : Strm ver seq s l) : ∀ z, recG ver seq (s ++ z) 0 = l ++ recG ver seq (s ++ z) s.length := by
  induction h with
  | nil => intro z; rfl
  | @app s l r h hc ih =>
    intro z
    have h1 := ih (encR ver seq s.length r ++ z)
    obtain ⟨x, hx, hx0⟩ := encR_first ver seq s.length r z
    have h2 := recG_rec (ver := ver) (seq := seq) (at_app (s := s) hx) hx0
    rw [List.drop_left, decR_encR hc] at h2
    simp only at h2
    rw [List.append_assoc, h1, h2, List.length_append, encR_len]
    simp
  | @pad s l h ih =>
    intro z
    by_cases hk : (59 - s.length % 59) % 59 = 0
    · have e : padS s = s := by simp [padS, hk]
      rw [e]; exact ih z
    · have h1 := ih (List.replicate ((59 - s.length % 59) % 59) 0 ++ z)
      have h0 : (List.replicate ((59 - s.length % 59) % 59) (0 : UInt8) ++ z)[0]? = some 0 := by
        rw [List.getElem?_append_left (by simp; omega), List.getElem?_replicate, if_pos (by omega)]
      have h2 := recG_pad (ver := ver) (seq := seq) (at_app (s := s) h0)
      have e : padS s ++ z = s ++ (List.replicate ((59 - s.length % 59) % 59) 0 ++ z) := by simp [padS]
      rw [e, h1, h2]
      have e2 : (padS s).length = (s.length / 59 + 1) * 59 := by
        simp only [padS, List.length_append, List.length_replicate]
        omega
      rw [e2]
/-- The records of a whole stream. -/
theorem Strm.all {ver : Int} {seq : Nat} {s : List UInt8} {l : List (Nat × Rec)} (h : Strm ver seq s l) : recs ver seq s = l := by
  have h1 := h.fwd []
  rw [List.append_nil, recG_end (Nat.le_refl _), List.append_nil] at h1
  exact h1
theorem Strm.mem {ver : Int} {seq : Nat} {s : List UInt8} {l : List (Nat × Rec)} (h : Strm ver seq s l) : ∀ p ∈ l, p.1 + lenR p.2 ≤ s.length := by
  induction h with
  | nil => intro p hp; simp at hp
  | @app s l r h hc ih =>
    intro p hp
    rw [List.length_append, encR_len]
    rcases List.mem_append.1 hp with h1 | h1
    · have := ih p h1; omega
    · simp at h1
      subst h1
      exact Nat.le_refl _
  | @pad s l h ih =>
    intro p hp
    have := ih p hp
    simp only [padS, List.length_append]; omega
theorem Strm.mem_le {ver : Int} {seq : Nat} {s : List UInt8} {l : List (Nat × Rec)} (h : Strm ver seq s l) : ∀ p ∈ l, chkR ver p.2 = 0 := by
  induction h with
  | nil => intro p hp; simp at hp
  | @app s l r h hc ih =>
    intro p hp
    rcases List.mem_append.1 hp with h1 | h1
    · exact ih p h1
    · simp at h1
      subst h1
      exact hc
  | @pad s l h ih => exact ih
/-- A record that is cut is none. -/
theorem decR_cut {ver : Int} {seq off : Nat} {r : Rec} (h : chkR ver r = 0) {q : Nat} (hq : q < lenR r) : decR ver seq off ((encR ver seq off r).take q) = none := by
  cases hd : decR ver seq off ((encR ver seq off r).take q) with
  | none => rfl
  | some r2 =>
    exfalso
    obtain ⟨h1, h2, h3⟩ := decR_len hd
    rw [List.length_take, encR_len] at h1
    rw [List.take_take, Nat.min_eq_left (by omega)] at h3
    have e : encR ver seq off r = encR ver seq off r2 ++ (encR ver seq off r).drop (lenR r2) := by rw [h3, List.take_append_drop]
    have d1 := decR_encR (seq := seq) (off := off) h2 ((encR ver seq off r).drop (lenR r2))
    rw [← e] at d1
    have d2 := decR_encR (seq := seq) (off := off) h []
    rw [List.append_nil, d1] at d2
    injection d2 with d2
    subst d2
    omega
/-- A stream that is cut behind a frame holds a prefix of the records, and all that lie before the cut. -/
theorem Strm.cut {ver : Int} {seq : Nat} {s : List UInt8} {l : List (Nat × Rec)} (h : Strm ver seq s l) : ∀ p, p % 59 = 0 → p ≤ s.length →
    ∃ k, k ≤ l.length ∧ recs ver seq (s.take p) = l.take k ∧ ∀ (i : Nat) (q : Nat × Rec), l[i]? = some q → q.1 + lenR q.2 ≤ p → i < k := by
  induction h with
  | nil => intro p _ hp; exact ⟨0, Nat.le_refl _, by simp [recs, recsF], fun i q h => by simp at h⟩
  | @app s l r h hc ih =>
    intro p hp hle
    rw [List.length_append, encR_len] at hle
    have hpos := lenR_pos r
    rcases Nat.lt_or_ge s.length p with h1 | h1
    · have e : (s ++ encR ver seq s.length r).take p = s ++ (encR ver seq s.length r).take (p - s.length) := by
        rw [List.take_append, List.take_of_length_le (by omega)]
      rcases Nat.lt_or_ge (p - s.length) (lenR r) with h2 | h2
      · refine ⟨l.length, by simp, ?_, ?_⟩
        · have h3 := h.fwd ((encR ver seq s.length r).take (p - s.length))
          obtain ⟨x, hx, hx0⟩ := encR_first ver seq s.length r []
          rw [List.append_nil] at hx
          have hx2 : ((encR ver seq s.length r).take (p - s.length))[0]? = some x := by rw [List.getElem?_take, if_pos (by omega)]; exact hx
          have h4 := recG_rec (ver := ver) (seq := seq) (at_app (s := s) hx2) hx0
          rw [List.drop_left, decR_cut hc h2] at h4
          rw [e]
          show recG ver seq _ 0 = _
          rw [h3, h4]
          simp
        · intro i q hi hq
          rcases Nat.lt_or_ge i l.length with h3 | h3
          · exact h3
          · exfalso
            rw [List.getElem?_append_right h3] at hi
            obtain ⟨h4, h5⟩ := List.getElem?_eq_some_iff.1 hi
            simp at h4
            have : q = (s.length, r) := by rw [← h5]; simp
            subst this
            simp only at hq
            omega
      · have e2 : (s ++ encR ver seq s.length r).take p = s ++ encR ver seq s.length r := List.take_of_length_le (by rw [List.length_append, encR_len]; omega)
        refine ⟨l.length + 1, by simp, ?_, ?_⟩
        · rw [e2, (Strm.app r h hc).all, List.take_of_length_le (by simp)]
        · intro i q hi _
          have := (List.getElem?_eq_some_iff.1 hi).1
          simp at this
          omega
    · obtain ⟨k, k1, k2, k3⟩ := ih p hp h1
      refine ⟨k, by rw [List.length_append]; omega, ?_, ?_⟩
      · rw [List.take_append_of_le_length h1, k2, List.take_append_of_le_length k1]
      · intro i q hi hq
        rcases Nat.lt_or_ge i l.length with h3 | h3
        · rw [List.getElem?_append_left h3] at hi
          exact k3 i q hi hq
        · exfalso
          rw [List.getElem?_append_right h3] at hi
          obtain ⟨h4, h5⟩ := List.getElem?_eq_some_iff.1 hi
          simp at h4
          have : q = (s.length, r) := by rw [← h5]; simp
          subst this
          simp only at hq
          omega
  | @pad s l h ih =>
    intro p hp hle
    rcases Nat.lt_or_ge s.length p with h1 | h1
    · have hl : (padS s).length = p := by
        have := padS_len s
        simp only [padS, List.length_append, List.length_replicate] at this hle ⊢
        omega
      refine ⟨l.length, Nat.le_refl _, ?_, fun i q hi _ => (List.getElem?_eq_some_iff.1 hi).1⟩
      rw [List.take_of_length_le (by omega), (Strm.pad h).all, List.take_length]
    · obtain ⟨k, k1, k2, k3⟩ := ih p hp h1
      refine ⟨k, k1, ?_, k3⟩
      rw [padS, List.take_append_of_le_length h1, k2]
end Go.Abs
namespace Go.Abs
def putI (img : List UInt8) (k : Nat) (b : List UInt8) : List UInt8 := img.take (k * 64) ++ b ++ img.drop (k * 64 + 64)
theorem putI_len {img : List UInt8} {k : Nat} {b : List UInt8} (hk : k * 64 + 64 ≤ img.length) (hb : b.length = 64) : (putI img k b).length = img.length := by
  simp [putI, hb]; omega
theorem put_image (v : Dv) (k : Nat) {b : List UInt8} (hb : b.length = 64) : (v.put k b).image = putI v.image k b := by
  simp [Dv.put, hb, putI]
theorem sec_putI {img : List UInt8} {k j : Nat} {b : List UInt8} (hk : k * 64 + 64 ≤ img.length) (hb : b.length = 64) (hj : j * 64 + 64 ≤ img.length) :
    ((putI img k b).drop (j * 64)).take 64 = if j = k then b else (img.drop (j * 64)).take 64 := by
  have h := sec_put (v := Dv.fresh img) (k := k) (j := j) hk hb hj
  rw [put_image _ _ hb] at h
  exact h
/-- What lies in the sectors: the header, and t frames of the stream. -/
structure RgI (img : List UInt8) (L : Nat) (h : Hd) (F seq : Nat) (s : List UInt8) (t : Nat) : Prop where
  len : img.length = L
  tle : t * 59 ≤ s.length
  sec : ∀ j, j * 64 + 64 ≤ L → (img.drop (j * 64)).take 64 = if j = F then encH h F else if F < j ∧ j < F + 1 + t then frN F seq s (j - F - 1) else List.replicate 64 0
theorem RgI.open {L : Nat} {h : Hd} {F seq : Nat} (hF : F * 64 + 64 ≤ L) : RgI (putI (List.replicate L 0) F (encH h F)) L h F seq [] 0 where
  len := by rw [putI_len (by simpa using hF) (encH_len _ _)]; simp
  tle := Nat.le_refl _
  sec := fun j hj => by
    rw [sec_putI (by simpa using hF) (encH_len _ _) (by simpa using hj)]
    by_cases h1 : j = F
    · rw [if_pos h1, if_pos h1]
    · rw [if_neg h1, if_neg h1, if_neg (by omega), List.drop_replicate, List.take_replicate, Nat.min_eq_left (by omega)]
theorem frN_more {F seq t : Nat} {s : List UInt8} (h : (t + 1) * 59 ≤ s.length) (z : List UInt8) : frN F seq (s ++ z) t = frN F seq s t := by
  unfold frN
  rw [List.drop_append_of_le_length (by omega), List.take_append_of_le_length (by rw [List.length_drop]; omega)]
theorem RgI.more {img : List UInt8} {L : Nat} {h : Hd} {F seq t : Nat} {s : List UInt8} (g : RgI img L h F seq s t) (z : List UInt8) : RgI img L h F seq (s ++ z) t where
  len := g.len
  tle := by have := g.tle; rw [List.length_append]; omega
  sec := fun j hj => by
    rw [g.sec j hj]
    have := g.tle
    split
    · rfl
    split
    · rw [frN_more (by omega)]
    · rfl
theorem RgI.frame {img : List UInt8} {L : Nat} {h : Hd} {F seq t : Nat} {s : List UInt8} (g : RgI img L h F seq s t) (ht : (t + 1) * 59 ≤ s.length) (hF : (F + 1 + t) * 64 + 64 ≤ L) : RgI (putI img (F + 1 + t) (frN F seq s t)) L h F seq s (t + 1) where
  len := by rw [putI_len (by rw [g.len]; exact hF) frN_len]; exact g.len
  tle := ht
  sec := fun j hj => by
    rw [sec_putI (by rw [g.len]; exact hF) frN_len (by rw [g.len]; exact hj)]
    by_cases h1 : j = F + 1 + t
    · subst h1
      rw [if_pos rfl, if_neg (by omega), if_pos (by omega)]
      congr 1
      omega
    · rw [if_neg h1, g.sec j hj]
      split
      · rfl
      by_cases h2 : F < j ∧ j < F + 1 + t
      · rw [if_pos h2, if_pos (by omega)]
      · rw [if_neg h2, if_neg (by omega)]
theorem RgI.step {L : Nat} {h : Hd} {F seq t : Nat} {s : List UInt8} {v : Dv} (n : Nat) (ih : RgI (dfN v F seq s t n).image L h F seq s (t + n)) (h1 : (t + n + 1) * 59 ≤ s.length) (h2 : (F + 1 + (t + n)) * 64 + 64 ≤ L) : RgI (dfN v F seq s t (n + 1)).image L h F seq s (t + (n + 1)) := by
  have e : dfN v F seq s t (n + 1) = (dfN v F seq s t n).put (F + 1 + t + n) (frN F seq s (t + n)) := rfl
  rw [e, put_image _ _ (frN_len (F := F) (seq := seq) (s := s) (t := t + n)), show F + 1 + t + n = F + 1 + (t + n) by omega]
  exact RgI.frame ih h1 h2
theorem RgI.frames {L : Nat} {h : Hd} {F seq t : Nat} {s : List UInt8} {v : Dv} (g : RgI v.image L h F seq s t) (n : Nat) (ht : (t + n) * 59 ≤ s.length) (hF : (F + 1 + t + n) * 64 ≤ L) : RgI (dfN v F seq s t n).image L h F seq s (t + n) := by
  have key : ∀ k, k ≤ n → RgI (dfN v F seq s t k).image L h F seq s (t + k) := by
    intro k
    induction k with
    | zero => exact fun _ => g
    | succ k ih =>
      intro hk
      have a1 := ih (Nat.le_of_succ_le hk)
      clear ih
      exact RgI.step k a1 (by omega) (by omega)
  exact key n (Nat.le_refl _)
theorem secB_in {img : List UInt8} {j : Nat} (h : j * 64 + 64 ≤ img.length) : secB img (j : Int) = (img.drop (j * 64)).take 64 := by
  unfold secB
  rw [if_neg (by omega), Int.toNat_natCast]
theorem frN_dec {F seq t : Nat} {s : List UInt8} (h : (t + 1) * 59 ≤ s.length) : decF 2 seq (F + 1 + t) (frN F seq s t) = some ((s.drop (t * 59)).take 59) := by
  have hl : ((s.drop (t * 59)).take 59).length = 59 := by simp; omega
  unfold frN
  rw [decF_encF (by omega), hl]
  simp
theorem frN_other {F seq seq2 t : Nat} {s : List UInt8} (h1 : seq < 4294967296) (h2 : seq2 < 4294967296) (hne : seq ≠ seq2) : decF 2 seq2 (F + 1 + t) (frN F seq s t) = none :=
  decF_other (by simp; omega) h1 h2 hne
theorem take_more (s : List UInt8) (t n : Nat) : (s.drop (t * 59)).take 59 ++ (s.drop ((t + 1) * 59)).take (n * 59) = (s.drop (t * 59)).take ((n + 1) * 59) := by
  have e : (s.drop ((t + 1) * 59)) = (s.drop (t * 59)).drop 59 := by rw [List.drop_drop]; congr 1; omega
  rw [e, show (n + 1) * 59 = 59 + n * 59 by omega, List.take_add]
/-- The stream that is read. -/
theorem strR_rg {img : List UInt8} {L : Nat} {h : Hd} {F seq t : Nat} {s : List UInt8} (g : RgI img L h F seq s t) : ∀ m i, i ≤ t → t ≤ i + m → (F + 1 + i + m) * 64 ≤ L → strR img seq m (F + 1 + i) = (s.drop (i * 59)).take ((t - i) * 59)
  | 0, i, h1, h2, _ => by
    have : t - i = 0 := by omega
    rw [this, Nat.zero_mul, List.take_zero]
    rfl
  | m + 1, i, h1, h2, hL => by
    have e2 : strR img seq (m + 1) (F + 1 + i) = match decF 2 seq (F + 1 + i) (secB img ((F + 1 + i : Nat) : Int)) with
        | none => []
        | some p => p ++ strR img seq m (F + 1 + i + 1) := rfl
    have htle := g.tle
    rw [e2, secB_in (by rw [g.len]; omega), g.sec _ (by omega), if_neg (by omega)]
    by_cases h3 : i < t
    · rw [if_pos (by omega), show F + 1 + i - F - 1 = i by omega, frN_dec (by omega)]
      simp only
      have ih := strR_rg g m (i + 1) (by omega) (by omega) (by omega)
      rw [show F + 1 + i + 1 = F + 1 + (i + 1) by omega, ih, show (t - i) * 59 = ((t - (i + 1)) + 1) * 59 by omega]
      exact take_more s i (t - (i + 1))
    · have h4 : t - i = 0 := by omega
      rw [if_neg (by omega), decF_zero (by decide), h4]
      simp
theorem strR_none {img : List UInt8} {L : Nat} {h : Hd} {F seq seq2 t : Nat} {s : List UInt8} (g : RgI img L h F seq s t) (h1 : seq < 4294967296) (h2 : seq2 < 4294967296) (hne : seq ≠ seq2) {m : Nat} (hL : (F + 1 + m) * 64 ≤ L) : strR img seq2 m (F + 1) = [] := by
  cases m with
  | zero => rfl
  | succ m =>
    have e2 : strR img seq2 (m + 1) (F + 1) = match decF 2 seq2 (F + 1) (secB img ((F + 1 : Nat) : Int)) with
        | none => []
        | some p => p ++ strR img seq2 m (F + 1 + 1) := rfl
    rw [e2, secB_in (by rw [g.len]; omega), g.sec _ (by omega), if_neg (by omega)]
    by_cases h3 : 0 < t
    · have h4 := frN_other (F := F) (t := 0) (s := s) h1 h2 hne
      rw [if_pos (by omega), show F + 1 - F - 1 = 0 by omega]
      rw [show F + 1 = F + 1 + 0 from rfl, h4]
    · rw [if_neg (by omega), decF_zero (by decide)]
/-- The header that is read. -/
theorem hdr_rg {img : List UInt8} {L : Nat} {h : Hd} {F seq t : Nat} {s : List UInt8} (g : RgI img L h F seq s t) {l : La} (hs : slotOk l h.slot) (hb : hdB h = true) (h1 : h.ver = l.ver) (h2 : h.lay = l.id) (hF : 74 + h.slot * l.rs = (F : Int)) (hL : F * 64 + 64 ≤ L) : hdrR img l h.slot = some h := by
  unfold hdrR
  rw [if_pos (show formB l = true ∧ 0 ≤ h.slot ∧ h.slot < l.regs from hs), hF, secB_in (by rw [g.len]; exact hL), g.sec F hL, if_pos rfl, Int.toNat_natCast, decH_encH hb]
  exact if_pos ⟨h1, h2, rfl⟩
end Go.Abs

