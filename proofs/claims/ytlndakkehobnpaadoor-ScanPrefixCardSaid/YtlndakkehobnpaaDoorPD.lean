/- Records: Decode, by the reference. Printed by a program. Joined texts, each with what its own name promises; no condition beyond those stated. -/
import Derived.Test.YtlndakkehobnpaaDoorPC
import Derived.Test.YtlndakkehobnpaaDoorPA
namespace Go.Abs
attribute [local irreducible] AStep aops AWp Nx awM
end Go.Abs
namespace Go.Abs
theorem strF_len (v : Dv) (seq : Nat) : ∀ n s, (strF v seq n s).length ≤ 59 * n
  | 0, _ => by simp [strF]
  | n + 1, s => by
    unfold strF
    split
    · simp
    split
    · simp
    · rename_i p hp
      have := (decF_len hp).1
      have := strF_len v seq n (s + 1)
      rw [List.length_append]
      omega
theorem oneEs_fo (l : List (Nat × Rec)) : OneEs (l.map foA) := fun y hy => by
  obtain ⟨b, _, rfl⟩ := List.mem_map.1 hy; exact ⟨rfl, rfl⟩
theorem pad_wrap {off : Nat} (h : off ≤ 2000000) : IntKind.i64.wrap ((off : Int) + IntKind.i64.wrap (59 - Int.tmod (off : Int) 59)) = (((off / 59 + 1) * 59 : Nat) : Int) := by
  have hr : Int.tmod (off : Int) 59 = ((off % 59 : Nat) : Int) := rfl
  have hs : IntKind.i64.wrap (59 - ((off % 59 : Nat) : Int)) = ((59 - off % 59 : Nat) : Int) := wrap_eq (by omega) (by omega) (by omega)
  rw [hr, hs]
  exact wrap_eq (by omega) (by omega) (by omega)
theorem recsF_off {ver : Int} {seq : Nat} {b : List UInt8} (n : Nat) {off : Nat} (h : off < b.length) : recsF ver seq b (n + 1) off = if b[off]? = some 0 then recsF ver seq b n ((off / 59 + 1) * 59) else match decR ver seq off (b.drop off) with
    | none => []
    | some r => (off, r) :: recsF ver seq b n (off + lenR r) := by
  have h' : ¬ b.length ≤ off := by omega
  conv => lhs; unfold recsF
  rw [if_neg h']
  split
  · rfl
  · cases decR ver seq off (b.drop off) <;> rfl
theorem recsF_end {ver : Int} {seq : Nat} {b : List UInt8} (n : Nat) {off : Nat} (h : b.length ≤ off) : recsF ver seq b n off = [] := by
  cases n with
  | zero => rfl
  | succ n => exact if_pos h
theorem hok_fo (v : Dv) (l : List (Nat × Rec)) : HOk 4 (devH v ++ [some (.arr (l.map foA) 88)]) := fun j o ho => by
  match j, ho with
  | 0, ho => cases ho; exact ⟨by simp [IdsLt], by simp [IdsLt], trivial, trivial, trivial, trivial⟩
  | 1, ho => cases ho; exact idsL_map fun _ => u8A_ids
  | 2, ho => cases ho; exact ⟨by rw [List.map_map]; exact idsL_map fun _ => trivial, by rw [List.map_map]; exact idsL_map fun p => (idsL_map (f := u8A) fun _ => u8A_ids : IdsLtL _ (p.2.map u8A))⟩
  | 3, ho => cases ho; exact idsL_map fun _ => foA_ids
attribute [local irreducible] AStep aops AWp Nx awM
set_option maxHeartbeats 0 in
set_option maxRecDepth 100000 in
theorem sregion_c (X : Nat → Prop) (v : Dv) (hv : v.Inv) (l : La) (slot : Int) (seq : Nat) (h : slotOk l slot) (hs1 : 1 ≤ seq) (hs2 : seq ≤ 281474976710655) :
    ACalls (E0 X) 45 [.ptr 0 0, laA l, .int .i64 slot, .int .i64 (seq : Int)] (devH v) (fun r H' => r = .sl 6 ((recs l.ver seq (strF v seq (l.rs.toNat - 1) ((74 + slot * l.rs).toNat + 1))).map foA) ∧ H' = devH v) := by
  refine ACalls.frzD (e := 88) 6 ?_ rfl rfl (idsL_map fun _ => foA_ids)
  have hcap := fun X => capacity_c X l
  have hst := stream_c X v hv l slot seq h hs1 hs2
  have hsl := strF_len v seq (l.rs.toNat - 1) ((74 + slot * l.rs).toNat + 1)
  have hrs := form_rs h.1
  have hbl : (strF v seq (l.rs.toNat - 1) ((74 + slot * l.rs).toNat + 1)).length ≤ 130000 := by omega
  generalize strF v seq (l.rs.toNat - 1) ((74 + slot * l.rs).toNat + 1) = b at *
  clear hsl
  have hbm : (b.map u8A).length = b.length := List.length_map _
  generalize htot : recs l.ver seq b = tot
  show ACalls (E0 X) 45 [.ptr 0 0, .agg [.int .i64 l.id, .int .i64 l.ver, .int .i64 l.rs, .int .i64 l.regs], .int .i64 slot, .int .i64 (seq : Int)] (devH v) _
  refine acalls_of Proofs.Tryd.func45 rfl Proofs.Tryd.ntmps45 (by kernel_rfl) rfl ?_
  intro hH hargs
  clear hH hargs
  repeat' (first | ((refine Qa rfl ?_); (first | refine Q1 ?_ | refine QK rfl ?_); (refine QX rfl rfl ?_)) | refine Qh ?_ | refine Ql ?_ | refine Qo rfl ?_)
  refine awp_pre (Imp.trans (imp_freezeP (id := 3) (cs := [.int .i64 l.id, .int .i64 l.ver, .int .i64 l.rs, .int .i64 l.regs]) rfl) (imp_cutk 3 (Nat.le_refl _) (hok_dev v) rfl (by simp [devH]) (sl' := [(0, .ptr 0 0), (2, .int .i64 slot), (3, .int .i64 (seq : Int)), (5, .fp [.int .i64 l.id, .int .i64 l.ver, .int .i64 l.rs, .int .i64 l.regs]), (8, .nils)]) ?_)) ?_
  · repeat' (first | exact fa_nil | refine fa_cons ⟨?_, ?_⟩ ?_)
    all_goals (try first | exact rfl | exact trivial | (simp [IdsLt, IdsLtL]; done) | (simp [get_cons]; done) | (simp [get_cons, *]; done) | (refine congrArg (AV.int .i64) (wrap_eq ?_ ?_ ?_) <;> (first | omega | (simp; omega))))
  refine awp_region_auto2 [] [] (by exact rfl) (by kernel_rfl) ?_
  repeat' ((apply Qd rfl rfl rfl rfl); (first | refine Q0 ?_ | refine Q3 rfl rfl rfl ?_); (exact QX rfl rfl ⟨rfl, rfl⟩))
  apply ds rfl rfl rfl rfl
  · refine st_call (fun _ => rfl) rfl ?_
    refine ACalls.mono (acalls_pure (E := E0 X) hcap (by simp [IdsLtL, IdsLt]) _) ?_
    rintro r H' ⟨rfl, rfl⟩
    first
    | exact nx rfl rfl ⟨rfl, rfl⟩
    | exact nx0 ⟨rfl, rfl⟩
  skip
  apply ds rfl rfl rfl rfl
  · refine st_call (fun _ => rfl) rfl ?_
    refine ACalls.mono (hst) ?_
    rintro r H' ⟨rfl, rfl⟩
    first
    | exact nx rfl rfl ⟨rfl, rfl⟩
    | exact nx0 ⟨rfl, rfl⟩
  repeat' (first | ((first | refine Qa rfl ?_ | apply Qd rfl rfl rfl rfl); (first | refine Q0 ?_ | refine Q1 ?_ | refine QC rfl rfl ?_); (first | exact QX rfl rfl ⟨rfl, rfl⟩ | refine QX rfl rfl ?_)) | refine Qh ?_ | refine Qk ?_ | refine Ql ?_ | refine Qn ?_ | refine Qo rfl ?_)
  refine awp_loop2 (fun p : Nat × Nat × List (Nat × Rec) => ⟨[(0, .ptr 0 0), (3, .int .i64 (seq : Int)), (5, .fp [.int .i64 l.id, .int .i64 l.ver, .int .i64 l.rs, .int .i64 l.regs]), (9, .sl 1 (b.map u8A)), (11, .own 3 0 p.2.2.length), (12, .int .i64 (p.2.1 : Int))], devH v ++ [some (.arr (p.2.2.map foA) 88)]⟩)
    (fun p => p.2.1 ≤ b.length + 59 ∧ p.2.2.length ≤ p.2.1 ∧ b.length ≤ p.1 + p.2.1 ∧ p.2.2 ++ recsF l.ver seq b p.1 p.2.1 = tot) (fun p => p.1) (b.length, 0, []) ⟨Nat.zero_le _, Nat.le_refl _, by show b.length ≤ b.length + 0; omega, htot⟩ ?_ ?_
  · refine Imp.trans (imp_nil 11 88 rfl) (imp_cutk 4 (by simp [devH]) (hok_fo v []) rfl (by simp [devH]) ?_)
    repeat' (first | exact fa_nil | refine fa_cons ⟨?_, ?_⟩ ?_)
    all_goals (try first | exact rfl | exact trivial | (simp [IdsLt, IdsLtL]; done) | (simp [get_cons]; done) | (simp [get_cons, *]; done) | (refine congrArg (AV.int .i64) (wrap_eq ?_ ?_ ?_) <;> (first | omega | (simp; omega))))
  rintro ⟨n, off, out⟩ ⟨ho0, hl0, hf0, ht0⟩
  have ho : off ≤ b.length + 59 := ho0
  have hol : out.length ≤ off := hl0
  have hfu : b.length ≤ n + off := hf0
  have ht : out ++ recsF l.ver seq b n off = tot := ht0
  clear ho0 hl0 hf0 ht0
  show AWp _ _ _ _ _ ⟨[(0, .ptr 0 0), (3, .int .i64 (seq : Int)), (5, .fp [.int .i64 l.id, .int .i64 l.ver, .int .i64 l.rs, .int .i64 l.regs]), (9, .sl 1 (b.map u8A)), (11, .own 3 0 out.length), (12, .int .i64 (off : Int))], devH v ++ [some (.arr (out.map foA) 88)]⟩
  have hpw := pad_wrap (off := off) (by omega)
  repeat' (first | ((refine Qa rfl ?_); (first | refine Q0 ?_ | refine Q2 rfl ?_ | refine Q7 rfl rfl rfl ?_); (refine QX rfl rfl ?_)) | refine Qh ?_ | refine Ql ?_ | refine Qo rfl ?_ | refine Qs ?_)
  by_cases hlt : off < b.length
  · rw [decide_eq_true (show (off : Int) < ((b.map u8A).length : Int) by omega)]
    obtain ⟨n, rfl⟩ : ∃ k, n = k + 1 := ⟨n - 1, by omega⟩
    rw [recsF_off n hlt] at ht
    obtain ⟨x, hx⟩ : ∃ x, b[off]? = some x := ⟨_, List.getElem?_eq_getElem hlt⟩
    rw [hx] at ht
    repeat' (first | ((refine Qa rfl ?_); (refine Q0 ?_); (refine QX rfl rfl ?_)) | refine Qa rfl ?_ | refine Ql ?_ | refine Qm ?_ | refine Qn ?_ | refine Qo rfl ?_ | refine Qp rfl ?_)
    refine st_ixm hx rfl rfl rfl rfl rfl rfl rfl (by first | rfl | omega) rfl ?_
    first | refine nx rfl rfl ?_ | refine nx0 ?_
    repeat' (first | ((refine Qa rfl ?_); (first | refine Q2 rfl ?_ | refine Q3 rfl rfl rfl ?_); (refine QX rfl rfl ?_)) | refine Qh ?_ | refine Qs ?_)
    by_cases hx0 : x = 0
    · rw [if_pos (by rw [hx0])] at ht
      rw [decide_eq_true (show (x.toNat : Int) = 0 by rw [hx0]; rfl)]
      repeat' (first | ((refine Qa rfl ?_); (first | refine Q0 ?_ | refine Q1 ?_ | refine Q2 rfl ?_ | refine QB rfl rfl (by decide) ?_); (refine QX rfl rfl ?_)) | refine Qh ?_ | refine Ql ?_ | refine Qo rfl ?_ | refine Qp rfl ?_ | refine Qr ?_ | refine Qs ?_ | refine Qt ?_ | refine Qv ?_)
      rw [hpw]
      refine ⟨(n, (off / 59 + 1) * 59, out), ⟨by show (off / 59 + 1) * 59 ≤ b.length + 59; omega, by show out.length ≤ (off / 59 + 1) * 59; omega, by show b.length ≤ n + (off / 59 + 1) * 59; omega, ht⟩, Nat.lt_succ_self n, ?_⟩
      refine imp_cutk 4 (by simp [devH]) (hok_fo v out) rfl (by simp [devH]) ?_
      repeat' (first | exact fa_nil | refine fa_cons ⟨?_, ?_⟩ ?_)
      all_goals (try first | exact rfl | exact trivial | (simp [IdsLt, IdsLtL]; done) | (simp [get_cons]; done) | (simp [get_cons, *]; done) | (refine congrArg (AV.int .i64) (wrap_eq ?_ ?_ ?_) <;> (first | omega | (simp; omega))))
    rw [if_neg (fun e => hx0 (Option.some.inj e))] at ht
    rw [decide_eq_false (show ¬ (x.toNat : Int) = 0 from fun e => hx0 (UInt8.toNat_inj.1 (by simpa using e)))]
    have hde := fun X => rdec_c X l.ver seq off (b.drop off) (by omega) (by omega) (by rw [List.length_drop]; omega)
    have hlr : ∀ r, decR l.ver seq off (b.drop off) = some r → off + lenR r ≤ b.length := fun r hr => by
      have := (decR_len hr).1
      rw [List.length_drop] at this
      omega
    repeat' (first | refine Ql ?_ | refine Qm ?_ | refine Qq rfl ?_)
    cases hd : decR l.ver seq off (b.drop off) with
    | none =>
      rw [hd] at ht hde
      have ho2 : out = tot := by rw [← ht, List.append_nil]
      have hde2 : ∀ X, ACalls (E0 X) 85 [.int .i64 l.ver, .int .i64 (seq : Int), .int .i64 (off : Int), .sl 1 ((b.drop off).map u8A)] [] (fun r H' => r = .tup [.agg [.int .i64 0, .nils, .nils, .int .i64 0], .int .i64 0, .bool false] ∧ H' = []) := hde
      refine awp_region_any [12, 13] [0, 1, 2, 3, 4, 5, 6, 7, 8, 9, 10, 11, 14, 15] (by exact rfl) ?_
      refine any_lin (fuel := 0) [0, 1, 2, 3, 4, 5, 6, 7, 8, 9, 10, 11, 12, 13, 14, 15] (by exact rfl) (by kernel_rfl) (by kernel_rfl) ?_
      repeat' ((apply Qe rfl rfl rfl rfl; intro H9); (first | refine Q0 ?_ | refine Q3 rfl rfl rfl ?_ | refine Q4 rfl rfl rfl rfl rfl ?_); (exact QY rfl ⟨rfl, rfl⟩))
      apply ds_soN rfl rfl rfl rfl
      · intro H9
        refine st_sls (l := off) (h := (b.map u8A).length) (ys := b.drop off) (bnd_some rfl rfl) (bnd_none) (by omega) (by omega) (by rw [hbm, List.take_length]) rfl rfl rfl rfl rfl ?_
        exact nx0 ⟨rfl, rfl⟩
      generalize b.drop off = bo at *
      skip
      apply ds_soN rfl rfl rfl rfl
      · intro H9
        refine st_call (fun _ => rfl) rfl ?_
        refine ACalls.mono (acalls_pure (E := E0 X) (fun X => hde2 X) (by simp [IdsLtL, IdsLt]) _) ?_
        rintro r H' ⟨rfl, rfl⟩
        first | exact nxs rfl ⟨rfl, rfl⟩ | exact nx0 ⟨rfl, rfl⟩
      repeat' (first | ((first | refine Qc rfl rfl rfl ?_ | (apply Qe rfl rfl rfl rfl; intro H9)); (first | refine Q0 ?_ | refine Q1 ?_ | refine QC rfl rfl ?_ | refine QJ rfl rfl ?_); (first | exact QY rfl ⟨rfl, rfl⟩ | refine QX rfl rfl ?_)) | (refine Qf rfl rfl rfl ?_; refine QS rfl rfl rfl rfl rfl rfl rfl ?_; (refine QX rfl rfl ?_)) | refine Qk ?_ | refine Qw (by kernel_rfl) ?_)
      repeat' (first | ((refine Qa rfl ?_); (first | refine Q0 ?_ | refine Q1 ?_ | refine QD rfl ?_); (refine QX rfl rfl ?_)) | refine Qh ?_ | refine Ql ?_ | refine Qo rfl ?_ | refine Qp rfl ?_ | refine Qr ?_ | refine Qs ?_)
      refine awp_ret ?_
      refine ⟨_, rfl, 3, _, rfl, ?_, Nat.le_refl _, ?_, rfl⟩
      · rw [← ho2, List.length_map]
      · rw [← ho2]; rfl
    | some r =>
      rw [hd] at ht hde
      have hl2 := hlr r hd
      have hl3 : 16 ≤ lenR r := by simp only [lenR]; omega
      have hde2 : ∀ X, ACalls (E0 X) 85 [.int .i64 l.ver, .int .i64 (seq : Int), .int .i64 (off : Int), .sl 1 ((b.drop off).map u8A)] [] (fun q H' => q = .tup [.agg [.int .i64 r.kind, .sl 1 (r.key.map u8A), .sl 1 (r.val.map u8A), .int .i64 r.exp], .int .i64 (lenR r : Int), .bool true] ∧ H' = []) := hde
      have hwo : IntKind.i64.wrap ((off : Int) + (lenR r : Int)) = ((off + lenR r : Nat) : Int) := wrap_eq (by omega) (by omega) (by omega)
      have htt : (out ++ [(off, r)]) ++ recsF l.ver seq b n (off + lenR r) = tot := by rw [← ht, List.append_assoc]; rfl
      have hol2 : (out ++ [(off, r)]).length ≤ off + lenR r := by rw [List.length_append]; show out.length + 1 ≤ _; omega
      have hfu2 : b.length ≤ n + (off + lenR r) := by omega
      have hoff2 : off + lenR r ≤ b.length + 59 := by omega
      generalize hL : lenR r = L at *
      refine awp_region_any [12, 13] [0, 1, 2, 3, 4, 5, 6, 7, 8, 9, 10, 11, 14, 15] (by exact rfl) ?_
      refine any_lin (fuel := 0) [0, 1, 2, 3, 4, 5, 6, 7, 8, 9, 10, 11, 12, 13, 14, 15] (by exact rfl) (by kernel_rfl) (by kernel_rfl) ?_
      repeat' ((apply Qe rfl rfl rfl rfl; intro H9); (first | refine Q0 ?_ | refine Q3 rfl rfl rfl ?_ | refine Q4 rfl rfl rfl rfl rfl ?_); (exact QY rfl ⟨rfl, rfl⟩))
      apply ds_soN rfl rfl rfl rfl
      · intro H9
        refine st_sls (l := off) (h := (b.map u8A).length) (ys := b.drop off) (bnd_some rfl rfl) (bnd_none) (by omega) (by omega) (by rw [hbm, List.take_length]) rfl rfl rfl rfl rfl ?_
        exact nx0 ⟨rfl, rfl⟩
      generalize b.drop off = bo at *
      skip
      apply ds_soN rfl rfl rfl rfl
      · intro H9
        refine st_call (fun _ => rfl) rfl ?_
        refine ACalls.mono (acalls_pure (E := E0 X) (fun X => hde2 X) (by simp [IdsLtL, IdsLt]) _) ?_
        rintro r H' ⟨rfl, rfl⟩
        first | exact nxs rfl ⟨rfl, rfl⟩ | exact nx0 ⟨rfl, rfl⟩
      repeat' (first | ((first | refine Qc rfl rfl rfl ?_ | (apply Qe rfl rfl rfl rfl; intro H9)); (first | refine Q0 ?_ | refine Q1 ?_ | refine QC rfl rfl ?_ | refine QJ rfl rfl ?_); (first | exact QY rfl ⟨rfl, rfl⟩ | refine QX rfl rfl ?_)) | (refine Qf rfl rfl rfl ?_; refine QS rfl rfl rfl rfl rfl rfl rfl ?_; (refine QX rfl rfl ?_)) | refine Qk ?_ | refine Qw (by kernel_rfl) ?_)
      repeat' (first | ((refine Qa rfl ?_); (first | refine Q0 ?_ | refine Q3 rfl rfl rfl ?_ | refine QD rfl ?_ | refine QP rfl rfl rfl rfl rfl rfl ?_ | refine QQ rfl rfl rfl rfl rfl rfl rfl rfl rfl rfl rfl ?_); (refine QX rfl rfl ?_)) | refine Qa rfl ?_ | refine Qh ?_ | refine Ql ?_ | refine Qm ?_ | refine Qo rfl ?_ | refine Qq rfl ?_)
      refine st_app (oid := some 3) (es := out.map foA) (out := (out ++ [(off, r)]).map foA) (n := out.length + 1) (dst_own rfl (List.length_map _).symm) (rfl) ((by have h9 := oneEs_fo [(off, r)]; simp only [List.map, foA, recL, hL] at h9; exact h9)) (by rw [List.map_append, ← hL]; rfl) (by rw [List.length_map]; rfl) (by show _ ≤ 9223372036854775807; omega) (by show _ * 80 ≤ _; omega) rfl rfl rfl rfl rfl rfl rfl rfl ?_
      first | refine nx rfl rfl ?_ | refine nx0 ?_
      repeat' (first | ((refine Qa rfl ?_); (first | refine Q0 ?_ | refine Q1 ?_ | refine Q2 rfl ?_); (refine QX rfl rfl ?_)) | refine Qh ?_ | refine Qo rfl ?_ | refine Qs ?_ | refine Qu ?_)
      rw [hwo]
      refine ⟨(n, off + L, out ++ [(off, r)]), ⟨hoff2, hol2, hfu2, htt⟩, Nat.lt_succ_self n, ?_⟩
      refine imp_tid 3 [5] (H' := devH v ++ [some (.arr ((out ++ [(off, r)]).map foA) 88)]) (os := [.arr ((out ++ [(off, r)]).map foA) 88]) (Nat.le_refl _) ?_ ?_ ?_ ?_ rfl ?_ ?_ ?_
      · simp [devH]
      · simp
      · simp
      · exact hok_dev v
      · rfl
      · refine fa_cons (ren_lt rfl (by simp [IdsLt])) (fa_cons (ren_lt rfl trivial) (fa_cons (ren_lt rfl ⟨trivial, trivial, trivial, trivial, trivial⟩) (fa_cons (ren_lt rfl (idsL_map fun _ => u8A_ids)) (fa_cons ?_ (fa_cons (ren_lt rfl trivial) fa_nil)))))
        rw [List.length_append]; exact ren_own rfl
      · exact os_cons rfl (renO_old 3 gcF_lt (idsL_map fun _ => foA_ids)) os_nil
  · rw [decide_eq_false (show ¬ (off : Int) < ((b.map u8A).length : Int) by omega)]
    rw [recsF_end n (by omega), List.append_nil] at ht
    repeat' (first | ((refine Qa rfl ?_); (first | refine Q0 ?_ | refine Q1 ?_); (refine QX rfl rfl ?_)) | refine Qh ?_ | refine Ql ?_ | refine Qo rfl ?_ | refine Qq rfl ?_ | refine Qr ?_ | refine Qs ?_)
    refine awp_ret ?_
    refine ⟨_, rfl, 3, _, rfl, ?_, Nat.le_refl _, ?_, rfl⟩
    · rw [← ht, List.length_map]
    · rw [← ht]; rfl
end Go.Abs
namespace Go.Abs
def strR (img : List UInt8) (seq : Nat) : Nat → Nat → List UInt8
  | 0, _ => []
  | n + 1, s => match decF 2 seq s (secB img (s : Int)) with
    | none => []
    | some p => p ++ strR img seq n (s + 1)
attribute [local irreducible] AStep aops AWp Nx awM
end Go.Abs
namespace Go.Abs
attribute [local irreducible] AStep aops AWp Nx awM
set_option maxHeartbeats 0 in
set_option maxRecDepth 100000 in
theorem feq_c (X : Nat → Prop) (a : List (Nat × Rec)) (hl : a.length ≤ 1073741824) (hk : ∀ p ∈ a, p.2.key.length ≤ 1073741824 ∧ p.2.val.length ≤ 1073741824) :
    ACalls (E0 X) 44 [.sl 6 (a.map foA), .sl 6 (a.map foA)] [] (fun r H' => r = .bool true ∧ H' = []) := by
  have ham : (a.map foA).length = a.length := List.length_map _
  refine acalls_of Proofs.Tryd.func44 rfl Proofs.Tryd.ntmps44 (by kernel_rfl) rfl ?_
  intro hH hargs
  clear hH hargs
  repeat' (first | ((refine Qa rfl ?_); (first | refine Q0 ?_ | refine Q1 ?_ | refine Q2 rfl ?_ | refine Q7 rfl rfl rfl ?_); (refine QX rfl rfl ?_)) | refine Qh ?_ | refine Ql ?_ | refine Qo rfl ?_ | refine Qs ?_)
  rw [decide_eq_false (show ¬ ¬ ((a.map foA).length : Int) = ((a.map foA).length : Int) from fun h => h rfl)]
  repeat' (first | ((refine Qa rfl ?_); (first | refine Q0 ?_ | refine Q7 rfl rfl rfl ?_); (refine QX rfl rfl ?_)) | refine Qh ?_ | refine Ql ?_ | refine Qm ?_ | refine Qn ?_ | refine Qo rfl ?_ | refine Qq rfl ?_)
  refine awp_loop2 (fun k : Nat => ⟨[(0, .sl 6 (a.map foA)), (1, .sl 6 (a.map foA)), (12, .int .i64 (a.length : Int)), (13, .int .i64 (k : Int))], []⟩) (fun k => k ≤ a.length) (fun k => a.length - k) 0 (Nat.zero_le _) ?_ ?_
  · refine imp_cutk 0 (Nat.zero_le _) hok_nil rfl (by simp) ?_
    repeat' (first | exact fa_nil | refine fa_cons ⟨?_, ?_⟩ ?_)
    all_goals (try first | exact rfl | exact trivial | (simp [IdsLt, IdsLtL]; done) | (simp [get_cons]; done) | (simp [get_cons, *]; done) | (refine congrArg (AV.int .i64) (wrap_eq ?_ ?_ ?_) <;> (first | omega | (simp; omega))))
    all_goals exact idsL_map fun _ => foA_ids
  rintro k hka
  repeat' (first | ((refine Qa rfl ?_); (refine Q2 rfl ?_); (refine QX rfl rfl ?_)) | refine Qh ?_ | refine Ql ?_ | refine Qo rfl ?_)
  refine awp_cond_dec rfl (fun h3 => ?_) (fun h3 => ?_)
  · have hlt : k < a.length := by omega
    obtain ⟨p, hp⟩ : ∃ p, a[k]? = some p := ⟨_, List.getElem?_eq_getElem hlt⟩
    obtain ⟨hk1, hk2⟩ := hk p (List.mem_of_getElem? hp)
    have heq := fun X => req_c X p.2 p.2 (by omega) (by omega)
    rw [decide_eq_true (rfl : p.2 = p.2)] at heq
    obtain ⟨off, r⟩ := p
    repeat' (first | ((refine Qa rfl ?_); (first | refine Q0 ?_ | refine Q1 ?_); (refine QX rfl rfl ?_)) | refine Qh ?_ | refine Ql ?_ | refine Qm ?_ | refine Qn ?_ | refine Qo rfl ?_)
    refine awp_region_auto2 [] [] (by exact rfl) (by kernel_rfl) ?_
    repeat' ((apply Qd rfl rfl rfl rfl); (refine Q0 ?_); (exact QX rfl rfl ⟨rfl, rfl⟩))
    apply ds rfl rfl rfl rfl
    · refine st_ixm hp rfl rfl rfl rfl rfl rfl rfl (by first | rfl | omega) rfl ?_
      first | exact nx rfl rfl ⟨rfl, rfl⟩ | exact nx0 ⟨rfl, rfl⟩
    repeat' ((apply Qd rfl rfl rfl rfl); (first | refine Q0 ?_ | refine Q3 rfl rfl rfl ?_ | refine Q4 rfl rfl rfl rfl rfl ?_); (exact QX rfl rfl ⟨rfl, rfl⟩))
    apply ds rfl rfl rfl rfl
    · refine st_ixm hp rfl rfl rfl rfl rfl rfl rfl (by first | rfl | omega) rfl ?_
      first | exact nx rfl rfl ⟨rfl, rfl⟩ | exact nx0 ⟨rfl, rfl⟩
    repeat' ((apply Qd rfl rfl rfl rfl); (first | refine Q0 ?_ | refine Q2 rfl ?_ | refine Q3 rfl rfl rfl ?_ | refine Q4 rfl rfl rfl rfl rfl ?_); (exact QX rfl rfl ⟨rfl, rfl⟩))
    rw [decide_eq_false (show ¬ ¬ (off : Int) = (off : Int) from fun h => h rfl)]
    repeat' ((apply Qd rfl rfl rfl rfl); (refine Q0 ?_); (exact QX rfl rfl ⟨rfl, rfl⟩))
    apply ds rfl rfl rfl rfl
    · refine st_ixm hp rfl rfl rfl rfl rfl rfl rfl (by first | rfl | omega) rfl ?_
      first | exact nx rfl rfl ⟨rfl, rfl⟩ | exact nx0 ⟨rfl, rfl⟩
    repeat' ((apply Qd rfl rfl rfl rfl); (first | refine Q0 ?_ | refine Q3 rfl rfl rfl ?_ | refine Q4 rfl rfl rfl rfl rfl ?_); (exact QX rfl rfl ⟨rfl, rfl⟩))
    apply ds rfl rfl rfl rfl
    · refine st_ixm hp rfl rfl rfl rfl rfl rfl rfl (by first | rfl | omega) rfl ?_
      first | exact nx rfl rfl ⟨rfl, rfl⟩ | exact nx0 ⟨rfl, rfl⟩
    repeat' ((apply Qd rfl rfl rfl rfl); (first | refine Q0 ?_ | refine Q2 rfl ?_ | refine Q3 rfl rfl rfl ?_ | refine Q4 rfl rfl rfl rfl rfl ?_ | refine Q5 rfl ?_); (exact QX rfl rfl ⟨rfl, rfl⟩))
    rw [decide_eq_false (show ¬ ¬ (lenR r : Int) = (lenR r : Int) from fun h => h rfl)]
    repeat' ((apply Qd rfl rfl rfl rfl); (refine Q0 ?_); (exact QX rfl rfl ⟨rfl, rfl⟩))
    apply ds rfl rfl rfl rfl
    · refine st_ixm hp rfl rfl rfl rfl rfl rfl rfl (by first | rfl | omega) rfl ?_
      first | exact nx rfl rfl ⟨rfl, rfl⟩ | exact nx0 ⟨rfl, rfl⟩
    repeat' ((apply Qd rfl rfl rfl rfl); (first | refine Q0 ?_ | refine Q3 rfl rfl rfl ?_ | refine Q4 rfl rfl rfl rfl rfl ?_); (exact QX rfl rfl ⟨rfl, rfl⟩))
    apply ds rfl rfl rfl rfl
    · refine st_ixm hp rfl rfl rfl rfl rfl rfl rfl (by first | rfl | omega) rfl ?_
      first | exact nx rfl rfl ⟨rfl, rfl⟩ | exact nx0 ⟨rfl, rfl⟩
    repeat' ((apply Qd rfl rfl rfl rfl); (first | refine Q3 rfl rfl rfl ?_ | refine Q4 rfl rfl rfl rfl rfl ?_); (exact QX rfl rfl ⟨rfl, rfl⟩))
    apply ds rfl rfl rfl rfl
    · refine st_call (fun _ => rfl) rfl ?_
      refine ACalls.mono (acalls_pure (E := E0 X) heq (by simp [IdsLtL, IdsLt]) _) ?_
      rintro r H' ⟨rfl, rfl⟩
      first
      | exact nx rfl rfl ⟨rfl, rfl⟩
      | exact nx0 ⟨rfl, rfl⟩
    repeat' (first | ((first | refine Qa rfl ?_ | apply Qd rfl rfl rfl rfl); (first | refine Q0 ?_ | refine Q2 rfl ?_ | refine Q5 rfl ?_ | refine QD rfl ?_); (first | exact QX rfl rfl ⟨rfl, rfl⟩ | refine QX rfl rfl ?_)) | refine Qh ?_ | refine Qk ?_ | refine Qm ?_ | refine Qo rfl ?_ | refine Qq rfl ?_ | refine Qs ?_)
    refine ⟨k + 1, hlt, by omega, imp_cutk 0 (Nat.zero_le _) hok_nil rfl (by simp) ?_⟩
    repeat' (first | exact fa_nil | refine fa_cons ⟨?_, ?_⟩ ?_)
    all_goals (try first | exact rfl | exact trivial | (simp [IdsLt, IdsLtL]; done) | (simp [get_cons]; done) | (simp [get_cons, *]; done) | (refine congrArg (AV.int .i64) (wrap_eq ?_ ?_ ?_) <;> (first | omega | (simp; omega))))
    all_goals exact idsL_map fun _ => foA_ids
  · repeat' (first | ((refine Qa rfl ?_); (refine Q1 ?_); (refine QX rfl rfl ?_)) | refine Qh ?_ | refine Ql ?_ | refine Qo rfl ?_ | refine Qr ?_ | refine Qs ?_)
    refine awp_ret ?_
    refine ⟨_, rfl, ?_, ?_⟩
    · rfl
    · rfl
end Go.Abs
namespace Go.Abs
theorem decF_short {k s n : Nat} {b : List UInt8} (h : b.length ≠ 64) : decF k s n b = none := by
  unfold decF
  rw [if_neg fun hh => h hh.1]
theorem strF_strR {L : Nat} {v : Dv} (hv : Lv L v) (seq : Nat) : ∀ n s, strF v seq n s = strR v.image seq n s
  | 0, _ => rfl
  | n + 1, s => by
    have ih := strF_strR hv seq n (s + 1)
    have e1 : strF v seq (n + 1) s = if v.check (s : Int) ≠ 0 then [] else match decF 2 seq s ((v.image.drop (s * 64)).take 64) with
        | none => []
        | some p => p ++ strF v seq n (s + 1) := rfl
    have e2 : strR v.image seq (n + 1) s = match decF 2 seq s (secB v.image (s : Int)) with
        | none => []
        | some p => p ++ strR v.image seq n (s + 1) := rfl
    have h64 := hv.inv.load.1
    rw [e1, e2, check_eq hv.inv, hv.dead, ih]
    simp only [Bool.false_eq_true, if_false]
    by_cases hin : s * 64 + 64 ≤ v.image.length
    · rw [if_neg (show ¬ ((s : Int) < 0 ∨ ((v.image.length / 64 : Nat) : Int) ≤ (s : Int)) by omega)]
      simp only [ne_eq, not_true_eq_false, if_false]
      have e3 : secB v.image (s : Int) = (v.image.drop (s * 64)).take 64 := by
        unfold secB
        rw [if_neg (by omega), Int.toNat_natCast]
      rw [e3]
    · rw [if_pos (show ((s : Int) < 0 ∨ ((v.image.length / 64 : Nat) : Int) ≤ (s : Int)) by omega)]
      have e3 : secB v.image (s : Int) = [] := by
        unfold secB
        rw [if_pos (by omega)]
      rw [if_pos (by decide), e3, decF_short (by decide)]
attribute [local irreducible] AStep aops AWp Nx awM
set_option maxHeartbeats 0 in
set_option maxRecDepth 100000 in
theorem fenc_own (X : Nat → Prop) (kind salt sector : Nat) (p : List UInt8) (hm : 1 ≤ kind ∧ kind ≤ 4 ∧ sector < 1048576) (hs : salt < 9223372036854775808) (hp : p.length ≤ 59) :
    ACalls (E0 X) 103 [.int .i64 (kind : Int), .int .i64 (salt : Int), .int .i64 (sector : Int), .sl 1 (p.map u8A)] [] (fun r H' => r = .tup [.own 0 0 64, .int .i64 0] ∧ H' = [some (.arr ((encF kind salt sector p).map u8A) 5)]) := by
  have hmay : mayB (kind : Int) (salt : Int) (sector : Int) = true := by simp [mayB]; omega
  have hpos := possible_c X kind salt sector
  rw [hmay] at hpos
  have hcc := concat_c X [[UInt8.ofNat (kind % 256)], p, List.replicate (59 - p.length) 0] (by simp) (by simp; omega) (by simp)
  rw [show [[UInt8.ofNat (kind % 256)], p, List.replicate (59 - p.length) 0].flatten = frB kind p by simp [frB]] at hcc
  have hmk : IntKind.i64.wrap (59 - ((p.map u8A).length : Int)) = ((59 - p.length : Nat) : Int) := by rw [List.length_map]; exact wrap_eq (by omega) (by omega) (by omega)
  have hbl := frB_len (kind := kind) hp
  refine acalls_of Proofs.Tryd.func103 rfl Proofs.Tryd.ntmps103 (by kernel_rfl) rfl ?_
  intro hH hargs
  clear hH hargs
  repeat' (first | ((refine Qa rfl ?_); (first | refine Q0 ?_ | refine Q1 ?_); (refine QX rfl rfl ?_)) | refine Qa rfl ?_ | refine Qh ?_ | refine Ql ?_ | refine Qn ?_ | refine Qo rfl ?_)
  refine st_call (fun _ => rfl) rfl ?_
  refine ACalls.mono (hpos) ?_
  rintro r H' ⟨rfl, rfl⟩
  first | refine nx rfl rfl ?_ | refine nx0 ?_
  repeat' (first | ((refine Qa rfl ?_); (first | refine Q0 ?_ | refine Q1 ?_ | refine Q2 rfl ?_ | refine Q7 rfl rfl rfl ?_ | refine QD rfl ?_); (refine QX rfl rfl ?_)) | refine Qh ?_ | refine Ql ?_ | refine Qo rfl ?_ | refine Qq rfl ?_ | refine Qs ?_)
  refine awp_cond_dec rfl (fun h9 => ?_) (fun h9 => ?_)
  · exfalso; simp at h9; omega
  repeat' (first | ((refine Qa rfl ?_); (first | refine Q0 ?_ | refine Q2 rfl ?_ | refine Q7 rfl rfl rfl ?_ | refine QG rfl rfl rfl rfl ?_ | refine QR rfl rfl rfl rfl rfl rfl rfl rfl rfl rfl rfl rfl ?_); (refine QX rfl rfl ?_)) | refine Qa rfl ?_ | refine Ql ?_ | refine Qm ?_ | refine Qo rfl ?_)
  rw [byte_of]
  refine st_mks (n := 59 - p.length) (el := u8A 0) rfl rfl (hmk) (hmk) ?_ ?_ rfl rfl rfl rfl rfl rfl (.inr rfl) (.inr rfl) rfl rfl ?_
  · show 1 * _ ≤ 281474976710656
    first
    | omega
    | (simp; omega)
  · show _ ≤ 9223372036854775807
    omega
  first | refine nx rfl rfl ?_ | refine nx0 ?_
  rw [show List.replicate (59 - p.length) (u8A 0) = (List.replicate (59 - p.length) (0 : UInt8)).map u8A by simp]
  repeat' (first | ((refine Qa rfl ?_); (refine QR rfl rfl rfl rfl rfl rfl rfl rfl rfl rfl rfl rfl ?_); (refine QX rfl rfl ?_)) | refine Qa rfl ?_)
  refine st_call (fun _ => rfl) rfl ?_
  refine ACalls.mono (hcc) ?_
  rintro r H' ⟨rfl, rfl⟩
  first | refine nx rfl rfl ?_ | refine nx0 ?_
  generalize hfb : frB kind p = b at *
  repeat' (first | ((refine Qa rfl ?_); (first | refine Q0 ?_ | refine Q1 ?_ | refine QG rfl rfl rfl rfl ?_); (refine QX rfl rfl ?_)) | refine Qa rfl ?_ | refine Qh ?_ | refine Ql ?_ | refine Qo rfl ?_)
  rw [wrap64 (by omega)]
  refine st_call (fun _ => rfl) rfl ?_
  refine ACalls.mono (putnil_c X salt 8 (by decide) (by decide)) ?_
  rintro r H' ⟨rfl, rfl⟩
  first | refine nx rfl rfl ?_ | refine nx0 ?_
  repeat' (first | ((refine Qa rfl ?_); (first | refine Q0 ?_ | refine QG rfl rfl rfl rfl ?_); (refine QX rfl rfl ?_)) | refine Qa rfl ?_)
  rw [wrap64 (by omega)]
  refine st_call (fun _ => rfl) rfl ?_
  refine ACalls.mono (put_c X (putN [] salt 8) sector 4 (by decide) (by decide) (by rw [putN_len]; simp)) ?_
  rintro r H' ⟨rfl, rfl⟩
  first | refine nx rfl rfl ?_ | refine nx0 ?_
  repeat' (first | ((refine Qa rfl ?_); (first | refine Q0 ?_ | refine Q1 ?_); (refine QX rfl rfl ?_)) | refine Qa rfl ?_ | refine Qh ?_ | refine Ql ?_ | refine Qo rfl ?_)
  refine st_call (fun _ => rfl) rfl ?_
  refine ACalls.mono (crcSum_c X (putN (putN [] salt 8) sector 4) (by rw [putN_len, putN_len]; simp)) ?_
  rintro r H' ⟨rfl, rfl⟩
  first | refine nx rfl rfl ?_ | refine nx0 ?_
  repeat' (first | ((refine Qa rfl ?_); (refine Q0 ?_); (refine QX rfl rfl ?_)) | refine Qa rfl ?_)
  refine st_call (fun _ => rfl) rfl ?_
  refine ACalls.mono (crcUpd_c X (updN 0 (putN (putN [] salt 8) sector 4)) (updN_lt (by decide) _) b (by omega)) ?_
  rintro r H' ⟨rfl, rfl⟩
  first | refine nx rfl rfl ?_ | refine nx0 ?_
  have hlt : updN (updN 0 (putN (putN [] salt 8) sector 4)) b < 4294967296 := updN_lt (updN_lt (by decide) _) _
  repeat' (first | ((refine Qa rfl ?_); (first | refine Q0 ?_ | refine Q1 ?_ | refine QG rfl rfl rfl rfl ?_); (refine QX rfl rfl ?_)) | refine Qa rfl ?_ | refine Qh ?_ | refine Ql ?_ | refine Qo rfl ?_)
  rw [wrap64 (by omega)]
  refine st_call (fun _ => rfl) rfl ?_
  refine ACalls.mono (put_own X b (updN (updN 0 (putN (putN [] salt 8) sector 4)) b) 4 (by decide) (by decide) (by omega)) ?_
  rintro r H' ⟨rfl, rfl⟩
  first | refine nx rfl rfl ?_ | refine nx0 ?_
  repeat' (first | ((refine Qa rfl ?_); (refine Q1 ?_); (refine QX rfl rfl ?_)) | refine Qh ?_ | refine Qs ?_)
  refine awp_ret ?_
  refine ⟨_, rfl, ?_, ?_⟩
  · rw [hbl]; rfl
  · rw [encF, hfb]; rfl
theorem fenc_at (X : Nat → Prop) (H : Hp) (x : AV) (kind salt sector : Nat) (p : List UInt8) (hm : 1 ≤ kind ∧ kind ≤ 4 ∧ sector < 1048576) (hs : salt < 9223372036854775808) (hp : p.length ≤ 59) (hx : srcA (E0 X) H 1 x = some (p.map u8A)) :
    ACalls (E0 X) 103 [.int .i64 (kind : Int), .int .i64 (salt : Int), .int .i64 (sector : Int), x] H (fun r H' => r = .tup [.own H.length 0 64, .int .i64 0] ∧ H' = H ++ [some (.arr ((encF kind salt sector p).map u8A) 5)]) := by
  refine (acalls_make (E := E0 X) (P := fun v H' => v = .tup [.own 0 0 64, .int .i64 0] ∧ H' = [some (.arr ((encF kind salt sector p).map u8A) 5)]) (fun X => fenc_own X kind salt sector p hm hs hp) (fun r h' h => by
    obtain ⟨h1, h2⟩ := h; subst h1; subst h2; exact ⟨rfl, by simp [noFzH, noFzO, noFz_map (f := u8A) (fun _ => rfl)]⟩) (Bor.same trivial (Bor.same trivial (Bor.same trivial (Bor.sl (u8_ids _) hx .nil))))).mono ?_
  rintro r H' ⟨r0, h', ⟨rfl, rfl⟩, rfl, rfl⟩
  refine ⟨by simp [rnA, rnL], ?_⟩
  show H ++ [some (AO.arr (rnL _ (List.map u8A _)) _)] = _
  rw [rnL_map (fun _ => rfl)]
end Go.Abs

