/- The reference's Replay and Eq of lists of plan records. Joined texts, each with what its own name promises; no condition beyond those stated. -/
import Derived.Test.YtlndakkehobnpaaDoorMJ
namespace Go.Abs
deriving instance DecidableEq for La
deriving instance DecidableEq for Pl
theorem check_neg {v : Dv} (h : v.Inv) : v.check (-1) ≠ 0 := fun hc => by
  obtain ⟨-, k, hk, -⟩ := check_in h hc
  omega
theorem hok_pa (l : List Pl) : HOk 1 [some (.arr (l.map plA) 32)] := fun j o ho => by
  match j, ho with
  | 0, ho => cases ho; exact idsL_map fun _ => plA_ids
attribute [local irreducible] AStep aops AWp Nx awM
set_option maxHeartbeats 0 in
set_option maxRecDepth 100000 in
theorem rreplay_c (X : Nat → Prop) (v : Dv) (L : Nat) (hL : 4736 ≤ L) (hL2 : L ≤ 67108864) (hv : Lv L v) (mig : Int) (hm : mig ≤ 9223372036854775807) :
    ACalls (E0 X) 27 [.sl 1 (v.image.map u8A), .int .i64 mig] [] (fun r H' => r = .own 0 0 (repl v mig).length ∧ H' = [some (.arr ((repl v mig).map plA) 32)]) := by
  have hlen := hv.len
  refine acalls_of Proofs.Tryd.func27 rfl Proofs.Tryd.ntmps27 (by kernel_rfl) rfl ?_
  intro hH hargs
  clear hH hargs
  repeat' (first | ((refine Qa rfl ?_); (refine Q1 ?_); (refine QX rfl rfl ?_)) | refine Qh ?_ | refine Ql ?_ | refine Qn ?_ | refine Qo rfl ?_)
  refine awp_loop2 (fun p : Nat × List Pl => ⟨[(0, .sl 1 (v.image.map u8A)), (1, .int .i64 mig), (5, .own 0 0 p.2.length), (6, .int .i64 (p.1 : Int))], [some (.arr (p.2.map plA) 32)]⟩)
    (fun p => p.1 ≤ 36 ∧ p.2.length ≤ p.1 ∧ p.2 ++ replF v mig p.1 (36 - p.1) = repl v mig) (fun p => 36 - p.1) (0, []) ⟨by omega, by simp, rfl⟩ ?_ ?_
  · refine Imp.trans (imp_nil 5 32 rfl) (imp_cutk 1 (by simp) (hok_pa []) rfl (by simp) ?_)
    repeat' (first | exact fa_nil | refine fa_cons ⟨?_, ?_⟩ ?_)
    all_goals (try first | exact rfl | exact trivial | (simp [IdsLt]; done) | (simp [get_cons]; done) | (simp [get_cons, *]; done) | (refine congrArg (AV.int .i64) (wrap_eq ?_ ?_ ?_) <;> (first | omega | (simp; omega))))
  rintro ⟨i, out⟩ ⟨hi, hol, hr⟩
  have hi : i ≤ 36 := hi
  have hol : out.length ≤ i := hol
  have hr : out ++ replF v mig i (36 - i) = repl v mig := hr
  show AWp _ _ _ _ _ ⟨[(0, .sl 1 (v.image.map u8A)), (1, .int .i64 mig), (5, .own 0 0 out.length), (6, .int .i64 (i : Int))], [some (.arr (out.map plA) 32)]⟩
  have hsc := fun X => rsector_c X mig i hm
  repeat' (first | ((refine Qa rfl ?_); (first | refine Q0 ?_ | refine Q1 ?_ | refine Q2 rfl ?_ | refine Q5 rfl ?_); (refine QX rfl rfl ?_)) | refine Qh ?_ | refine Qi rfl ?_ | refine Ql ?_ | refine Qo rfl ?_ | refine Qq rfl ?_ | refine Qr ?_ | refine Qs ?_ | ((fail_if_success refine QV rfl ?_); refine Qy rfl rfl (fun _ => ?_) (fun _ => ?_)))
  · rename_i h3
    have hi3 : i < 36 := by omega
    have hrn : replF v mig i (36 - i) = match repStep v mig i with
      | none => []
      | some p => p :: replF v mig (i + 1) (36 - (i + 1)) := by
      have : 36 - i = (36 - (i + 1)) + 1 := by omega
      rw [this]; rfl
    refine awp_cond_dec rfl (fun h4 => ?_) (fun h4 => ?_)
    · have hk : secI mig i = ((2 + (mig.toNat + 1) % 2 * 36 + i : Nat) : Int) := by
        unfold secI; rw [if_neg (by omega)]; omega
      have hk74 : 2 + (mig.toNat + 1) % 2 * 36 + i < 74 := by omega
      generalize 2 + (mig.toNat + 1) % 2 * 36 + i = k at *
      have hc := check_ok hv.inv hv.dead (k := k) (by omega)
      rw [hk] at hsc
      have hst : repStep v mig i = match decP ((v.image.drop (k * 64)).take 64) k with
        | none => none
        | some p => if p.mig = mig ∧ p.idx = (i : Int) then some p else none := by
        simp only [repStep]
        rw [hk, if_neg (by simp [hc]), Int.toNat_natCast]
        rfl
      have hbl : ((v.image.drop (k * 64)).take 64).length = 64 := by simp; omega
      have e1 : IntKind.i64.wrap ((k : Int) * 64) = ((k * 64 : Nat) : Int) := wrap_eq (by omega) (by omega) (by omega)
      have e2 : IntKind.i64.wrap (((k * 64 : Nat) : Int) + 64) = ((k * 64 + 64 : Nat) : Int) := wrap_eq (by omega) (by omega) (by omega)
      repeat' (first | ((refine Qa rfl ?_); (refine Q0 ?_); (refine QX rfl rfl ?_)) | refine Qa rfl ?_ | refine Ql ?_ | refine Qm ?_ | refine Qn ?_ | refine Qo rfl ?_)
      refine st_call (fun _ => rfl) rfl ?_
      refine ACalls.mono (acalls_pure (E := E0 X) (fun X => hsc X) (by simp [IdsLtL, IdsLt]) _) ?_
      rintro r H' ⟨rfl, rfl⟩
      first | refine nx rfl rfl ?_ | refine nx0 ?_
      repeat' (first | ((refine Qa rfl ?_); (first | refine Q0 ?_ | refine Q1 ?_ | refine Q2 rfl ?_); (refine QX rfl rfl ?_)) | refine Qa rfl ?_ | refine Qh ?_ | refine Ql ?_ | refine Qo rfl ?_)
      rw [e1, e2]
      refine st_sls (l := k * 64) (h := k * 64 + 64) (ys := (v.image.drop (k * 64)).take 64) (bnd_some rfl rfl) (bnd_some rfl rfl) (by omega) (by omega) (by rw [List.drop_take]; congr 1; omega) rfl rfl rfl rfl rfl ?_
      first | refine nx rfl rfl ?_ | refine nx0 ?_
      generalize (v.image.drop (k * 64)).take 64 = bb at *
      repeat' (first | ((refine Qa rfl ?_); (refine Q0 ?_); (refine QX rfl rfl ?_)) | refine Qa rfl ?_)
      refine st_call (fun _ => rfl) rfl ?_
      refine ACalls.mono (acalls_pure (E := E0 X) (fun X => rpdec_c X bb k (by omega) (by omega)) (by simp [IdsLtL, IdsLt]) _) ?_
      rintro r H' ⟨rfl, rfl⟩
      cases hd : decP bb k with
      | none =>
        rw [hd] at hst
        rw [hst] at hrn
        rw [hrn, List.append_nil] at hr
        show Nx _ (.tup [plA zeroP, .bool false]) _
        first | refine nx rfl rfl ?_ | refine nx0 ?_
        repeat' (first | ((refine Qa rfl ?_); (first | refine Q0 ?_ | refine Q1 ?_ | refine Q5 rfl ?_ | refine QC rfl rfl ?_ | refine QD rfl ?_ | refine QJ rfl rfl ?_); (refine QX rfl rfl ?_)) | (refine Qb rfl ?_; try (refine QS rfl rfl rfl rfl rfl rfl rfl ?_; (refine QX rfl rfl ?_))) | refine Qh ?_ | refine Qi rfl ?_ | refine Ql ?_ | refine Qo rfl ?_ | refine Qp rfl ?_ | refine Qs ?_)
        refine awp_pre (imp_cutk 1 (Nat.zero_le _) (hok_pa out) rfl (by simp) (sl' := [(4, .own 0 0 out.length)]) ?_) ?_
        · repeat' (first | exact fa_nil | refine fa_cons ⟨?_, ?_⟩ ?_)
          all_goals (try first | exact rfl | exact trivial | (simp [IdsLt]; done) | (simp [get_cons]; done) | (simp [get_cons, *]; done) | (refine congrArg (AV.int .i64) (wrap_eq ?_ ?_ ?_) <;> (first | omega | (simp; omega))))
        refine awp_ret ?_
        refine ⟨_, rfl, ?_, ?_⟩
        · rw [← hr]; rfl
        · rw [← hr]
      | some p =>
        rw [hd] at hst
        show Nx _ (.tup [plA p, .bool true]) _
        first | refine nx rfl rfl ?_ | refine nx0 ?_
        repeat' (first | ((refine Qa rfl ?_); (first | refine Q0 ?_ | refine Q1 ?_ | refine Q2 rfl ?_ | refine Q3 rfl rfl rfl ?_ | refine Q4 rfl rfl rfl rfl rfl ?_ | refine Q5 rfl ?_ | refine QC rfl rfl ?_ | refine QD rfl ?_ | refine QJ rfl rfl ?_); (refine QX rfl rfl ?_)) | (refine Qb rfl ?_; try (refine QS rfl rfl rfl rfl rfl rfl rfl ?_; (refine QX rfl rfl ?_))) | refine Qh ?_ | refine Qi rfl ?_ | refine Ql ?_ | refine Qo rfl ?_ | refine Qp rfl ?_ | refine Qs ?_ | ((fail_if_success refine QV rfl ?_); refine Qy rfl rfl (fun _ => ?_) (fun _ => ?_)))
        · rename_i h5
          have h6 : repStep v mig i = none := by rw [hst]; exact if_neg fun h => h5 h.1
          rw [h6] at hrn
          rw [hrn, List.append_nil] at hr
          refine awp_pre (imp_cutk 1 (Nat.zero_le _) (hok_pa out) rfl (by simp) (sl' := [(4, .own 0 0 out.length)]) ?_) ?_
          · repeat' (first | exact fa_nil | refine fa_cons ⟨?_, ?_⟩ ?_)
            all_goals (try first | exact rfl | exact trivial | (simp [IdsLt]; done) | (simp [get_cons]; done) | (simp [get_cons, *]; done) | (refine congrArg (AV.int .i64) (wrap_eq ?_ ?_ ?_) <;> (first | omega | (simp; omega))))
          refine awp_ret ?_
          refine ⟨_, rfl, ?_, ?_⟩
          · rw [← hr]; rfl
          · rw [← hr]
        rename_i h5
        refine awp_cond_dec rfl (fun h7 => ?_) (fun h7 => ?_)
        · have h6 : repStep v mig i = none := by rw [hst]; exact if_neg fun h => h7 h.2
          rw [h6] at hrn
          rw [hrn, List.append_nil] at hr
          repeat' (first | ((refine Qa rfl ?_); (first | refine Q0 ?_ | refine Q1 ?_); (refine QX rfl rfl ?_)) | refine Qh ?_ | refine Ql ?_ | refine Qo rfl ?_ | refine Qs ?_)
          refine awp_pre (imp_cutk 1 (Nat.zero_le _) (hok_pa out) rfl (by simp) (sl' := [(4, .own 0 0 out.length)]) ?_) ?_
          · repeat' (first | exact fa_nil | refine fa_cons ⟨?_, ?_⟩ ?_)
            all_goals (try first | exact rfl | exact trivial | (simp [IdsLt]; done) | (simp [get_cons]; done) | (simp [get_cons, *]; done) | (refine congrArg (AV.int .i64) (wrap_eq ?_ ?_ ?_) <;> (first | omega | (simp; omega))))
          refine awp_ret ?_
          refine ⟨_, rfl, ?_, ?_⟩
          · rw [← hr]; rfl
          · rw [← hr]
        · have h8 : p.mig = mig := Decidable.not_not.1 h5
          have h9 : p.idx = (i : Int) := Decidable.not_not.1 h7
          have h6 : repStep v mig i = some p := by rw [hst]; exact if_pos ⟨h8, h9⟩
          rw [h6] at hrn
          rw [hrn] at hr
          repeat' (first | ((refine Qa rfl ?_); (first | refine Q0 ?_ | refine Q3 rfl rfl rfl ?_ | refine QQ rfl rfl rfl rfl rfl rfl rfl rfl rfl rfl rfl ?_); (refine QX rfl rfl ?_)) | refine Qa rfl ?_ | refine Qm ?_ | refine Qo rfl ?_)
          refine st_app (oid := some 0) (es := out.map plA) (out := (out ++ [p]).map plA) (n := out.length + 1) (dst_own rfl (List.length_map _).symm) (rfl) (oneEs_pl [p]) (by rw [List.map_append]; rfl) (by rw [List.length_map]; rfl) (by show _ ≤ 9223372036854775807; omega) (by show _ * 64 ≤ _; omega) rfl rfl rfl rfl rfl rfl rfl rfl ?_
          first | refine nx rfl rfl ?_ | refine nx0 ?_
          repeat' (first | ((refine Qa rfl ?_); (first | refine Q0 ?_ | refine Q1 ?_ | refine Q2 rfl ?_); (refine QX rfl rfl ?_)) | refine Qh ?_ | refine Qo rfl ?_ | refine Qs ?_)
          refine ⟨(i + 1, out ++ [p]), ⟨by show i + 1 ≤ 36; omega, by simp; omega, by show (out ++ [p]) ++ _ = _; rw [← hr]; simp⟩, by show 36 - (i + 1) < 36 - i; omega, ?_⟩
          refine imp_tid 0 [2] (H' := [some (.arr ((out ++ [p]).map plA) 32)]) (os := [.arr ((out ++ [p]).map plA) 32]) (Nat.le_refl _) (Nat.zero_le _) (by simp) (by simp) (by simp [HOk]) rfl rfl ?_ ?_
          · refine fa_cons (ren_lt rfl (u8_ids _)) (fa_cons (ren_lt rfl trivial) (fa_cons ?_ (fa_cons (ren_lt ?_ trivial) fa_nil)))
            · rw [List.length_append]; exact ren_own rfl
            · exact congrArg (AV.int .i64) (wrap_eq (by omega) (by omega) (by omega))
          · exact os_cons rfl (renO_old 0 (fun i h => absurd h (Nat.not_lt_zero i)) (idsL_map fun _ => plA_ids)) os_nil
    · have hst : repStep v mig i = none := by
        have hk : secI mig i = -1 := by unfold secI; rw [if_pos (by omega)]
        simp only [repStep]
        rw [hk, if_pos (check_neg hv.inv)]
      rw [hst] at hrn
      rw [hrn, List.append_nil] at hr
      repeat' (first | ((refine Qa rfl ?_); (first | refine Q0 ?_ | refine Q1 ?_); (refine QX rfl rfl ?_)) | refine Qh ?_ | refine Ql ?_ | refine Qo rfl ?_ | refine Qr ?_ | refine Qs ?_)
      refine awp_ret ?_
      refine ⟨_, rfl, ?_, ?_⟩
      · rw [← hr]; rfl
      · rw [← hr]
  · rename_i h3
    have hi3 : i = 36 := by omega
    subst hi3
    have hr2 : out = repl v mig := by rw [← hr]; simp [replF]
    skip
    refine awp_ret ?_
    refine ⟨_, rfl, ?_, ?_⟩
    · rw [← hr2]; rfl
    · rw [← hr2]
end Go.Abs
namespace Go.Abs
theorem noFz_pls (l : List Pl) : noFzH [some (.arr (l.map plA) 32)] = true := by
  simp [noFzH, noFzO, noFz_map (f := plA) (fun _ => rfl)]
theorem rreplay_at (X : Nat → Prop) (v : Dv) (L : Nat) (hL : 4736 ≤ L) (hL2 : L ≤ 67108864) (hv : Lv L v) (mig : Int) (hm : mig ≤ 9223372036854775807) (H : Hp) (hH : HOk H.length H) (x : AV) (hx : srcA (E0 X) H 1 x = some (v.image.map u8A)) :
    ACalls (E0 X) 27 [x, .int .i64 mig] H (fun r H' => r = .sl 8 ((repl v mig).map plA) ∧ H' = H) := by
  refine ACalls.froz (e := 32) (n := (repl v mig).length) 8 ?_ (by simp) rfl rfl hH (idsL_map fun _ => plA_ids)
  refine (acalls_make (E := E0 X) (P := fun r H' => r = .own 0 0 (repl v mig).length ∧ H' = [some (.arr ((repl v mig).map plA) 32)]) (fun X => rreplay_c X v L hL hL2 hv mig hm) (fun r h' h => by
    obtain ⟨h1, h2⟩ := h; subst h1; subst h2; exact ⟨rfl, noFz_pls _⟩) (Bor.sl (u8_ids _) hx (Bor.same trivial .nil))).mono ?_
  rintro r H' ⟨r0, h', ⟨rfl, rfl⟩, rfl, rfl⟩
  refine ⟨by simp [rnA], ?_⟩
  show H ++ [some (AO.arr (rnL _ (List.map plA _)) _)] = _
  rw [rnL_map (fun _ => rfl)]
theorem image_v (X : Nat → Prop) (v : Dv) (hl : v.image.length ≤ 1073741824) : ACalls (E0 X) 29 [.ptr 0 0] (devH v) (fun r H' => r = .sl 1 (v.image.map u8A) ∧ H' = devH v) :=
  ACalls.froz 1 (image_c X v hl) (by simp) rfl rfl (hok_dev v) (idsL_map fun _ => u8A_ids)
theorem pl_ids (l : List Pl) : IdsLtL 0 (l.map plA) := idsL_map fun _ => plA_ids
attribute [local irreducible] AStep aops AWp Nx awM
set_option maxHeartbeats 0 in
theorem peq_c (X : Nat → Prop) (a b : List Pl) (ha : a.length ≤ 4611686018427387904) :
    ACalls (E0 X) 26 [.sl 8 (a.map plA), .sl 8 (b.map plA)] [] (fun r H' => r = .bool (decide (a = b)) ∧ H' = []) := by
  refine acalls_of Proofs.Tryd.func26 rfl Proofs.Tryd.ntmps26 (by kernel_rfl) rfl ?_
  intro hH hargs
  clear hH hargs
  repeat' (first | ((refine Qa rfl ?_); (first | refine Q0 ?_ | refine Q1 ?_ | refine Q2 rfl ?_ | refine Q7 rfl rfl rfl ?_); (refine QX rfl rfl ?_)) | refine Qh ?_ | refine Ql ?_ | refine Qo rfl ?_ | refine Qs ?_)
  refine awp_cond_dec rfl (fun h1 => ?_) (fun h1 => ?_)
  · have h2 : ¬ a = b := fun h => by subst h; simp at h1
    repeat' (first | ((refine Qa rfl ?_); (refine Q1 ?_); (refine QX rfl rfl ?_)) | refine Qh ?_ | refine Ql ?_ | refine Qo rfl ?_ | refine Qs ?_)
    refine awp_ret ?_
    refine ⟨_, rfl, ?_, ?_⟩
    · rw [decide_eq_false h2]; rfl
    · rfl
  have hlen : a.length = b.length := by simp at h1; omega
  repeat' (first | ((refine Qa rfl ?_); (first | refine Q0 ?_ | refine Q7 rfl rfl rfl ?_); (refine QX rfl rfl ?_)) | refine Qh ?_ | refine Ql ?_ | refine Qm ?_ | refine Qn ?_ | refine Qo rfl ?_)
  refine awp_loop2 (fun k : Nat => ⟨[(0, .sl 8 (a.map plA)), (1, .sl 8 (b.map plA)), (12, .int .i64 a.length), (13, .int .i64 (k : Int))], []⟩) (fun k => k ≤ a.length ∧ ∀ j, j < k → a[j]? = b[j]?) (fun k => a.length - k) 0 ⟨Nat.zero_le _, fun j h => absurd h (Nat.not_lt_zero j)⟩ ?_ ?_
  · refine imp_cutk 0 (Nat.zero_le _) hok_nil rfl (by simp) ?_
    repeat' (first | exact fa_nil | refine fa_cons ⟨?_, ?_⟩ ?_)
    all_goals (try first | exact rfl | exact trivial | (simp [IdsLt]; done) | (simp [get_cons]; done) | (simp [get_cons, *]; done) | (refine congrArg (AV.int .i64) (wrap_eq ?_ ?_ ?_) <;> (first | omega | (simp; omega))))
  rintro k ⟨hk, h⟩
  repeat' (first | ((refine Qa rfl ?_); (refine Q2 rfl ?_); (refine QX rfl rfl ?_)) | refine Qh ?_ | refine Ql ?_ | refine Qo rfl ?_)
  refine awp_cond_dec rfl (fun h3 => ?_) (fun h3 => ?_)
  · have hka : k < a.length := by omega
    obtain ⟨p, hp⟩ : ∃ p, a[k]? = some p := ⟨_, List.getElem?_eq_getElem hka⟩
    obtain ⟨q, hq⟩ : ∃ q, b[k]? = some q := ⟨_, List.getElem?_eq_getElem (hlen ▸ hka)⟩
    repeat' (first | ((refine Qa rfl ?_); (first | refine Q0 ?_ | refine Q1 ?_); (refine QX rfl rfl ?_)) | refine Qh ?_ | refine Ql ?_ | refine Qm ?_ | refine Qn ?_ | refine Qo rfl ?_)
    refine awp_region_auto2 [] [] (by exact rfl) (by kernel_rfl) ?_
    repeat' ((apply Qd rfl rfl rfl rfl); (refine Q0 ?_); (exact QX rfl rfl ⟨rfl, rfl⟩))
    apply ds rfl rfl rfl rfl
    · refine st_ixm hp rfl rfl rfl rfl rfl rfl rfl (by first | rfl | omega) rfl ?_
      first | exact nx rfl rfl ⟨rfl, rfl⟩ | exact nx0 ⟨rfl, rfl⟩
    repeat' ((apply Qd rfl rfl rfl rfl); (first | refine Q0 ?_ | refine Q3 rfl rfl rfl ?_); (exact QX rfl rfl ⟨rfl, rfl⟩))
    apply ds rfl rfl rfl rfl
    · refine st_ixm hq rfl rfl rfl rfl rfl rfl rfl (by first | rfl | omega) rfl ?_
      first | exact nx rfl rfl ⟨rfl, rfl⟩ | exact nx0 ⟨rfl, rfl⟩
    repeat' (first | ((apply Qd rfl rfl rfl rfl); (first | refine Q3 rfl rfl rfl ?_ | refine QI rfl rfl rfl ?_); (exact QX rfl rfl ⟨rfl, rfl⟩)) | refine Qk ?_ | refine Qs ?_)
    have hsame : (decide (p.kind = q.kind) && (decide (p.mig = q.mig) && (decide (p.idx = q.idx) && (decide (p.tail = q.tail) && ((decide (p.t.id = q.t.id) && (decide (p.t.ver = q.t.ver) && (decide (p.t.rs = q.t.rs) && (decide (p.t.regs = q.t.regs) && true)))) && true))))) = decide (p = q) := by
      obtain ⟨p1, p2, p3, p4, p5, p6, p7, p8⟩ := p
      obtain ⟨q1, q2, q3, q4, q5, q6, q7, q8⟩ := q
      rw [Bool.eq_iff_iff]
      simp only [Bool.and_eq_true, decide_eq_true_eq, Bool.and_true, Pl.mk.injEq, La.mk.injEq]
    rw [hsame]
    refine awp_cond rfl (fun h4 => ?_) (fun h4 => ?_)
    · have h5 : ¬ p = q := by simpa using h4
      have h6 : ¬ a = b := fun e => by subst e; rw [hp] at hq; exact h5 (Option.some.inj hq)
      repeat' (first | ((refine Qa rfl ?_); (refine Q1 ?_); (refine QX rfl rfl ?_)) | refine Qh ?_ | refine Ql ?_ | refine Qo rfl ?_ | refine Qs ?_)
      refine awp_ret ?_
      refine ⟨_, rfl, ?_, ?_⟩
      · rw [decide_eq_false h6]; rfl
      · rfl
    · have h5 : p = q := by simpa using h4
      repeat' (first | ((refine Qa rfl ?_); (first | refine Q0 ?_ | refine Q2 rfl ?_); (refine QX rfl rfl ?_)) | refine Qh ?_ | refine Qm ?_ | refine Qo rfl ?_ | refine Qs ?_)
      refine ⟨k + 1, ⟨by omega, fun j hj => ?_⟩, by omega, imp_cutk 0 (Nat.zero_le _) hok_nil rfl (by simp) ?_⟩
      · rcases Nat.lt_or_ge j k with h1 | h1
        · exact h j h1
        · have : j = k := by omega
          subst this
          rw [hp, hq, h5]
      · repeat' (first | exact fa_nil | refine fa_cons ⟨?_, ?_⟩ ?_)
        all_goals (try first | exact rfl | exact trivial | (simp [IdsLt]; done) | (simp [get_cons]; done) | (simp [get_cons, *]; done) | (refine congrArg (AV.int .i64) (wrap_eq ?_ ?_ ?_) <;> (first | omega | (simp; omega))))
  · have hkl : k = a.length := by omega
    have hab : a = b := by
      refine List.ext_getElem? fun j => ?_
      rcases Nat.lt_or_ge j k with h1 | h1
      · exact h j h1
      · rw [List.getElem?_eq_none (by omega), List.getElem?_eq_none (by omega)]
    repeat' (first | ((refine Qa rfl ?_); (refine Q1 ?_); (refine QX rfl rfl ?_)) | refine Qh ?_ | refine Ql ?_ | refine Qo rfl ?_ | refine Qr ?_ | refine Qs ?_)
    refine awp_ret ?_
    refine ⟨_, rfl, ?_, ?_⟩
    · rw [decide_eq_true hab]; rfl
    · rfl
end Go.Abs
namespace Go.Abs
structure Sb where
  gen : Int
  phase : Int
  mig : Int
  tail : Int
  now : Int
  t : La
  h : La
  fo : List La
def sbL (s : Sb) : List AV := [.int .i64 s.gen, .int .i64 s.phase, .int .i64 s.mig, .int .i64 s.tail, .int .i64 s.now, .int .i64 s.t.id, .int .i64 s.t.ver, .int .i64 s.t.rs, .int .i64 s.t.regs, .int .i64 s.h.id, .int .i64 s.h.ver, .int .i64 s.h.rs, .int .i64 s.h.regs, .sl 4 (s.fo.map laA)]
def sbA (s : Sb) : AV := .agg (sbL s)
theorem la_ids (l : List La) {n : Nat} : IdsLtL n (l.map laA) := idsL_map fun _ => laA_ids
@[simp] theorem sbA_ids {n : Nat} {s : Sb} : IdsLt n (sbA s) := ⟨trivial, trivial, trivial, trivial, trivial, trivial, trivial, trivial, trivial, trivial, trivial, trivial, trivial, la_ids _, trivial⟩
theorem la_same (p q : La) : (decide (p.id = q.id) && (decide (p.ver = q.ver) && (decide (p.rs = q.rs) && (decide (p.regs = q.regs) && true)))) = decide (p = q) := by
  obtain ⟨p1, p2, p3, p4⟩ := p
  obtain ⟨q1, q2, q3, q4⟩ := q
  rw [Bool.eq_iff_iff]
  simp only [Bool.and_eq_true, decide_eq_true_eq, Bool.and_true, La.mk.injEq]
def retB (s : Sb) : Bool := match s.fo with
  | [a, b] => decide (a = s.h) && (formB b && (decide (s.h.id ≠ b.id) && (decide (s.h.id ≠ s.t.id) && (decide (b.id ≠ s.t.id) && decide (s.t = ⟨s.t.id, s.h.ver, s.h.rs, s.h.regs⟩)))))
  | _ => false
def phB (s : Sb) : Bool := if s.phase = 1 then decide (s.h = ⟨0, 0, 0, 0⟩) && s.fo.isEmpty else
  if s.phase = 2 then decide (0 < s.mig) && (formB s.h && (decide (s.fo = [s.h]) && decide (s.t.id ≠ s.h.id))) else
  if s.phase = 3 then decide (0 < s.mig) && (formB s.h && retB s) else false
def sbB (s : Sb) : Bool := decide (1 ≤ s.gen) && (decide (s.gen ≤ 1099511627775) && (decide (0 ≤ s.mig) && (decide (s.mig ≤ 4294967295) && (decide (0 ≤ s.tail) && (decide (s.tail ≤ 281474976710655) && (decide (0 ≤ s.now) && (decide (s.now ≤ 549755813888) && (formB s.t && phB s))))))))
attribute [local irreducible] AStep aops AWp Nx awM
set_option maxHeartbeats 0 in
theorem leq_c (X : Nat → Prop) (a b : List La) (ha : a.length ≤ 4611686018427387904) :
    ACalls (E0 X) 145 [.sl 4 (a.map laA), .sl 4 (b.map laA)] [] (fun r H' => r = .bool (decide (a = b)) ∧ H' = []) := by
  refine acalls_of Proofs.Tryd.func145 rfl Proofs.Tryd.ntmps145 (by kernel_rfl) rfl ?_
  intro hH hargs
  clear hH hargs
  repeat' (first | ((refine Qa rfl ?_); (first | refine Q0 ?_ | refine Q1 ?_ | refine Q2 rfl ?_ | refine Q7 rfl rfl rfl ?_); (refine QX rfl rfl ?_)) | refine Qh ?_ | refine Ql ?_ | refine Qo rfl ?_ | refine Qs ?_)
  refine awp_cond_dec rfl (fun h1 => ?_) (fun h1 => ?_)
  · have h2 : ¬ a = b := fun h => by subst h; simp at h1
    repeat' (first | ((refine Qa rfl ?_); (refine Q1 ?_); (refine QX rfl rfl ?_)) | refine Qh ?_ | refine Ql ?_ | refine Qo rfl ?_ | refine Qs ?_)
    refine awp_ret ?_
    refine ⟨_, rfl, ?_, ?_⟩
    · rw [decide_eq_false h2]; rfl
    · rfl
  have hlen : a.length = b.length := by simp at h1; omega
  repeat' (first | ((refine Qa rfl ?_); (first | refine Q0 ?_ | refine Q7 rfl rfl rfl ?_); (refine QX rfl rfl ?_)) | refine Qh ?_ | refine Ql ?_ | refine Qm ?_ | refine Qn ?_ | refine Qo rfl ?_)
  refine awp_loop2 (fun k : Nat => ⟨[(0, .sl 4 (a.map laA)), (1, .sl 4 (b.map laA)), (12, .int .i64 a.length), (13, .int .i64 (k : Int))], []⟩) (fun k => k ≤ a.length ∧ ∀ j, j < k → a[j]? = b[j]?) (fun k => a.length - k) 0 ⟨Nat.zero_le _, fun j h => absurd h (Nat.not_lt_zero j)⟩ ?_ ?_
  · refine imp_cutk 0 (Nat.zero_le _) hok_nil rfl (by simp) ?_
    repeat' (first | exact fa_nil | refine fa_cons ⟨?_, ?_⟩ ?_)
    all_goals (try first | exact rfl | exact trivial | (simp [IdsLt]; done) | (simp [get_cons]; done) | (simp [get_cons, *]; done) | (refine congrArg (AV.int .i64) (wrap_eq ?_ ?_ ?_) <;> (first | omega | (simp; omega))))
  rintro k ⟨hk, h⟩
  repeat' (first | ((refine Qa rfl ?_); (refine Q2 rfl ?_); (refine QX rfl rfl ?_)) | refine Qh ?_ | refine Ql ?_ | refine Qo rfl ?_)
  refine awp_cond_dec rfl (fun h3 => ?_) (fun h3 => ?_)
  · have hka : k < a.length := by omega
    obtain ⟨p, hp⟩ : ∃ p, a[k]? = some p := ⟨_, List.getElem?_eq_getElem hka⟩
    obtain ⟨q, hq⟩ : ∃ q, b[k]? = some q := ⟨_, List.getElem?_eq_getElem (hlen ▸ hka)⟩
    repeat' (first | ((refine Qa rfl ?_); (first | refine Q0 ?_ | refine Q1 ?_); (refine QX rfl rfl ?_)) | refine Qh ?_ | refine Ql ?_ | refine Qm ?_ | refine Qn ?_ | refine Qo rfl ?_)
    refine awp_region_auto2 [] [] (by exact rfl) (by kernel_rfl) ?_
    repeat' ((apply Qd rfl rfl rfl rfl); (refine Q0 ?_); (exact QX rfl rfl ⟨rfl, rfl⟩))
    apply ds rfl rfl rfl rfl
    · refine st_ixm hp rfl rfl rfl rfl rfl rfl rfl (by first | rfl | omega) rfl ?_
      first | exact nx rfl rfl ⟨rfl, rfl⟩ | exact nx0 ⟨rfl, rfl⟩
    repeat' ((apply Qd rfl rfl rfl rfl); (first | refine Q0 ?_ | refine Q3 rfl rfl rfl ?_); (exact QX rfl rfl ⟨rfl, rfl⟩))
    apply ds rfl rfl rfl rfl
    · refine st_ixm hq rfl rfl rfl rfl rfl rfl rfl (by first | rfl | omega) rfl ?_
      first | exact nx rfl rfl ⟨rfl, rfl⟩ | exact nx0 ⟨rfl, rfl⟩
    repeat' (first | ((apply Qd rfl rfl rfl rfl); (first | refine Q3 rfl rfl rfl ?_ | refine QI rfl rfl rfl ?_); (exact QX rfl rfl ⟨rfl, rfl⟩)) | refine Qk ?_ | refine Qs ?_)
    rw [la_same]
    refine awp_cond rfl (fun h4 => ?_) (fun h4 => ?_)
    · have h5 : ¬ p = q := by simpa using h4
      have h6 : ¬ a = b := fun e => by subst e; rw [hp] at hq; exact h5 (Option.some.inj hq)
      repeat' (first | ((refine Qa rfl ?_); (refine Q1 ?_); (refine QX rfl rfl ?_)) | refine Qh ?_ | refine Ql ?_ | refine Qo rfl ?_ | refine Qs ?_)
      refine awp_ret ?_
      refine ⟨_, rfl, ?_, ?_⟩
      · rw [decide_eq_false h6]; rfl
      · rfl
    · have h5 : p = q := by simpa using h4
      repeat' (first | ((refine Qa rfl ?_); (first | refine Q0 ?_ | refine Q2 rfl ?_); (refine QX rfl rfl ?_)) | refine Qh ?_ | refine Qm ?_ | refine Qo rfl ?_ | refine Qs ?_)
      refine ⟨k + 1, ⟨by omega, fun j hj => ?_⟩, by omega, imp_cutk 0 (Nat.zero_le _) hok_nil rfl (by simp) ?_⟩
      · rcases Nat.lt_or_ge j k with h1 | h1
        · exact h j h1
        · have : j = k := by omega
          subst this
          rw [hp, hq, h5]
      · repeat' (first | exact fa_nil | refine fa_cons ⟨?_, ?_⟩ ?_)
        all_goals (try first | exact rfl | exact trivial | (simp [IdsLt]; done) | (simp [get_cons]; done) | (simp [get_cons, *]; done) | (refine congrArg (AV.int .i64) (wrap_eq ?_ ?_ ?_) <;> (first | omega | (simp; omega))))
  · have hkl : k = a.length := by omega
    have hab : a = b := by
      refine List.ext_getElem? fun j => ?_
      rcases Nat.lt_or_ge j k with h1 | h1
      · exact h j h1
      · rw [List.getElem?_eq_none (by omega), List.getElem?_eq_none (by omega)]
    repeat' (first | ((refine Qa rfl ?_); (refine Q1 ?_); (refine QX rfl rfl ?_)) | refine Qh ?_ | refine Ql ?_ | refine Qo rfl ?_ | refine Qr ?_ | refine Qs ?_)
    refine awp_ret ?_
    refine ⟨_, rfl, ?_, ?_⟩
    · rw [decide_eq_true hab]; rfl
    · rfl
set_option maxHeartbeats 0 in
set_option maxRecDepth 100000 in
theorem ret2_c (X : Nat → Prop) (s : Sb) (a b : La) (hfo : s.fo = [a, b]) : ACalls (E0 X) 146 [sbA s] [] (fun r H' => r = .bool (retB s) ∧ H' = []) := by
  refine ACalls.cut0 ?_ trivial
  obtain ⟨gen, phase, mig, tail, now, t, h, fo⟩ := s
  simp only at hfo
  subst hfo
  show ACalls (E0 X) 146 [.agg [.int .i64 gen, .int .i64 phase, .int .i64 mig, .int .i64 tail, .int .i64 now, .int .i64 t.id, .int .i64 t.ver, .int .i64 t.rs, .int .i64 t.regs, .int .i64 h.id, .int .i64 h.ver, .int .i64 h.rs, .int .i64 h.regs, .sl 4 ([a, b].map laA)]] [] _
  refine acalls_of Proofs.Tryd.func146 rfl Proofs.Tryd.ntmps146 (by kernel_rfl) rfl ?_
  intro hH hargs
  clear hH hargs
  repeat' (first | ((refine Qa rfl ?_); (first | refine Q1 ?_ | refine QK rfl ?_); (refine QX rfl rfl ?_)) | refine Qh ?_ | refine Ql ?_ | refine Qo rfl ?_)
  refine awp_region_auto2 [] [] (by exact rfl) (by kernel_rfl) ?_
  repeat' ((apply Qd rfl rfl rfl rfl); (first | refine Q0 ?_ | refine Q2 rfl ?_ | refine Q3 rfl rfl rfl ?_ | refine Q4 rfl rfl rfl rfl rfl ?_ | refine Q7 rfl rfl rfl ?_); (exact QX rfl rfl ⟨rfl, rfl⟩))
  rw [show (decide (((List.map laA [a, b]).length : Int) ≠ 2)) = false from rfl]
  skip
  apply ds rfl rfl rfl rfl
  · refine st_ixm (show [a, b][0]? = some a from rfl) rfl rfl rfl rfl rfl rfl rfl (by first | rfl | omega) rfl ?_
    first | exact nx rfl rfl ⟨rfl, rfl⟩ | exact nx0 ⟨rfl, rfl⟩
  repeat' (first | ((first | refine Qa rfl ?_ | apply Qd rfl rfl rfl rfl); (first | refine Q0 ?_ | refine Q1 ?_ | refine Q3 rfl rfl rfl ?_ | refine Q4 rfl rfl rfl rfl rfl ?_ | refine Q5 rfl ?_ | refine QI rfl rfl rfl ?_); (first | exact QX rfl rfl ⟨rfl, rfl⟩ | refine QX rfl rfl ?_)) | refine Qh ?_ | apply Qg rfl rfl | refine Qk ?_ | refine Ql ?_ | refine Qo rfl ?_ | refine Qp rfl ?_ | refine Qs ?_ | ((fail_if_success refine QW rfl rfl ?_); refine QU rfl rfl rfl (fun _ => ?_) (fun _ => ?_)))
  · rename_i h1
    rw [la_same] at h1
    have h2 : ¬ a = h := by simpa using h1
    refine awp_ret ?_
    refine ⟨_, rfl, ?_⟩
    simp [retB, h2, get_cons, one]
  rename_i h1
  rw [la_same] at h1
  have h2 : a = h := by simpa using h1
  apply ds rfl rfl rfl rfl
  · refine st_ixm (show [a, b][1]? = some b from rfl) rfl rfl rfl rfl rfl rfl rfl (by first | rfl | omega) rfl ?_
    first | exact nx rfl rfl ⟨rfl, rfl⟩ | exact nx0 ⟨rfl, rfl⟩
  repeat' ((apply Qd rfl rfl rfl rfl); (refine Q3 rfl rfl rfl ?_); (exact QX rfl rfl ⟨rfl, rfl⟩))
  apply ds rfl rfl rfl rfl
  · refine st_call (fun _ => rfl) rfl ?_
    refine ACalls.mono (acalls_pure (E := E0 X) (fun X => form_c X b) (by simp [IdsLtL]) _) ?_
    rintro r H' ⟨rfl, rfl⟩
    first
    | exact nx rfl rfl ⟨rfl, rfl⟩
    | exact nx0 ⟨rfl, rfl⟩
  repeat' (first | ((apply Qd rfl rfl rfl rfl); (first | refine Q5 rfl ?_ | refine QD rfl ?_); (exact QX rfl rfl ⟨rfl, rfl⟩)) | refine Qk ?_ | refine Qs ?_)
  cases hb : formB b with
  | false =>
    repeat' (first | ((refine Qa rfl ?_); (refine Q1 ?_); (refine QX rfl rfl ?_)) | refine Qh ?_ | refine Ql ?_ | refine Qo rfl ?_ | refine Qp rfl ?_ | refine Qs ?_)
    refine awp_ret ?_
    refine ⟨_, rfl, ?_⟩
    simp [retB, hb, get_cons, one]
  | true =>
    repeat' (first | refine Ql ?_ | refine Qm ?_ | refine Qq rfl ?_)
    refine awp_region_auto2 [] [] (by exact rfl) (by kernel_rfl) ?_
    repeat' ((apply Qd rfl rfl rfl rfl); (first | refine Q3 rfl rfl rfl ?_ | refine Q4 rfl rfl rfl rfl rfl ?_); (exact QX rfl rfl ⟨rfl, rfl⟩))
    apply ds rfl rfl rfl rfl
    · refine st_ixm (show [a, b][1]? = some b from rfl) rfl rfl rfl rfl rfl rfl rfl (by first | rfl | omega) rfl ?_
      first | exact nx rfl rfl ⟨rfl, rfl⟩ | exact nx0 ⟨rfl, rfl⟩
    repeat' (first | ((first | refine Qa rfl ?_ | apply Qd rfl rfl rfl rfl); (first | refine Q0 ?_ | refine Q1 ?_ | refine Q2 rfl ?_ | refine Q3 rfl rfl rfl ?_ | refine Q4 rfl rfl rfl rfl rfl ?_ | refine Q5 rfl ?_ | refine QH rfl rfl rfl ?_ | refine QJ rfl rfl ?_); (first | exact QX rfl rfl ⟨rfl, rfl⟩ | refine QX rfl rfl ?_)) | (refine Qb rfl ?_; try (refine QS rfl rfl rfl rfl rfl rfl rfl ?_; (refine QX rfl rfl ?_))) | refine Qh ?_ | refine Qi rfl ?_ | refine Qk ?_ | refine Ql ?_ | refine Qo rfl ?_ | refine Qs ?_ | ((fail_if_success refine QV rfl ?_); refine Qy rfl rfl (fun _ => ?_) (fun _ => ?_)))
    · rename_i n1 n2 n3
      refine awp_ret ?_
      refine ⟨_, rfl, ?_⟩
      refine congrArg AV.bool ((la_same t ⟨t.id, h.ver, h.rs, h.regs⟩).trans ?_)
      simp [retB, h2, hb, n1, n2, n3]
    all_goals (refine awp_ret ?_; refine ⟨_, rfl, ?_⟩; simp [retB, get_cons, one, *])
set_option maxHeartbeats 0 in
set_option maxRecDepth 100000 in
theorem ret_c (X : Nat → Prop) (s : Sb) : ACalls (E0 X) 146 [sbA s] [] (fun r H' => r = .bool (retB s) ∧ H' = []) := by
  by_cases hl : s.fo.length = 2
  · obtain ⟨a, b, hab⟩ : ∃ a b, s.fo = [a, b] := by
      match hfo : s.fo, hl with
      | [a, b], _ => exact ⟨a, b, rfl⟩
    exact ret2_c X s a b hab
  have hr : retB s = false := by
    unfold retB
    split
    · rename_i a b he; rw [he] at hl; exact absurd rfl hl
    · rfl
  rw [hr]
  refine ACalls.cut0 ?_ trivial
  obtain ⟨gen, phase, mig, tail, now, t, h, fo⟩ := s
  have hl2 : decide (((fo.map laA).length : Int) ≠ 2) = true := by simp at hl ⊢; omega
  show ACalls (E0 X) 146 [.agg [.int .i64 gen, .int .i64 phase, .int .i64 mig, .int .i64 tail, .int .i64 now, .int .i64 t.id, .int .i64 t.ver, .int .i64 t.rs, .int .i64 t.regs, .int .i64 h.id, .int .i64 h.ver, .int .i64 h.rs, .int .i64 h.regs, .sl 4 (fo.map laA)]] [] _
  refine acalls_of Proofs.Tryd.func146 rfl Proofs.Tryd.ntmps146 (by kernel_rfl) rfl ?_
  intro hH hargs
  clear hH hargs
  repeat' (first | ((refine Qa rfl ?_); (first | refine Q1 ?_ | refine QK rfl ?_); (refine QX rfl rfl ?_)) | refine Qh ?_ | refine Ql ?_ | refine Qo rfl ?_)
  refine awp_region_auto2 [] [] (by exact rfl) (by kernel_rfl) ?_
  repeat' ((apply Qd rfl rfl rfl rfl); (first | refine Q0 ?_ | refine Q2 rfl ?_ | refine Q3 rfl rfl rfl ?_ | refine Q4 rfl rfl rfl rfl rfl ?_ | refine Q7 rfl rfl rfl ?_); (exact QX rfl rfl ⟨rfl, rfl⟩))
  rw [hl2]
  repeat' (first | ((first | refine Qa rfl ?_ | apply Qd rfl rfl rfl rfl); (first | refine Q0 ?_ | refine Q1 ?_ | refine Q5 rfl ?_); (first | exact QX rfl rfl ⟨rfl, rfl⟩ | refine QX rfl rfl ?_)) | refine Qh ?_ | apply Qg rfl rfl | refine Qk ?_ | refine Ql ?_ | refine Qo rfl ?_ | refine Qp rfl ?_ | refine Qs ?_)
  refine awp_ret ?_
  refine ⟨_, rfl, ?_⟩
  rfl
set_option maxHeartbeats 0 in
set_option maxRecDepth 100000 in
theorem phase_c (X : Nat → Prop) (s : Sb) (hfl : s.fo.length ≤ 4611686018427387904) : ACalls (E0 X) 116 [sbA s] [] (fun r H' => r = .bool (phB s) ∧ H' = []) := by
  refine ACalls.cut0 ?_ trivial
  have hret := fun X => ret_c X s
  obtain ⟨gen, phase, mig, tail, now, t, h, fo⟩ := s
  simp only at hfl
  show ACalls (E0 X) 116 [.agg [.int .i64 gen, .int .i64 phase, .int .i64 mig, .int .i64 tail, .int .i64 now, .int .i64 t.id, .int .i64 t.ver, .int .i64 t.rs, .int .i64 t.regs, .int .i64 h.id, .int .i64 h.ver, .int .i64 h.rs, .int .i64 h.regs, .sl 4 (fo.map laA)]] [] _
  refine acalls_of Proofs.Tryd.func116 rfl Proofs.Tryd.ntmps116 (by kernel_rfl) rfl ?_
  intro hH hargs
  clear hH hargs
  repeat' (first | ((refine Qa rfl ?_); (first | refine Q1 ?_ | refine Q2 rfl ?_ | refine Q3 rfl rfl rfl ?_ | refine Q4 rfl rfl rfl rfl rfl ?_ | refine QK rfl ?_); (refine QX rfl rfl ?_)) | refine Qh ?_ | refine Ql ?_ | refine Qn ?_ | refine Qo rfl ?_ | refine Qs ?_)
  refine awp_cond_dec rfl (fun h1 => ?_) (fun h1 => ?_)
  · skip
    repeat' (first | ((refine Qa rfl ?_); (first | refine Q0 ?_ | refine Q1 ?_ | refine Q2 rfl ?_ | refine Q3 rfl rfl rfl ?_ | refine Q4 rfl rfl rfl rfl rfl ?_ | refine Q5 rfl ?_ | refine Q7 rfl rfl rfl ?_ | refine QH rfl rfl rfl ?_ | refine QP rfl rfl rfl rfl rfl rfl ?_); (refine QX rfl rfl ?_)) | refine Qh ?_ | refine Qi rfl ?_ | refine Ql ?_ | refine Qo rfl ?_ | refine Qs ?_ | ((fail_if_success refine QV rfl ?_); refine Qz rfl rfl (fun _ => ?_) (fun _ => ?_)))
    · rename_i e1
      have e2 := (la_same h ⟨0, 0, 0, 0⟩).symm.trans e1
      refine awp_ret ?_
      refine ⟨_, rfl, ?_⟩
      refine congrArg AV.bool ?_
      simp only [phB, if_pos h1, e2]
      cases fo <;> simp <;> omega
    · rename_i e1
      have e2 := (la_same h ⟨0, 0, 0, 0⟩).symm.trans e1
      refine awp_ret ?_
      refine ⟨_, rfl, ?_⟩
      refine congrArg AV.bool ?_
      simp only [phB, if_pos h1, e2]
      rfl
  repeat' (first | ((refine Qa rfl ?_); (first | refine Q1 ?_ | refine Q2 rfl ?_); (refine QX rfl rfl ?_)) | refine Qh ?_ | refine Ql ?_ | refine Qo rfl ?_ | refine Qs ?_)
  refine awp_cond_dec rfl (fun h2 => ?_) (fun h2 => ?_)
  · skip
    repeat' (first | ((refine Qa rfl ?_); (first | refine Q0 ?_ | refine Q1 ?_ | refine Q2 rfl ?_ | refine Q3 rfl rfl rfl ?_ | refine Q4 rfl rfl rfl rfl rfl ?_ | refine Q5 rfl ?_); (refine QX rfl rfl ?_)) | refine Qa rfl ?_ | refine Qh ?_ | refine Qi rfl ?_ | refine Ql ?_ | refine Qo rfl ?_ | refine Qs ?_ | ((fail_if_success refine QV rfl ?_); refine Qy rfl rfl (fun _ => ?_) (fun _ => ?_)))
    · rename_i e1
      refine st_call (fun _ => rfl) rfl ?_
      refine ACalls.mono (acalls_pure (E := E0 X) (fun X => form_c X h) (by simp [IdsLtL]) _) ?_
      rintro r H' ⟨rfl, rfl⟩
      first | refine nx rfl rfl ?_ | refine nx0 ?_
      cases hf : formB h with
      | false =>
        repeat' (first | ((refine Qa rfl ?_); (first | refine Q0 ?_ | refine Q1 ?_ | refine Q5 rfl ?_); (refine QX rfl rfl ?_)) | refine Qh ?_ | refine Qi rfl ?_ | refine Qs ?_)
        refine awp_ret ?_
        refine ⟨_, rfl, ?_⟩
        refine congrArg AV.bool ?_
        simp [phB, h2, e1, hf]
      | true =>
        repeat' (first | ((refine Qa rfl ?_); (first | refine Q0 ?_ | refine Q3 rfl rfl rfl ?_ | refine Q4 rfl rfl rfl rfl rfl ?_ | refine Q5 rfl ?_ | refine QQ rfl rfl rfl rfl rfl rfl rfl rfl rfl rfl rfl ?_); (refine QX rfl rfl ?_)) | refine Qa rfl ?_)
        refine st_call (fun _ => rfl) rfl ?_
        refine ACalls.mono (acalls_pure (E := E0 X) (fun X => leq_c X fo [h] hfl) (by simp [IdsLtL, IdsLt]) _) ?_
        rintro r H' ⟨rfl, rfl⟩
        first | refine nx rfl rfl ?_ | refine nx0 ?_
        repeat' (first | ((refine Qa rfl ?_); (first | refine Q0 ?_ | refine Q1 ?_ | refine Q2 rfl ?_ | refine Q3 rfl rfl rfl ?_ | refine Q4 rfl rfl rfl rfl rfl ?_ | refine Q5 rfl ?_); (refine QX rfl rfl ?_)) | refine Qh ?_ | refine Qi rfl ?_ | refine Qs ?_ | ((fail_if_success refine QV rfl ?_); refine Qy rfl rfl (fun _ => ?_) (fun _ => ?_)))
        · rename_i e2
          refine awp_ret ?_
          refine ⟨_, rfl, ?_⟩
          refine congrArg AV.bool ?_
          simp [phB, h2, e1, hf, e2]
        · rename_i e2
          refine awp_ret ?_
          refine ⟨_, rfl, ?_⟩
          refine congrArg AV.bool ?_
          simp [phB, h2, e1, hf, e2]
    · rename_i e1
      refine awp_ret ?_
      refine ⟨_, rfl, ?_⟩
      refine congrArg AV.bool ?_
      simp [phB, h2, e1]
  repeat' (first | ((refine Qa rfl ?_); (first | refine Q1 ?_ | refine Q2 rfl ?_); (refine QX rfl rfl ?_)) | refine Qh ?_ | refine Ql ?_ | refine Qo rfl ?_ | refine Qs ?_)
  refine awp_cond_dec rfl (fun h3 => ?_) (fun h3 => ?_)
  · skip
    repeat' (first | ((refine Qa rfl ?_); (first | refine Q0 ?_ | refine Q1 ?_ | refine Q2 rfl ?_ | refine Q3 rfl rfl rfl ?_ | refine Q4 rfl rfl rfl rfl rfl ?_ | refine Q5 rfl ?_); (refine QX rfl rfl ?_)) | refine Qa rfl ?_ | refine Qh ?_ | refine Qi rfl ?_ | refine Ql ?_ | refine Qo rfl ?_ | refine Qs ?_ | ((fail_if_success refine QV rfl ?_); refine Qy rfl rfl (fun _ => ?_) (fun _ => ?_)))
    · rename_i e1
      refine st_call (fun _ => rfl) rfl ?_
      refine ACalls.mono (acalls_pure (E := E0 X) (fun X => form_c X h) (by simp [IdsLtL]) _) ?_
      rintro r H' ⟨rfl, rfl⟩
      first | refine nx rfl rfl ?_ | refine nx0 ?_
      cases hf : formB h with
      | false =>
        repeat' (first | ((refine Qa rfl ?_); (first | refine Q0 ?_ | refine Q1 ?_ | refine Q5 rfl ?_); (refine QX rfl rfl ?_)) | refine Qh ?_ | refine Qi rfl ?_ | refine Qs ?_)
        refine awp_ret ?_
        refine ⟨_, rfl, ?_⟩
        refine congrArg AV.bool ?_
        simp [phB, h3, e1, hf]
      | true =>
        repeat' (first | ((refine Qa rfl ?_); (first | refine Q0 ?_ | refine Q3 rfl rfl rfl ?_ | refine Q5 rfl ?_); (refine QX rfl rfl ?_)) | refine Qa rfl ?_)
        refine st_call (fun _ => rfl) rfl ?_
        refine ACalls.mono (acalls_pure (E := E0 X) (fun X => hret X) (by simp [IdsLtL]) _) ?_
        rintro r H' ⟨rfl, rfl⟩
        first | refine nx rfl rfl ?_ | refine nx0 ?_
        repeat' (first | ((refine Qa rfl ?_); (first | refine Q1 ?_ | refine Q5 rfl ?_); (refine QX rfl rfl ?_)) | refine Qh ?_ | refine Qs ?_)
        refine awp_ret ?_
        refine ⟨_, rfl, ?_⟩
        refine congrArg AV.bool ?_
        simp [phB, h3, e1, hf]
    · rename_i e1
      refine awp_ret ?_
      refine ⟨_, rfl, ?_⟩
      refine congrArg AV.bool ?_
      simp [phB, h3, e1]
  · skip
    repeat' (first | ((refine Qa rfl ?_); (refine Q1 ?_); (refine QX rfl rfl ?_)) | refine Qh ?_ | refine Ql ?_ | refine Qm ?_ | refine Qo rfl ?_ | refine Qs ?_)
    refine awp_ret ?_
    refine ⟨_, rfl, ?_⟩
    refine congrArg AV.bool ?_
    simp [phB, h1, h2, h3]
set_option maxHeartbeats 0 in
set_option maxRecDepth 100000 in
theorem svalid_c (X : Nat → Prop) (s : Sb) (hfl : s.fo.length ≤ 4611686018427387904) : ACalls (E0 X) 70 [sbA s] [] (fun r H' => r = .bool (sbB s) ∧ H' = []) := by
  refine ACalls.cut0 ?_ trivial
  have hph := fun X => phase_c X s hfl
  obtain ⟨gen, phase, mig, tail, now, t, h, fo⟩ := s
  show ACalls (E0 X) 70 [.agg [.int .i64 gen, .int .i64 phase, .int .i64 mig, .int .i64 tail, .int .i64 now, .int .i64 t.id, .int .i64 t.ver, .int .i64 t.rs, .int .i64 t.regs, .int .i64 h.id, .int .i64 h.ver, .int .i64 h.rs, .int .i64 h.regs, .sl 4 (fo.map laA)]] [] _
  refine acalls_of Proofs.Tryd.func70 rfl Proofs.Tryd.ntmps70 (by kernel_rfl) rfl ?_
  intro hH hargs
  clear hH hargs
  repeat' (first | ((refine Qa rfl ?_); (first | refine Q0 ?_ | refine Q1 ?_ | refine Q2 rfl ?_ | refine Q3 rfl rfl rfl ?_ | refine Q4 rfl rfl rfl rfl rfl ?_ | refine Q5 rfl ?_ | refine QK rfl ?_); (refine QX rfl rfl ?_)) | refine Qa rfl ?_ | refine Qh ?_ | refine Qi rfl ?_ | refine Ql ?_ | refine Qo rfl ?_ | refine Qs ?_ | ((fail_if_success refine QV rfl ?_); refine Qy rfl rfl (fun _ => ?_) (fun _ => ?_)))
  any_goals (refine awp_ret ?_; refine ⟨_, rfl, ?_⟩; refine congrArg AV.bool ?_; simp [sbB, *]; done)
  refine st_call (fun _ => rfl) rfl ?_
  refine ACalls.mono (acalls_pure (E := E0 X) (fun X => form_c X t) (by simp [IdsLtL]) _) ?_
  rintro r H' ⟨rfl, rfl⟩
  first | refine nx rfl rfl ?_ | refine nx0 ?_
  cases hf : formB t with
  | false =>
    repeat' (first | ((refine Qa rfl ?_); (first | refine Q0 ?_ | refine Q1 ?_ | refine Q5 rfl ?_); (refine QX rfl rfl ?_)) | refine Qh ?_ | refine Qi rfl ?_ | refine Qs ?_)
    refine awp_ret ?_
    refine ⟨_, rfl, ?_⟩
    refine congrArg AV.bool ?_
    simp [sbB, *]
  | true =>
    repeat' (first | ((refine Qa rfl ?_); (first | refine Q0 ?_ | refine Q3 rfl rfl rfl ?_ | refine Q5 rfl ?_); (refine QX rfl rfl ?_)) | refine Qa rfl ?_)
    refine st_call (fun _ => rfl) rfl ?_
    refine ACalls.mono (acalls_pure (E := E0 X) (fun X => hph X) (by simp [IdsLtL]) _) ?_
    rintro r H' ⟨rfl, rfl⟩
    first | refine nx rfl rfl ?_ | refine nx0 ?_
    repeat' (first | ((refine Qa rfl ?_); (first | refine Q1 ?_ | refine Q5 rfl ?_); (refine QX rfl rfl ?_)) | refine Qh ?_ | refine Qs ?_)
    refine awp_ret ?_
    refine ⟨_, rfl, ?_⟩
    refine congrArg AV.bool ?_
    simp [sbB, *]
end Go.Abs
namespace Go.Abs
deriving instance DecidableEq for Sb
theorem retB_no {s : Sb} (h : ¬ s.fo.length = 2) : retB s = false := by
  unfold retB
  split
  · rename_i a b he; rw [he] at h; exact absurd rfl h
  · rfl
theorem la_neq (p q : La) : (!(decide (p.id = q.id) && (decide (p.ver = q.ver) && (decide (p.rs = q.rs) && (decide (p.regs = q.regs) && true))))) = !decide (p = q) := by rw [la_same]
theorem ret_dec {gen phase mig tail now : Int} {t h b : La} (hb : formB b = true) : retB ⟨gen, phase, mig, tail, now, t, h, [h, b]⟩ = decide (t.id ≠ h.id ∧ t.id ≠ b.id ∧ h.id ≠ b.id ∧ t.ver = h.ver ∧ t.rs = h.rs ∧ t.regs = h.regs) := by
  obtain ⟨t1, t2, t3, t4⟩ := t
  rw [Bool.eq_iff_iff]
  simp only [retB, hb, Bool.and_eq_true, decide_eq_true_eq, La.mk.injEq, true_and]
  omega
theorem br3 {P : Nat → Prop} {a b c : Nat} (h1 : P a) (h2 : P b) (h3 : P c) : ∀ i ∈ [a, b, c], P i := fun i hi => by
  simp only [List.mem_cons, List.not_mem_nil, or_false] at hi
  rcases hi with rfl | rfl | rfl
  · exact h1
  · exact h2
  · exact h3
theorem threeI {E : Env} {N : Nat} {sl sl' : List (Nat × AV)} {hp : Hp} {o1 o2 o3 : AO} (ids : List Nat) (hnd : ids.Nodup) (hlen : [o1, o2, o3].length = ids.length) (h0 : HOk 0 (hp.take 0)) (hh : hp.take 0 ++ [o1, o2, o3].map some = [some o1, some o2, some o3]) (hsl : ∀ p ∈ sl', Ren (gcF 0 ids) (get sl p.1) p.2) (hos : OsOk hp (gcF 0 ids) ids [o1, o2, o3]) : Imp E N 0 ⟨sl, hp⟩ ⟨sl', [some o1, some o2, some o3]⟩ :=
  imp_tid 0 ids (os := [o1, o2, o3]) (Nat.le_refl _) (Nat.zero_le _) hnd (fun _ _ => Nat.zero_le _) h0 hlen hh hsl hos
attribute [local irreducible] AStep aops AWp Nx awM
set_option maxHeartbeats 0 in
set_option maxRecDepth 100000 in
theorem rsvalid_c (X : Nat → Prop) (s : Sb) : ACalls (E0 X) 37 [sbA s] [] (fun r H' => r = .bool (sbB s) ∧ H' = []) := by
  refine ACalls.cut0 ?_ trivial
  obtain ⟨gen, phase, mig, tail, now, t, h, fo⟩ := s
  show ACalls (E0 X) 37 [.agg [.int .i64 gen, .int .i64 phase, .int .i64 mig, .int .i64 tail, .int .i64 now, .int .i64 t.id, .int .i64 t.ver, .int .i64 t.rs, .int .i64 t.regs, .int .i64 h.id, .int .i64 h.ver, .int .i64 h.rs, .int .i64 h.regs, .sl 4 (fo.map laA)]] [] _
  refine acalls_of Proofs.Tryd.func37 rfl Proofs.Tryd.ntmps37 (by kernel_rfl) rfl ?_
  intro hH hargs
  clear hH hargs
  repeat' (first | ((refine Qa rfl ?_); (first | refine Q0 ?_ | refine Q1 ?_ | refine Q2 rfl ?_ | refine Q3 rfl rfl rfl ?_ | refine Q4 rfl rfl rfl rfl rfl ?_ | refine Q5 rfl ?_ | refine QK rfl ?_); (refine QX rfl rfl ?_)) | refine Qa rfl ?_ | refine Qh ?_ | refine Qi rfl ?_ | refine Ql ?_ | refine Qo rfl ?_ | refine Qp rfl ?_ | refine Qs ?_ | ((fail_if_success refine QV rfl ?_); refine Qy rfl rfl (fun _ => ?_) (fun _ => ?_)))
  any_goals (refine awp_ret ?_; refine ⟨_, rfl, ?_⟩; refine congrArg AV.bool (Eq.symm ?_); rw [Bool.eq_false_iff]; intro hh; simp only [sbB, Bool.and_eq_true, decide_eq_true_eq] at hh; omega)
  rename_i g0 g1 g2 g3 g4 g5 g6 g7
  have g9 : sbB ⟨gen, phase, mig, tail, now, t, h, fo⟩ = (formB t && phB ⟨gen, phase, mig, tail, now, t, h, fo⟩) := by
    have e1 : 1 ≤ gen := by omega
    have e2 : gen ≤ 1099511627775 := by omega
    have e3 : 0 ≤ mig := by omega
    have e4 : mig ≤ 4294967295 := by omega
    have e5 : 0 ≤ tail := by omega
    have e6 : tail ≤ 281474976710655 := by omega
    have e7 : 0 ≤ now := by omega
    have e8 : now ≤ 549755813888 := by omega
    simp [sbB, e1, e2, e3, e4, e5, e6, e7, e8]
  have hmig : 0 ≤ mig := by omega
  rw [g9]
  clear g0 g1 g2 g3 g4 g5 g6 g7 g9
  refine st_call (fun _ => rfl) rfl ?_
  refine ACalls.mono (acalls_pure (E := E0 X) (fun X => rform_c X t) (by simp [IdsLtL]) _) ?_
  rintro r H' ⟨rfl, rfl⟩
  first | refine nx rfl rfl ?_ | refine nx0 ?_
  cases hft : formB t with
  | false =>
    repeat' (first | ((refine Qa rfl ?_); (first | refine Q1 ?_ | refine Q5 rfl ?_ | refine QD rfl ?_); (refine QX rfl rfl ?_)) | refine Qh ?_ | refine Ql ?_ | refine Qo rfl ?_ | refine Qp rfl ?_ | refine Qs ?_)
    refine awp_ret ?_
    exact ⟨_, rfl, rfl⟩
  | true =>
  rw [Bool.true_and]
  repeat' (first | ((refine Qa rfl ?_); (first | refine Q1 ?_ | refine Q2 rfl ?_ | refine Q3 rfl rfl rfl ?_ | refine Q4 rfl rfl rfl rfl rfl ?_ | refine Q5 rfl ?_ | refine QD rfl ?_); (refine QX rfl rfl ?_)) | refine Qh ?_ | refine Ql ?_ | refine Qm ?_ | refine Qn ?_ | refine Qo rfl ?_ | refine Qq rfl ?_ | refine Qs ?_)
  refine awp_cond_dec rfl (fun h1 => ?_) (fun h1 => ?_)
  · skip
    repeat' (first | ((refine Qa rfl ?_); (first | refine Q0 ?_ | refine Q1 ?_ | refine Q2 rfl ?_ | refine Q3 rfl rfl rfl ?_ | refine Q4 rfl rfl rfl rfl rfl ?_ | refine Q5 rfl ?_ | refine Q7 rfl rfl rfl ?_ | refine QH rfl rfl rfl ?_ | refine QP rfl rfl rfl rfl rfl rfl ?_); (refine QX rfl rfl ?_)) | refine Qh ?_ | refine Qi rfl ?_ | refine Ql ?_ | refine Qo rfl ?_ | refine Qs ?_ | ((fail_if_success refine QV rfl ?_); refine Qz rfl rfl (fun _ => ?_) (fun _ => ?_)))
    · rename_i e1
      have e2 := (la_same h ⟨0, 0, 0, 0⟩).symm.trans e1
      refine awp_ret ?_
      refine ⟨_, rfl, ?_⟩
      refine congrArg AV.bool ?_
      simp only [phB, if_pos h1, e2]
      cases fo <;> simp <;> omega
    · rename_i e1
      have e2 := (la_same h ⟨0, 0, 0, 0⟩).symm.trans e1
      refine awp_ret ?_
      refine ⟨_, rfl, ?_⟩
      refine congrArg AV.bool ?_
      simp only [phB, if_pos h1, e2]
      rfl
  repeat' (first | ((refine Qa rfl ?_); (first | refine Q1 ?_ | refine Q2 rfl ?_); (refine QX rfl rfl ?_)) | refine Qh ?_ | refine Ql ?_ | refine Qo rfl ?_ | refine Qs ?_)
  refine awp_cond_dec rfl (fun h2 => ?_) (fun h2 => ?_)
  · skip
    repeat' (refine Ql ?_)
    refine awp_region_auto2 [] [] (by exact rfl) (by kernel_rfl) ?_
    repeat' (first | ((apply Qd rfl rfl rfl rfl); (first | refine Q0 ?_ | refine Q1 ?_ | refine Q2 rfl ?_ | refine Q3 rfl rfl rfl ?_ | refine Q4 rfl rfl rfl rfl rfl ?_ | refine Q5 rfl ?_); (exact QX rfl rfl ⟨rfl, rfl⟩)) | apply Qg rfl rfl | refine Qk ?_ | refine Qs ?_ | ((fail_if_success refine QW rfl rfl ?_); refine QT rfl rfl rfl (fun _ => ?_) (fun _ => ?_)))
    · rename_i e1
      apply ds rfl rfl rfl rfl
      · refine st_call (fun _ => rfl) rfl ?_
        refine ACalls.mono (acalls_pure (E := E0 X) (fun X => rform_c X h) (by simp [IdsLtL]) _) ?_
        rintro r H' ⟨rfl, rfl⟩
        first
        | exact nx rfl rfl ⟨rfl, rfl⟩
        | exact nx0 ⟨rfl, rfl⟩
      cases hf : formB h with
      | false =>
        repeat' (first | ((apply Qd rfl rfl rfl rfl); (first | refine Q0 ?_ | refine Q1 ?_ | refine Q5 rfl ?_); (exact QX rfl rfl ⟨rfl, rfl⟩)) | apply Qg rfl rfl | refine Qk ?_ | refine Qs ?_)
        refine awp_ret ?_
        refine ⟨_, rfl, ?_⟩
        refine congrArg AV.bool ?_
        simp [phB, h2, e1, hf]
      | true =>
        repeat' (first | ((apply Qd rfl rfl rfl rfl); (first | refine Q0 ?_ | refine Q1 ?_ | refine Q2 rfl ?_ | refine Q3 rfl rfl rfl ?_ | refine Q4 rfl rfl rfl rfl rfl ?_ | refine Q5 rfl ?_ | refine Q7 rfl rfl rfl ?_); (exact QX rfl rfl ⟨rfl, rfl⟩)) | apply Qg rfl rfl | refine Qk ?_ | refine Qs ?_ | ((fail_if_success refine QW rfl rfl ?_); refine QT rfl rfl rfl (fun _ => ?_) (fun _ => ?_)))
        · rename_i e2
          obtain ⟨a, rfl⟩ : ∃ a, fo = [a] := by
            have e3 : fo.length = 1 := by simp at e2; omega
            match fo, e3 with
            | [a], _ => exact ⟨a, rfl⟩
          apply ds rfl rfl rfl rfl
          · refine st_ixm (show [a][0]? = some a from rfl) rfl rfl rfl rfl rfl rfl rfl (by first | rfl | omega) rfl ?_
            first | exact nx rfl rfl ⟨rfl, rfl⟩ | exact nx0 ⟨rfl, rfl⟩
          repeat' (first | ((apply Qd rfl rfl rfl rfl); (first | refine Q0 ?_ | refine Q1 ?_ | refine Q2 rfl ?_ | refine Q3 rfl rfl rfl ?_ | refine Q4 rfl rfl rfl rfl rfl ?_ | refine Q5 rfl ?_ | refine QH rfl rfl rfl ?_); (exact QX rfl rfl ⟨rfl, rfl⟩)) | apply Qg rfl rfl | refine Qk ?_ | refine Qs ?_ | ((fail_if_success refine QW rfl rfl ?_); refine QU rfl rfl rfl (fun _ => ?_) (fun _ => ?_)))
          · rename_i e3
            have e4 := (la_same a h).symm.trans e3
            refine awp_ret ?_
            refine ⟨_, rfl, ?_⟩
            refine congrArg AV.bool ?_
            have e5 : a = h := of_decide_eq_true e4
            simp [phB, h2, e1, hf, e5]
          · rename_i e3
            have e4 := (la_same a h).symm.trans e3
            refine awp_ret ?_
            refine ⟨_, rfl, ?_⟩
            refine congrArg AV.bool ?_
            have e5 : ¬ a = h := of_decide_eq_false e4
            simp [phB, h2, e1, hf, e5]
        · rename_i e2
          have e3 : ¬ fo = [h] := fun e => by subst e; exact e2 rfl
          refine awp_ret ?_
          refine ⟨_, rfl, ?_⟩
          refine congrArg AV.bool ?_
          simp [phB, h2, e1, hf, e3]
    · rename_i e1
      refine awp_ret ?_
      refine ⟨_, rfl, ?_⟩
      refine congrArg AV.bool ?_
      simp [phB, h2, e1]
  repeat' (first | ((refine Qa rfl ?_); (first | refine Q1 ?_ | refine Q2 rfl ?_); (refine QX rfl rfl ?_)) | refine Qh ?_ | refine Ql ?_ | refine Qo rfl ?_ | refine Qs ?_)
  refine awp_cond_dec rfl (fun h3 => ?_) (fun h3 => ?_)
  · skip
    repeat' (refine Ql ?_)
    refine awp_region_auto2 [] [] (by exact rfl) (by kernel_rfl) ?_
    repeat' (first | ((first | refine Qa rfl ?_ | apply Qd rfl rfl rfl rfl); (first | refine Q0 ?_ | refine Q1 ?_ | refine Q2 rfl ?_ | refine Q3 rfl rfl rfl ?_ | refine Q4 rfl rfl rfl rfl rfl ?_ | refine Q5 rfl ?_); (first | exact QX rfl rfl ⟨rfl, rfl⟩ | refine QX rfl rfl ?_)) | refine Qh ?_ | apply Qg rfl rfl | refine Qk ?_ | refine Ql ?_ | refine Qo rfl ?_ | refine Qp rfl ?_ | refine Qs ?_ | ((fail_if_success refine QW rfl rfl ?_); refine QT rfl rfl rfl (fun _ => ?_) (fun _ => ?_)))
    · rename_i e1
      refine awp_ret ?_
      refine ⟨_, rfl, ?_⟩
      refine congrArg AV.bool ?_
      simp [phB, h3, e1]
    · rename_i e1
      have e2 : 0 < mig := by omega
      have hph : phB ⟨gen, phase, mig, tail, now, t, h, fo⟩ = (formB h && retB ⟨gen, phase, mig, tail, now, t, h, fo⟩) := by simp [phB, h3, e2]
      rw [hph]
      apply ds rfl rfl rfl rfl
      · refine st_call (fun _ => rfl) rfl ?_
        refine ACalls.mono (acalls_pure (E := E0 X) (fun X => rform_c X h) (by simp [IdsLtL]) _) ?_
        rintro r H' ⟨rfl, rfl⟩
        first
        | exact nx rfl rfl ⟨rfl, rfl⟩
        | exact nx0 ⟨rfl, rfl⟩
      cases hf : formB h with
      | false =>
        repeat' (first | ((first | refine Qa rfl ?_ | apply Qd rfl rfl rfl rfl); (first | refine Q0 ?_ | refine Q1 ?_ | refine Q5 rfl ?_ | refine QD rfl ?_); (first | exact QX rfl rfl ⟨rfl, rfl⟩ | refine QX rfl rfl ?_)) | refine Qh ?_ | apply Qg rfl rfl | refine Qk ?_ | refine Ql ?_ | refine Qo rfl ?_ | refine Qp rfl ?_ | refine Qs ?_)
        refine awp_ret ?_
        exact ⟨_, rfl, rfl⟩
      | true =>
      rw [Bool.true_and]
      repeat' (first | ((first | refine Qa rfl ?_ | apply Qd rfl rfl rfl rfl); (first | refine Q0 ?_ | refine Q1 ?_ | refine Q2 rfl ?_ | refine Q3 rfl rfl rfl ?_ | refine Q4 rfl rfl rfl rfl rfl ?_ | refine Q5 rfl ?_ | refine Q7 rfl rfl rfl ?_ | refine QD rfl ?_); (first | exact QX rfl rfl ⟨rfl, rfl⟩ | refine QX rfl rfl ?_)) | refine Qh ?_ | apply Qg rfl rfl | refine Qk ?_ | refine Ql ?_ | refine Qo rfl ?_ | refine Qp rfl ?_ | refine Qs ?_ | ((fail_if_success refine QW rfl rfl ?_); refine QT rfl rfl rfl (fun _ => ?_) (fun _ => ?_)))
      · rename_i e3
        rw [retB_no (by simp at e3 ⊢; omega)]
        refine awp_ret ?_
        exact ⟨_, rfl, rfl⟩
      · rename_i e3
        obtain ⟨a, b, rfl⟩ : ∃ a b, fo = [a, b] := by
          have e3 : fo.length = 2 := by simp at e3; omega
          match fo, e3 with
          | [a, b], _ => exact ⟨a, b, rfl⟩
        apply ds rfl rfl rfl rfl
        · refine st_ixm (show [a, b][0]? = some a from rfl) rfl rfl rfl rfl rfl rfl rfl (by first | rfl | omega) rfl ?_
          first | exact nx rfl rfl ⟨rfl, rfl⟩ | exact nx0 ⟨rfl, rfl⟩
        repeat' (first | ((first | refine Qa rfl ?_ | apply Qd rfl rfl rfl rfl); (first | refine Q0 ?_ | refine Q1 ?_ | refine Q3 rfl rfl rfl ?_ | refine Q4 rfl rfl rfl rfl rfl ?_ | refine Q5 rfl ?_ | refine QI rfl rfl rfl ?_); (first | exact QX rfl rfl ⟨rfl, rfl⟩ | refine QX rfl rfl ?_)) | refine Qh ?_ | apply Qg rfl rfl | refine Qk ?_ | refine Ql ?_ | refine Qo rfl ?_ | refine Qp rfl ?_ | refine Qs ?_ | ((fail_if_success refine QW rfl rfl ?_); refine QU rfl rfl rfl (fun _ => ?_) (fun _ => ?_)))
        · rename_i e4
          have e5 : ¬ a = h := by have := (la_neq a h).symm.trans e4; simpa using this
          refine awp_ret ?_
          refine ⟨_, rfl, congrArg AV.bool ?_⟩
          simp [retB, e5]
        · rename_i e4
          have e5 : a = h := by have := (la_neq a h).symm.trans e4; simpa using this
          subst e5
          apply ds rfl rfl rfl rfl
          · refine st_ixm (show [a, b][1]? = some b from rfl) rfl rfl rfl rfl rfl rfl rfl (by first | rfl | omega) rfl ?_
            first | exact nx rfl rfl ⟨rfl, rfl⟩ | exact nx0 ⟨rfl, rfl⟩
          repeat' ((apply Qd rfl rfl rfl rfl); (refine Q3 rfl rfl rfl ?_); (exact QX rfl rfl ⟨rfl, rfl⟩))
          apply ds rfl rfl rfl rfl
          · refine st_call (fun _ => rfl) rfl ?_
            refine ACalls.mono (acalls_pure (E := E0 X) (fun X => rform_c X b) (by simp [IdsLtL]) _) ?_
            rintro r H' ⟨rfl, rfl⟩
            first
            | exact nx rfl rfl ⟨rfl, rfl⟩
            | exact nx0 ⟨rfl, rfl⟩
          cases hb : formB b with
          | false =>
            repeat' (first | ((first | refine Qa rfl ?_ | apply Qd rfl rfl rfl rfl); (first | refine Q1 ?_ | refine Q5 rfl ?_ | refine QD rfl ?_); (first | exact QX rfl rfl ⟨rfl, rfl⟩ | refine QX rfl rfl ?_)) | refine Qh ?_ | refine Qk ?_ | refine Ql ?_ | refine Qo rfl ?_ | refine Qp rfl ?_ | refine Qs ?_)
            refine awp_ret ?_
            refine ⟨_, rfl, congrArg AV.bool ?_⟩
            simp [retB, hb]
          | true =>
            rw [ret_dec hb]
            repeat' (first | ((apply Qd rfl rfl rfl rfl); (first | refine Q5 rfl ?_ | refine QD rfl ?_); (exact QX rfl rfl ⟨rfl, rfl⟩)) | refine Qk ?_ | refine Ql ?_ | refine Qm ?_ | refine Qq rfl ?_)
            refine awp_pre (imp_freezeP (id := 0) (cs := [.int .i64 gen, .int .i64 phase, .int .i64 mig, .int .i64 tail, .int .i64 now, .int .i64 t.id, .int .i64 t.ver, .int .i64 t.rs, .int .i64 t.regs, .int .i64 a.id, .int .i64 a.ver, .int .i64 a.rs, .int .i64 a.regs, .sl 4 ([a, b].map laA)]) rfl) ?_
            refine awp_pre (imp_cutk 0 (Nat.zero_le _) hok_nil rfl (Nat.zero_le _) (sl' := [(1, .fp [.int .i64 gen, .int .i64 phase, .int .i64 mig, .int .i64 tail, .int .i64 now, .int .i64 t.id, .int .i64 t.ver, .int .i64 t.rs, .int .i64 t.regs, .int .i64 a.id, .int .i64 a.ver, .int .i64 a.rs, .int .i64 a.regs, .sl 4 ([a, b].map laA)])]) ?_) ?_
            · refine fa_cons ⟨rfl, trivial, trivial, trivial, trivial, trivial, trivial, trivial, trivial, trivial, trivial, trivial, trivial, trivial, la_ids _, trivial⟩ fa_nil
            refine awp_mid (s1 := ⟨[(3, .ptr 0 0), (4, .ptr 1 0), (5, .ptr 2 0)], [some (.cells (laL t) 29), some (.cells (laL a) 29), some (.cells (laL b) 29)]⟩) ?_ ?_
            rotate_left
            · skip
              repeat' (first | ((refine Qa rfl ?_); (first | refine Q0 ?_ | refine Q1 ?_ | refine Q2 rfl ?_ | refine Q3 rfl rfl rfl ?_ | refine Q4 rfl rfl rfl rfl rfl ?_ | refine Q5 rfl ?_); (refine QX rfl rfl ?_)) | refine Qh ?_ | refine Qi rfl ?_ | refine Ql ?_ | refine Qo rfl ?_ | refine Qs ?_ | ((fail_if_success refine QV rfl ?_); refine Qy rfl rfl (fun _ => ?_) (fun _ => ?_)))
              all_goals (refine awp_ret ?_; refine ⟨_, rfl, congrArg AV.bool ?_⟩; first | exact (decide_eq_false (by omega)).symm | exact decide_eq_decide.2 (by omega))
            refine awp_region_any [8, 9, 10, 11, 12, 13] [0, 1, 2, 3, 4, 5, 6, 7] (by exact rfl) ?_
            refine any_lin (fuel := 6) [0, 1, 2, 3, 4, 5, 6, 7] (by exact rfl) (by kernel_rfl) (by kernel_rfl) ?_
            repeat' ((apply Qe rfl rfl rfl rfl; intro H9); (first | refine Q3 rfl rfl rfl ?_ | refine Q4 rfl rfl rfl rfl rfl ?_); (exact QY rfl ⟨rfl, rfl⟩))
            apply ds_soN rfl rfl rfl rfl
            · intro H9
              refine st_ixm (show [a, b][1]? = some b from rfl) rfl rfl rfl rfl rfl rfl rfl (by first | rfl | omega) rfl ?_
              first | exact nxs rfl ⟨rfl, rfl⟩ | exact nx0 ⟨rfl, rfl⟩
            repeat' (first | ((apply Qe rfl rfl rfl rfl; intro H9); (refine Q3 rfl rfl rfl ?_); (exact QY rfl ⟨rfl, rfl⟩)) | refine Qk ?_)
            refine any_br [8, 9, 10] (by kernel_rfl) (br3 ?_ ?_ ?_)
            · refine mop_ef rfl rfl rfl ?_
              refine st_alloc rfl rfl ?_
              first | refine nx rfl rfl ?_ | refine nx0 ?_
              refine any_br [9, 10] (by kernel_rfl) (br2 ?_ ?_)
              · refine mop_ef rfl rfl rfl ?_
                refine st_alloc rfl rfl ?_
                first | refine nx rfl rfl ?_ | refine nx0 ?_
                refine any_lin (fuel := 0) [10, 11, 12, 13] (by exact rfl) (by kernel_rfl) (by kernel_rfl) ?_
                repeat' (first | ((refine Qc rfl rfl rfl ?_); (refine QJ rfl rfl ?_); (refine QX rfl rfl ?_)) | (refine Qf rfl rfl rfl ?_; refine QS rfl rfl rfl rfl rfl rfl rfl ?_; (refine QX rfl rfl ?_)) | refine Qk ?_ | refine Qw (by kernel_rfl) ?_)
                exact ⟨rfl, threeI [0, 1, 2] (by simp) rfl hok_nil (by simp) (fa_cons (ren_ptr rfl) (fa_cons (ren_ptr rfl) (fa_cons (ren_ptr rfl) fa_nil))) (os_cons rfl (renO_old 0 (fun i h => absurd h (Nat.not_lt_zero i)) ⟨trivial, trivial, trivial, trivial, trivial⟩) (os_cons rfl (renO_old 0 (fun i h => absurd h (Nat.not_lt_zero i)) ⟨trivial, trivial, trivial, trivial, trivial⟩) (os_cons rfl (renO_old 0 (fun i h => absurd h (Nat.not_lt_zero i)) ⟨trivial, trivial, trivial, trivial, trivial⟩) os_nil)))⟩
              · refine mop_ef rfl rfl rfl ?_
                refine st_alloc rfl rfl ?_
                first | refine nx rfl rfl ?_ | refine nx0 ?_
                refine any_lin (fuel := 0) [9, 11, 12, 13] (by exact rfl) (by kernel_rfl) (by kernel_rfl) ?_
                repeat' (first | ((refine Qc rfl rfl rfl ?_); (refine QJ rfl rfl ?_); (refine QX rfl rfl ?_)) | (refine Qf rfl rfl rfl ?_; refine QS rfl rfl rfl rfl rfl rfl rfl ?_; (refine QX rfl rfl ?_)) | refine Qk ?_ | refine Qw (by kernel_rfl) ?_)
                exact ⟨rfl, threeI [0, 2, 1] (by simp) rfl hok_nil (by simp) (fa_cons (ren_ptr rfl) (fa_cons (ren_ptr rfl) (fa_cons (ren_ptr rfl) fa_nil))) (os_cons rfl (renO_old 0 (fun i h => absurd h (Nat.not_lt_zero i)) ⟨trivial, trivial, trivial, trivial, trivial⟩) (os_cons rfl (renO_old 0 (fun i h => absurd h (Nat.not_lt_zero i)) ⟨trivial, trivial, trivial, trivial, trivial⟩) (os_cons rfl (renO_old 0 (fun i h => absurd h (Nat.not_lt_zero i)) ⟨trivial, trivial, trivial, trivial, trivial⟩) os_nil)))⟩
            · refine mop_ef rfl rfl rfl ?_
              refine st_alloc rfl rfl ?_
              first | refine nx rfl rfl ?_ | refine nx0 ?_
              refine any_br [8, 10] (by kernel_rfl) (br2 ?_ ?_)
              · refine mop_ef rfl rfl rfl ?_
                refine st_alloc rfl rfl ?_
                first | refine nx rfl rfl ?_ | refine nx0 ?_
                refine any_lin (fuel := 0) [10, 11, 12, 13] (by exact rfl) (by kernel_rfl) (by kernel_rfl) ?_
                repeat' (first | ((refine Qc rfl rfl rfl ?_); (refine QJ rfl rfl ?_); (refine QX rfl rfl ?_)) | (refine Qf rfl rfl rfl ?_; refine QS rfl rfl rfl rfl rfl rfl rfl ?_; (refine QX rfl rfl ?_)) | refine Qk ?_ | refine Qw (by kernel_rfl) ?_)
                exact ⟨rfl, threeI [1, 0, 2] (by simp) rfl hok_nil (by simp) (fa_cons (ren_ptr rfl) (fa_cons (ren_ptr rfl) (fa_cons (ren_ptr rfl) fa_nil))) (os_cons rfl (renO_old 0 (fun i h => absurd h (Nat.not_lt_zero i)) ⟨trivial, trivial, trivial, trivial, trivial⟩) (os_cons rfl (renO_old 0 (fun i h => absurd h (Nat.not_lt_zero i)) ⟨trivial, trivial, trivial, trivial, trivial⟩) (os_cons rfl (renO_old 0 (fun i h => absurd h (Nat.not_lt_zero i)) ⟨trivial, trivial, trivial, trivial, trivial⟩) os_nil)))⟩
              · refine mop_ef rfl rfl rfl ?_
                refine st_alloc rfl rfl ?_
                first | refine nx rfl rfl ?_ | refine nx0 ?_
                refine any_lin (fuel := 0) [8, 11, 12, 13] (by exact rfl) (by kernel_rfl) (by kernel_rfl) ?_
                repeat' (first | ((refine Qc rfl rfl rfl ?_); (refine QJ rfl rfl ?_); (refine QX rfl rfl ?_)) | (refine Qf rfl rfl rfl ?_; refine QS rfl rfl rfl rfl rfl rfl rfl ?_; (refine QX rfl rfl ?_)) | refine Qk ?_ | refine Qw (by kernel_rfl) ?_)
                exact ⟨rfl, threeI [2, 0, 1] (by simp) rfl hok_nil (by simp) (fa_cons (ren_ptr rfl) (fa_cons (ren_ptr rfl) (fa_cons (ren_ptr rfl) fa_nil))) (os_cons rfl (renO_old 0 (fun i h => absurd h (Nat.not_lt_zero i)) ⟨trivial, trivial, trivial, trivial, trivial⟩) (os_cons rfl (renO_old 0 (fun i h => absurd h (Nat.not_lt_zero i)) ⟨trivial, trivial, trivial, trivial, trivial⟩) (os_cons rfl (renO_old 0 (fun i h => absurd h (Nat.not_lt_zero i)) ⟨trivial, trivial, trivial, trivial, trivial⟩) os_nil)))⟩
            · refine mop_ef rfl rfl rfl ?_
              refine st_alloc rfl rfl ?_
              first | refine nx rfl rfl ?_ | refine nx0 ?_
              refine any_br [8, 9] (by kernel_rfl) (br2 ?_ ?_)
              · refine mop_ef rfl rfl rfl ?_
                refine st_alloc rfl rfl ?_
                first | refine nx rfl rfl ?_ | refine nx0 ?_
                refine any_lin (fuel := 0) [9, 11, 12, 13] (by exact rfl) (by kernel_rfl) (by kernel_rfl) ?_
                repeat' (first | ((refine Qc rfl rfl rfl ?_); (refine QJ rfl rfl ?_); (refine QX rfl rfl ?_)) | (refine Qf rfl rfl rfl ?_; refine QS rfl rfl rfl rfl rfl rfl rfl ?_; (refine QX rfl rfl ?_)) | refine Qk ?_ | refine Qw (by kernel_rfl) ?_)
                exact ⟨rfl, threeI [1, 2, 0] (by simp) rfl hok_nil (by simp) (fa_cons (ren_ptr rfl) (fa_cons (ren_ptr rfl) (fa_cons (ren_ptr rfl) fa_nil))) (os_cons rfl (renO_old 0 (fun i h => absurd h (Nat.not_lt_zero i)) ⟨trivial, trivial, trivial, trivial, trivial⟩) (os_cons rfl (renO_old 0 (fun i h => absurd h (Nat.not_lt_zero i)) ⟨trivial, trivial, trivial, trivial, trivial⟩) (os_cons rfl (renO_old 0 (fun i h => absurd h (Nat.not_lt_zero i)) ⟨trivial, trivial, trivial, trivial, trivial⟩) os_nil)))⟩
              · refine mop_ef rfl rfl rfl ?_
                refine st_alloc rfl rfl ?_
                first | refine nx rfl rfl ?_ | refine nx0 ?_
                refine any_lin (fuel := 0) [8, 11, 12, 13] (by exact rfl) (by kernel_rfl) (by kernel_rfl) ?_
                repeat' (first | ((refine Qc rfl rfl rfl ?_); (refine QJ rfl rfl ?_); (refine QX rfl rfl ?_)) | (refine Qf rfl rfl rfl ?_; refine QS rfl rfl rfl rfl rfl rfl rfl ?_; (refine QX rfl rfl ?_)) | refine Qk ?_ | refine Qw (by kernel_rfl) ?_)
                exact ⟨rfl, threeI [2, 1, 0] (by simp) rfl hok_nil (by simp) (fa_cons (ren_ptr rfl) (fa_cons (ren_ptr rfl) (fa_cons (ren_ptr rfl) fa_nil))) (os_cons rfl (renO_old 0 (fun i h => absurd h (Nat.not_lt_zero i)) ⟨trivial, trivial, trivial, trivial, trivial⟩) (os_cons rfl (renO_old 0 (fun i h => absurd h (Nat.not_lt_zero i)) ⟨trivial, trivial, trivial, trivial, trivial⟩) (os_cons rfl (renO_old 0 (fun i h => absurd h (Nat.not_lt_zero i)) ⟨trivial, trivial, trivial, trivial, trivial⟩) os_nil)))⟩
  · skip
    repeat' (first | ((refine Qa rfl ?_); (refine Q1 ?_); (refine QX rfl rfl ?_)) | refine Qh ?_ | refine Ql ?_ | refine Qm ?_ | refine Qo rfl ?_ | refine Qs ?_)
    refine awp_ret ?_
    refine ⟨_, rfl, ?_⟩
    refine congrArg AV.bool ?_
    simp [phB, h1, h2, h3]
end Go.Abs
namespace Go.Abs
theorem ACalls.own0 {E : Env} {f : FuncId} {args : List AV} {es : List AV} {e : TypeId} (h : ACalls E f args [] (fun r H' => ∃ id n, r = .own id 0 n ∧ n = es.length ∧ H'[id]? = some (some (.arr es e)))) (hes : IdsLtL 0 es) :
    ACalls E f args [] (fun r H' => r = .own 0 0 es.length ∧ H' = [some (.arr es e)]) :=
  h.imp fun r H' ⟨id, n, h1, h2, h3⟩ => by
    subst h1; subst h2
    refine ⟨_, _, ⟨rfl, rfl⟩, ?_⟩
    refine imp_tid 0 [id] (H' := [some (.arr es e)]) (os := [.arr es e]) (Nat.le_refl _) (Nat.zero_le _) (by simp) (by simp) (by simp [HOk]) rfl (by simp) ?_ ?_
    · exact fa_cons (ren_own (by simp [gcF])) fa_nil
    · exact os_cons h3 (renO_old 0 (fun i h => absurd h (Nat.not_lt_zero i)) hes) os_nil
theorem layout_at (X : Nat → Prop) (H : Hp) (x : AV) (b : List UInt8) (l : La) (hl : LaOk l) (hb : b.length ≤ 1000) (hx : srcA (E0 X) H 1 x = some (b.map u8A)) :
    ACalls (E0 X) 104 [x, laA l] H (fun r H' => r = .own H.length 0 (b.length + 7) ∧ H' = H ++ [some (.arr ((putL b l).map u8A) 5)]) := by
  refine (acalls_make (E := E0 X) (P := fun v H' => v = .own 0 0 ((putL b l).map u8A).length ∧ H' = [some (.arr ((putL b l).map u8A) 5)]) (fun X => ACalls.own0 (layout_x X b l hl hb) (idsL_map fun _ => u8A_ids)) (fun r h' h => by
    obtain ⟨h1, h2⟩ := h; subst h1; subst h2; exact ⟨rfl, by simp [noFzH, noFzO, noFz_map (f := u8A) (fun _ => rfl)]⟩) (Bor.sl (u8_ids _) hx (Bor.same laA_ids .nil))).mono ?_
  rintro r H' ⟨r0, h', ⟨rfl, rfl⟩, rfl, rfl⟩
  refine ⟨by simp [rnA, putL_len], ?_⟩
  show H ++ [some (AO.arr (rnL _ (List.map u8A _)) _)] = _
  rw [rnL_map (fun _ => rfl)]
def p6 (s : Sb) : List UInt8 := putN [] s.gen.toNat 5 ++ [UInt8.ofNat (s.phase.toNat % 256)]
def p21 (s : Sb) : List UInt8 := putN (putN (putN (p6 s) s.mig.toNat 4) s.tail.toNat 6) s.now.toNat 5
def p36 (s : Sb) : List UInt8 := putL (putL (p21 s) s.t) s.h ++ [UInt8.ofNat (s.fo.length % 256)]
def payS (s : Sb) : List UInt8 := match s.fo with
  | [_, f] => putL (p36 s) f
  | _ => p36 s
theorem p6_len (s : Sb) : (p6 s).length = 6 := by simp [p6, putN_len]
theorem p21_len (s : Sb) : (p21 s).length = 21 := by simp [p21, putN_len, p6_len]
theorem p36_len (s : Sb) : (p36 s).length = 36 := by simp [p36, putL_len, p21_len]
theorem payS_len (s : Sb) : (payS s).length = 36 ∨ (payS s).length = 43 := by
  unfold payS
  split
  · right; rw [putL_len, p36_len]
  · left; exact p36_len s
def encS (s : Sb) (sector : Nat) : List UInt8 := encF 3 0 sector (payS s)
theorem encS_len (s : Sb) (k : Nat) : (encS s k).length = 64 := encF_len (by rcases payS_len s with h | h <;> omega)
structure SbOk (s : Sb) : Prop where
  gen : 1 ≤ s.gen ∧ s.gen ≤ 1099511627775
  phase : 1 ≤ s.phase ∧ s.phase ≤ 3
  mig : 0 ≤ s.mig ∧ s.mig ≤ 4294967295
  tail : 0 ≤ s.tail ∧ s.tail ≤ 281474976710655
  now : 0 ≤ s.now ∧ s.now ≤ 549755813888
  t : formB s.t = true
  h : (s.h = ⟨0, 0, 0, 0⟩ ∧ s.fo = []) ∨ (formB s.h = true ∧ (s.fo = [s.h] ∨ ∃ b, s.fo = [s.h, b] ∧ formB b = true))
theorem sb_ok {s : Sb} (h : sbB s = true) : SbOk s := by
  obtain ⟨gen, phase, mig, tail, now, t, hm, fo⟩ := s
  simp only [sbB, Bool.and_eq_true, decide_eq_true_eq] at h
  obtain ⟨h1, h2, h3, h4, h5, h6, h7, h8, h9, h10⟩ := h
  simp only [phB] at h10
  have key : (1 ≤ phase ∧ phase ≤ 3) ∧ ((hm = ⟨0, 0, 0, 0⟩ ∧ fo = []) ∨ (formB hm = true ∧ (fo = [hm] ∨ ∃ b, fo = [hm, b] ∧ formB b = true))) := by
    split at h10
    · rename_i e
      simp only [Bool.and_eq_true, decide_eq_true_eq, List.isEmpty_iff] at h10
      exact ⟨by omega, .inl h10⟩
    · split at h10
      · rename_i e
        simp only [Bool.and_eq_true, decide_eq_true_eq] at h10
        exact ⟨by omega, .inr ⟨h10.2.1, .inl h10.2.2.1⟩⟩
      · split at h10
        · rename_i e
          simp only [Bool.and_eq_true, decide_eq_true_eq] at h10
          refine ⟨by omega, .inr ⟨h10.2.1, .inr ?_⟩⟩
          have h11 := h10.2.2
          unfold retB at h11
          split at h11
          · rename_i a b he
            simp only at he
            simp only [Bool.and_eq_true, decide_eq_true_eq] at h11
            exact ⟨b, by rw [he, h11.1], h11.2.1⟩
          · exact absurd h11 (by decide)
        · exact absurd h10 (by decide)
  exact ⟨⟨h1, h2⟩, key.1, ⟨h3, h4⟩, ⟨h5, h6⟩, ⟨h7, h8⟩, h9, key.2⟩
theorem la_zero : LaOk ⟨0, 0, 0, 0⟩ := ⟨by decide, by decide, by decide, by decide⟩
theorem SbOk.hok {s : Sb} (h : SbOk s) : LaOk s.h := by
  rcases h.h with ⟨h1, _⟩ | ⟨h1, _⟩
  · rw [h1]; exact la_zero
  · exact form_ok h1
theorem SbOk.len {s : Sb} (h : SbOk s) : s.fo.length ≤ 2 := by
  rcases h.h with ⟨_, h1⟩ | ⟨_, h1 | ⟨b, h1, _⟩⟩ <;> rw [h1] <;> simp
def sbC (s : Sb) : AV := .fp (sbL s)
theorem hok_b (l : List UInt8) : HOk 1 [some (.arr (l.map u8A) 5)] := hok_arr l
attribute [local irreducible] AStep aops AWp Nx awM
set_option maxHeartbeats 0 in
set_option maxRecDepth 100000 in
theorem senc_x (X : Nat → Prop) (s : Sb) (sector : Nat) (hv : sbB s = true) (hs : sector < 1048576) :
    ACalls (E0 X) 71 [sbA s, .int .i64 (sector : Int)] [] (fun r H' => r = .tup [.sl 1 ((encS s sector).map u8A), .int .i64 0] ∧ H' = []) := by
  have hok := sb_ok hv
  have hva := fun X => svalid_c X s (by have := hok.len; omega)
  rw [hv] at hva
  refine ACalls.cut0 ?_ ⟨idsL_map fun _ => u8A_ids, trivial, trivial⟩
  obtain ⟨⟨g1, g2⟩, ⟨g3, g4⟩, ⟨g5, g6⟩, ⟨g7, g8⟩, ⟨g9, g10⟩, g11, g12⟩ := id hok
  have gh := hok.hok
  have gl := hok.len
  have hpay : encS s sector = encF 3 0 sector (payS s) := rfl
  have hfp : payS s = match s.fo with | [_, f] => putL (p36 s) f | _ => p36 s := rfl
  have h36 : p36 s = putL (putL (p21 s) s.t) s.h ++ [UInt8.ofNat (s.fo.length % 256)] := rfl
  have h21 : p21 s = putN (putN (putN (p6 s) s.mig.toNat 4) s.tail.toNat 6) s.now.toNat 5 := rfl
  have h6 : p6 s = putN [] s.gen.toNat 5 ++ [UInt8.ofNat (s.phase.toNat % 256)] := rfl
  have l6 := p6_len s
  have l21 := p21_len s
  have l36 := p36_len s
  have lp := payS_len s
  rw [hpay]
  generalize payS s = pay at *
  generalize p36 s = b36 at *
  generalize p21 s = b21 at *
  generalize p6 s = b6 at *
  obtain ⟨gen, phase, mig, tail, now, t, h, fo⟩ := s
  simp only at g1 g2 g3 g4 g5 g6 g7 g8 g9 g10 g11 g12 gh gl hfp h36 h21 h6
  obtain ⟨gen, rfl⟩ := Int.eq_ofNat_of_zero_le (show 0 ≤ gen by omega)
  obtain ⟨phase, rfl⟩ := Int.eq_ofNat_of_zero_le (show 0 ≤ phase by omega)
  obtain ⟨mig, rfl⟩ := Int.eq_ofNat_of_zero_le g5
  obtain ⟨tail, rfl⟩ := Int.eq_ofNat_of_zero_le g7
  obtain ⟨now, rfl⟩ := Int.eq_ofNat_of_zero_le g9
  simp only [Int.toNat_natCast] at h21 h6
  show ACalls (E0 X) 71 [.agg [.int .i64 (gen : Int), .int .i64 (phase : Int), .int .i64 (mig : Int), .int .i64 (tail : Int), .int .i64 (now : Int), .int .i64 t.id, .int .i64 t.ver, .int .i64 t.rs, .int .i64 t.regs, .int .i64 h.id, .int .i64 h.ver, .int .i64 h.rs, .int .i64 h.regs, .sl 4 (fo.map laA)], .int .i64 (sector : Int)] [] _
  refine acalls_of Proofs.Tryd.func71 rfl Proofs.Tryd.ntmps71 (by kernel_rfl) rfl ?_
  intro hH hargs
  clear hH hargs
  repeat' (first | ((refine Qa rfl ?_); (first | refine Q1 ?_ | refine Q3 rfl rfl rfl ?_ | refine QK rfl ?_); (refine QX rfl rfl ?_)) | refine Qa rfl ?_ | refine Qh ?_ | refine Ql ?_ | refine Qo rfl ?_)
  refine st_call (fun _ => rfl) rfl ?_
  refine ACalls.mono (acalls_pure (E := E0 X) (fun X => hva X) (by simp [IdsLtL]) _) ?_
  rintro r H' ⟨rfl, rfl⟩
  first | refine nx rfl rfl ?_ | refine nx0 ?_
  repeat' (first | ((refine Qa rfl ?_); (refine QD rfl ?_); (refine QX rfl rfl ?_)) | refine Qh ?_ | refine Ql ?_ | refine Qm ?_ | refine Qq rfl ?_)
  refine awp_pre (imp_freezeP (id := 0) (cs := [.int .i64 (gen : Int), .int .i64 (phase : Int), .int .i64 (mig : Int), .int .i64 (tail : Int), .int .i64 (now : Int), .int .i64 t.id, .int .i64 t.ver, .int .i64 t.rs, .int .i64 t.regs, .int .i64 h.id, .int .i64 h.ver, .int .i64 h.rs, .int .i64 h.regs, .sl 4 (fo.map laA)]) rfl) ?_
  refine awp_pre (imp_cutk 0 (Nat.zero_le _) hok_nil rfl (Nat.zero_le _) (sl' := [(1, .int .i64 (sector : Int)), (2, .fp [.int .i64 (gen : Int), .int .i64 (phase : Int), .int .i64 (mig : Int), .int .i64 (tail : Int), .int .i64 (now : Int), .int .i64 t.id, .int .i64 t.ver, .int .i64 t.rs, .int .i64 t.regs, .int .i64 h.id, .int .i64 h.ver, .int .i64 h.rs, .int .i64 h.regs, .sl 4 (fo.map laA)])]) ?_) ?_
  · refine fa_cons ⟨rfl, trivial⟩ (fa_cons ⟨rfl, trivial, trivial, trivial, trivial, trivial, trivial, trivial, trivial, trivial, trivial, trivial, trivial, trivial, la_ids _, trivial⟩ fa_nil)
  refine awp_region_any [3, 8] [0, 1, 2, 4, 5, 6, 7, 9] (by exact rfl) ?_
  refine any_lin (fuel := 0) [0, 1, 2, 4, 5, 6, 7, 3, 8, 9] (by exact rfl) (by kernel_rfl) (by kernel_rfl) ?_
  repeat' ((first | refine Qc rfl rfl rfl ?_ | (apply Qe rfl rfl rfl rfl; intro H9)); (first | refine Q3 rfl rfl rfl ?_ | refine Q4 rfl rfl rfl rfl rfl ?_ | refine QG rfl rfl rfl rfl ?_ | refine QR rfl rfl rfl rfl rfl rfl rfl rfl rfl rfl rfl rfl ?_); (exact QY rfl ⟨rfl, rfl⟩))
  rw [wrap64 (by omega), byte_of]
  refine ds_ef rfl rfl rfl ?_
  refine st_call (fun _ => rfl) rfl ?_
  refine ACalls.mono (put_at X _ _ [] gen 5 (by decide) (by decide) (by simp) rfl) ?_
  rintro r H' ⟨rfl, rfl⟩
  first | refine nx rfl rfl ?_ | refine nx0 ?_
  refine ds_ef rfl rfl rfl ?_
  refine st_app (oid := some 0) (es := (putN [] gen 5).map u8A) (out := b6.map u8A) (n := 6) (dst_own rfl (by rw [List.length_map, putN_len])) (rfl) (oneEs_u8 [UInt8.ofNat (phase % 256)]) (by rw [h6, List.map_append]; rfl) (by rw [List.length_map, putN_len]; rfl) (by show _ ≤ 9223372036854775807; omega) (by show _ * 1 ≤ _; omega) rfl rfl rfl rfl rfl rfl rfl rfl ?_
  first | refine nx rfl rfl ?_ | refine nx0 ?_
  repeat' (first | ((first | refine Qa rfl ?_ | (apply Qe rfl rfl rfl rfl; intro H9)); (first | refine Q0 ?_ | refine Q1 ?_ | refine Q3 rfl rfl rfl ?_ | refine Q4 rfl rfl rfl rfl rfl ?_ | refine QG rfl rfl rfl rfl ?_); (first | exact QY rfl ⟨rfl, rfl⟩ | refine QX rfl rfl ?_)) | refine Qa rfl ?_ | refine Qk ?_ | refine Ql ?_ | refine Qo rfl ?_ | refine Qw (by kernel_rfl) ?_)
  rw [wrap64 (by omega)]
  refine st_call (fun _ => rfl) rfl ?_
  refine ACalls.mono (put_at X _ _ b6 mig 4 (by decide) (by decide) (by omega) (src_ownm' rfl rfl rfl (by omega) (by rw [List.drop_zero, List.take_of_length_le (by omega)]))) ?_
  rintro r H' ⟨rfl, rfl⟩
  first | refine nx rfl rfl ?_ | refine nx0 ?_
  have l10 : (putN b6 mig 4).length = 10 := by rw [putN_len, l6]
  generalize putN b6 mig 4 = b10 at *
  repeat' (first | ((refine Qa rfl ?_); (first | refine Q0 ?_ | refine Q1 ?_ | refine Q3 rfl rfl rfl ?_ | refine Q4 rfl rfl rfl rfl rfl ?_ | refine QG rfl rfl rfl rfl ?_); (refine QX rfl rfl ?_)) | refine Qa rfl ?_ | refine Qh ?_ | refine Ql ?_ | refine Qo rfl ?_)
  rw [wrap64 (by omega)]
  refine st_call (fun _ => rfl) rfl ?_
  refine ACalls.mono (put_at X _ _ b10 tail 6 (by decide) (by decide) (by omega) (src_ownm' rfl rfl rfl (by omega) (by rw [List.drop_zero, List.take_of_length_le (by omega)]))) ?_
  rintro r H' ⟨rfl, rfl⟩
  first | refine nx rfl rfl ?_ | refine nx0 ?_
  have l16 : (putN b10 tail 6).length = 16 := by rw [putN_len, l10]
  generalize putN b10 tail 6 = b16 at *
  repeat' (first | ((refine Qa rfl ?_); (first | refine Q0 ?_ | refine Q1 ?_ | refine Q3 rfl rfl rfl ?_ | refine Q4 rfl rfl rfl rfl rfl ?_ | refine QG rfl rfl rfl rfl ?_); (refine QX rfl rfl ?_)) | refine Qa rfl ?_ | refine Qh ?_ | refine Ql ?_ | refine Qo rfl ?_)
  rw [wrap64 (by omega)]
  refine st_call (fun _ => rfl) rfl ?_
  refine ACalls.mono (put_at X _ _ b16 now 5 (by decide) (by decide) (by omega) (src_ownm' rfl rfl rfl (by omega) (by rw [List.drop_zero, List.take_of_length_le (by omega)]))) ?_
  rintro r H' ⟨rfl, rfl⟩
  first | refine nx rfl rfl ?_ | refine nx0 ?_
  rw [← h21]
  repeat' (first | ((refine Qa rfl ?_); (refine Q1 ?_); (refine QX rfl rfl ?_)) | refine Qh ?_ | refine Ql ?_)
  refine awp_region_any [3, 6, 12] [0, 1, 2, 4, 5, 7, 8, 9, 10, 11, 13] (by exact rfl) ?_
  refine any_lin (fuel := 0) [0, 1, 2, 4, 5, 7, 8, 9, 10, 11, 3, 6, 12, 13] (by exact rfl) (by kernel_rfl) (by kernel_rfl) ?_
  repeat' ((first | refine Qc rfl rfl rfl ?_ | (apply Qe rfl rfl rfl rfl; intro H9)); (first | refine Q0 ?_ | refine Q3 rfl rfl rfl ?_ | refine Q4 rfl rfl rfl rfl rfl ?_ | refine Q7 rfl rfl rfl ?_ | refine QG rfl rfl rfl rfl ?_ | refine QR rfl rfl rfl rfl rfl rfl rfl rfl rfl rfl rfl rfl ?_); (exact QY rfl ⟨rfl, rfl⟩))
  rw [byte_of]
  refine ds_ef rfl rfl rfl ?_
  refine st_call (fun _ => rfl) rfl ?_
  refine ACalls.mono (layout_at X _ _ b21 t (form_ok g11) (by omega) (src_ownm' rfl rfl rfl (by omega) (by rw [List.drop_zero, List.take_of_length_le (by omega)]))) ?_
  rintro r H' ⟨rfl, rfl⟩
  first | refine nx rfl rfl ?_ | refine nx0 ?_
  have l28 : (putL b21 t).length = 28 := by rw [putL_len, l21]
  generalize putL b21 t = b28 at *
  refine ds_ef rfl rfl rfl ?_
  refine st_call (fun _ => rfl) rfl ?_
  refine ACalls.mono (layout_at X _ _ b28 h gh (by omega) (src_ownm' rfl rfl rfl (by omega) (by rw [List.drop_zero, List.take_of_length_le (by omega)]))) ?_
  rintro r H' ⟨rfl, rfl⟩
  first | refine nx rfl rfl ?_ | refine nx0 ?_
  have l35 : (putL b28 h).length = 35 := by rw [putL_len, l28]
  generalize putL b28 h = b35 at *
  refine ds_ef rfl rfl rfl ?_
  refine st_app (oid := some 6) (es := b35.map u8A) (out := b36.map u8A) (n := 36) (dst_own rfl (by rw [List.length_map]; omega)) (rfl) (oneEs_u8 [UInt8.ofNat ((fo.map laA).length % 256)]) (by rw [h36, List.map_append, List.length_map]; rfl) (by rw [List.length_map, l35]; rfl) (by show _ ≤ 9223372036854775807; omega) (by show _ * 1 ≤ _; omega) rfl rfl rfl rfl rfl rfl rfl rfl ?_
  first | refine nx rfl rfl ?_ | refine nx0 ?_
  repeat' (first | ((first | refine Qa rfl ?_ | (apply Qe rfl rfl rfl rfl; intro H9)); (first | refine Q1 ?_ | refine Q2 rfl ?_ | refine Q3 rfl rfl rfl ?_ | refine Q4 rfl rfl rfl rfl rfl ?_ | refine Q7 rfl rfl rfl ?_); (first | exact QY rfl ⟨rfl, rfl⟩ | refine QX rfl rfl ?_)) | refine Qh ?_ | refine Qk ?_ | refine Ql ?_ | refine Qo rfl ?_ | refine Qs ?_ | refine Qw (by kernel_rfl) ?_)
  refine awp_cond_dec rfl (fun h9 => ?_) (fun h9 => ?_)
  · obtain ⟨b, hfo, hb⟩ : ∃ b, fo = [h, b] ∧ formB b = true := by
      rcases g12 with ⟨_, h1⟩ | ⟨_, h1 | h1⟩
      · rw [h1] at h9; simp at h9
      · rw [h1] at h9; simp at h9
      · exact h1
    subst hfo
    have hpb : pay = putL b36 b := hfp
    have l43 : pay.length = 43 := by rw [hpb, putL_len, l36]
    repeat' (first | ((refine Qa rfl ?_); (first | refine Q0 ?_ | refine Q3 rfl rfl rfl ?_ | refine Q4 rfl rfl rfl rfl rfl ?_); (refine QX rfl rfl ?_)) | refine Qa rfl ?_ | refine Qo rfl ?_)
    refine st_ixm (show [h, b][1]? = some b from rfl) rfl rfl rfl rfl rfl rfl rfl (by first | rfl | omega) rfl ?_
    first | refine nx rfl rfl ?_ | refine nx0 ?_
    repeat' (first | ((refine Qa rfl ?_); (refine Q3 rfl rfl rfl ?_); (refine QX rfl rfl ?_)) | refine Qa rfl ?_)
    refine st_call (fun _ => rfl) rfl ?_
    refine ACalls.mono (layout_at X _ _ b36 b (form_ok hb) (by omega) (src_ownm' rfl rfl rfl (by omega) (by rw [List.drop_zero, List.take_of_length_le (by omega)]))) ?_
    rintro r H' ⟨rfl, rfl⟩
    first | refine nx rfl rfl ?_ | refine nx0 ?_
    rw [← hpb, l36]
    repeat' (first | ((refine Qa rfl ?_); (refine Q1 ?_); (refine QX rfl rfl ?_)) | refine Qh ?_)
    refine then_i ?_
    refine awp_pre (imp_freeze (id := 8) (k := 1) (es := pay.map u8A) (e := 5) rfl rfl rfl) ?_
    refine awp_pre (imp_cutk 0 (Nat.zero_le _) hok_nil rfl (Nat.zero_le _) (sl' := [(1, .int .i64 (sector : Int)), (6, .sl 1 (pay.map u8A))]) ?_) ?_
    · refine fa_cons ⟨rfl, trivial⟩ (fa_cons ⟨?_, idsL_map fun _ => u8A_ids⟩ fa_nil)
      show frz 8 _ _ (.own 8 0 (36 + 7)) = _
      exact frz_own (by simp [l43])
    repeat' (first | ((refine Qa rfl ?_); (refine Q0 ?_); (refine QX rfl rfl ?_)) | refine Qa rfl ?_ | refine Ql ?_ | refine Qo rfl ?_)
    refine st_call (fun _ => rfl) rfl ?_
    refine ACalls.mono (fenc_c X 3 0 sector pay ⟨by decide, by decide, hs⟩ (by decide) (by omega)) ?_
    rintro r H' ⟨rfl, rfl⟩
    first | refine nx rfl rfl ?_ | refine nx0 ?_
    repeat' (first | ((refine Qa rfl ?_); (first | refine Q1 ?_ | refine QC rfl rfl ?_); (refine QX rfl rfl ?_)) | refine Qh ?_ | refine Qs ?_)
    refine awp_ret ?_
    exact ⟨_, rfl, rfl⟩
  · have hpb : pay = b36 := by
      rcases g12 with ⟨_, h1⟩ | ⟨_, h1 | ⟨b, h1, _⟩⟩
      · rw [hfp, h1]
      · rw [hfp, h1]
      · rw [h1] at h9; exact absurd (by simp) h9
    rw [hpb]
    refine awp_skip ?_
    refine then_i ?_
    refine awp_pre (imp_freeze (id := 7) (k := 1) (es := b36.map u8A) (e := 5) rfl rfl rfl) ?_
    refine awp_pre (imp_cutk 0 (Nat.zero_le _) hok_nil rfl (Nat.zero_le _) (sl' := [(1, .int .i64 (sector : Int)), (6, .sl 1 (b36.map u8A))]) ?_) ?_
    · refine fa_cons ⟨rfl, trivial⟩ (fa_cons ⟨?_, idsL_map fun _ => u8A_ids⟩ fa_nil)
      show frz 7 _ _ (.own 7 0 36) = _
      exact frz_own (by simp [l36])
    repeat' (first | ((refine Qa rfl ?_); (refine Q0 ?_); (refine QX rfl rfl ?_)) | refine Qa rfl ?_ | refine Ql ?_ | refine Qo rfl ?_)
    refine st_call (fun _ => rfl) rfl ?_
    refine ACalls.mono (fenc_c X 3 0 sector b36 ⟨by decide, by decide, hs⟩ (by decide) (by omega)) ?_
    rintro r H' ⟨rfl, rfl⟩
    first | refine nx rfl rfl ?_ | refine nx0 ?_
    repeat' (first | ((refine Qa rfl ?_); (first | refine Q1 ?_ | refine QC rfl rfl ?_); (refine QX rfl rfl ?_)) | refine Qh ?_ | refine Qs ?_)
    refine awp_ret ?_
    exact ⟨_, rfl, rfl⟩
set_option maxHeartbeats 0 in
theorem sencbad_c (X : Nat → Prop) (s : Sb) (sector : Int) (hv : sbB s = false) (hfl : s.fo.length ≤ 4611686018427387904) :
    ACalls (E0 X) 71 [sbA s, .int .i64 sector] [] (fun r H' => r = .tup [.nils, .int .i64 4] ∧ H' = []) := by
  refine ACalls.cut0 ?_ ⟨trivial, trivial, trivial⟩
  have hva := fun X => svalid_c X s hfl
  rw [hv] at hva
  refine acalls_of Proofs.Tryd.func71 rfl Proofs.Tryd.ntmps71 (by kernel_rfl) rfl ?_
  intro hH hargs
  clear hH hargs
  repeat' (first | ((refine Qa rfl ?_); (first | refine Q1 ?_ | refine Q3 rfl rfl rfl ?_ | refine QK rfl ?_); (refine QX rfl rfl ?_)) | refine Qa rfl ?_ | refine Qh ?_ | refine Ql ?_ | refine Qo rfl ?_)
  refine st_call (fun _ => rfl) rfl ?_
  refine ACalls.mono (acalls_pure (E := E0 X) (fun X => hva X) (by simp [IdsLtL]) _) ?_
  rintro r H' ⟨rfl, rfl⟩
  first | refine nx rfl rfl ?_ | refine nx0 ?_
  repeat' (first | ((refine Qa rfl ?_); (first | refine Q1 ?_ | refine QD rfl ?_); (refine QX rfl rfl ?_)) | refine Qh ?_ | refine Ql ?_ | refine Qo rfl ?_ | refine Qp rfl ?_ | refine Qs ?_)
  refine awp_ret ?_
  exact ⟨_, rfl, rfl⟩
def encSO (s : Sb) (sector : Nat) : Option (List UInt8) := if sbB s = true then some (encS s sector) else none
theorem senc_o (X : Nat → Prop) (s : Sb) (sector : Nat) (hs : sector < 1048576) (hfl : s.fo.length ≤ 4611686018427387904) :
    ACalls (E0 X) 71 [sbA s, .int .i64 (sector : Int)] [] (fun r H' => r = (match encSO s sector with | some e => .tup [.sl 1 (e.map u8A), .int .i64 0] | none => .tup [.nils, .int .i64 4]) ∧ H' = []) := by
  unfold encSO
  cases hv : sbB s with
  | false => exact sencbad_c X s sector hv hfl
  | true => exact senc_x X s sector hv hs
end Go.Abs
namespace Go.Abs
theorem SbOk.hlog {s : Sb} (h : SbOk s) : max (logI s.h.rs) 0 = ((lenN s.h.rs.toNat - 1 : Nat) : Int) := by
  rcases h.h with ⟨h1, _⟩ | ⟨h1, _⟩
  · rw [h1]; kernel_rfl
  · exact form_log2 h1
theorem rputl_at (X : Nat → Prop) (H : Hp) (x : AV) (b : List UInt8) (l : La) (hl : LaOk l) (hlg : max (logI l.rs) 0 = ((lenN l.rs.toNat - 1 : Nat) : Int)) (hb : b.length ≤ 1000) (hx : srcA (E0 X) H 1 x = some (b.map u8A)) :
    ACalls (E0 X) 72 [x, laA l] H (fun r H' => r = .own H.length 0 (b.length + 7) ∧ H' = H ++ [some (.arr ((putL b l).map u8A) 5)]) := by
  refine (acalls_make (E := E0 X) (P := fun v H' => v = .own 0 0 ((putL b l).map u8A).length ∧ H' = [some (.arr ((putL b l).map u8A) 5)]) (fun X => ACalls.own0 (rputl_x X b l hl hlg hb) (idsL_map fun _ => u8A_ids)) (fun r h' h => by
    obtain ⟨h1, h2⟩ := h; subst h1; subst h2; exact ⟨rfl, by simp [noFzH, noFzO, noFz_map (f := u8A) (fun _ => rfl)]⟩) (Bor.sl (u8_ids _) hx (Bor.same laA_ids .nil))).mono ?_
  rintro r H' ⟨r0, h', ⟨rfl, rfl⟩, rfl, rfl⟩
  refine ⟨by simp [rnA, putL_len], ?_⟩
  show H ++ [some (AO.arr (rnL _ (List.map u8A _)) _)] = _
  rw [rnL_map (fun _ => rfl)]
attribute [local irreducible] AStep aops AWp Nx awM
set_option maxHeartbeats 0 in
set_option maxRecDepth 100000 in
theorem rsenc_c (X : Nat → Prop) (s : Sb) (sector : Nat) (hv : sbB s = true) (hs : sector < 1048576) :
    ACalls (E0 X) 39 [sbA s, .int .i64 (sector : Int)] [] (fun r H' => r = .sl 1 ((encS s sector).map u8A) ∧ H' = []) := by
  have hok := sb_ok hv
  refine ACalls.cut0 ?_ (idsL_map fun _ => u8A_ids)
  obtain ⟨⟨g1, g2⟩, ⟨g3, g4⟩, ⟨g5, g6⟩, ⟨g7, g8⟩, ⟨g9, g10⟩, g11, g12⟩ := id hok
  have gh := hok.hok
  have gl := hok.len
  have glt := form_log2 hok.t
  have glh := hok.hlog
  have hpay : encS s sector = encF 3 0 sector (payS s) := rfl
  have hfp : payS s = match s.fo with | [_, f] => putL (p36 s) f | _ => p36 s := rfl
  have h36 : p36 s = putL (putL (p21 s) s.t) s.h ++ [UInt8.ofNat (s.fo.length % 256)] := rfl
  have h21 : p21 s = putN (putN (putN (p6 s) s.mig.toNat 4) s.tail.toNat 6) s.now.toNat 5 := rfl
  have h6 : p6 s = putN [] s.gen.toNat 5 ++ [UInt8.ofNat (s.phase.toNat % 256)] := rfl
  have l6 := p6_len s
  have l21 := p21_len s
  have l36 := p36_len s
  have lp := payS_len s
  rw [hpay]
  generalize payS s = pay at *
  generalize p36 s = b36 at *
  generalize p21 s = b21 at *
  generalize p6 s = b6 at *
  obtain ⟨gen, phase, mig, tail, now, t, h, fo⟩ := s
  simp only at g1 g2 g3 g4 g5 g6 g7 g8 g9 g10 g11 g12 gh gl glt glh hfp h36 h21 h6
  obtain ⟨gen, rfl⟩ := Int.eq_ofNat_of_zero_le (show 0 ≤ gen by omega)
  obtain ⟨phase, rfl⟩ := Int.eq_ofNat_of_zero_le (show 0 ≤ phase by omega)
  obtain ⟨mig, rfl⟩ := Int.eq_ofNat_of_zero_le g5
  obtain ⟨tail, rfl⟩ := Int.eq_ofNat_of_zero_le g7
  obtain ⟨now, rfl⟩ := Int.eq_ofNat_of_zero_le g9
  simp only [Int.toNat_natCast] at h21 h6
  show ACalls (E0 X) 39 [.agg [.int .i64 (gen : Int), .int .i64 (phase : Int), .int .i64 (mig : Int), .int .i64 (tail : Int), .int .i64 (now : Int), .int .i64 t.id, .int .i64 t.ver, .int .i64 t.rs, .int .i64 t.regs, .int .i64 h.id, .int .i64 h.ver, .int .i64 h.rs, .int .i64 h.regs, .sl 4 (fo.map laA)], .int .i64 (sector : Int)] [] _
  refine acalls_of Proofs.Tryd.func39 rfl Proofs.Tryd.ntmps39 (by kernel_rfl) rfl ?_
  intro hH hargs
  clear hH hargs
  repeat' (first | ((refine Qa rfl ?_); (first | refine Q1 ?_ | refine Q3 rfl rfl rfl ?_ | refine Q4 rfl rfl rfl rfl rfl ?_ | refine QG rfl rfl rfl rfl ?_ | refine QK rfl ?_); (refine QX rfl rfl ?_)) | refine Qa rfl ?_ | refine Qh ?_ | refine Ql ?_ | refine Qo rfl ?_)
  rw [wrap64 (by omega)]
  refine st_call (fun _ => rfl) rfl ?_
  refine ACalls.mono (rput_at X _ _ [] gen 5 (by decide) (by decide) (by simp) rfl) ?_
  rintro r H' ⟨rfl, rfl⟩
  first | refine nx rfl rfl ?_ | refine nx0 ?_
  repeat' (first | ((refine Qa rfl ?_); (refine Q1 ?_); (refine QX rfl rfl ?_)) | refine Qh ?_ | refine Ql ?_)
  refine awp_pre (imp_freezeP (id := 0) (cs := [.int .i64 (gen : Int), .int .i64 (phase : Int), .int .i64 (mig : Int), .int .i64 (tail : Int), .int .i64 (now : Int), .int .i64 t.id, .int .i64 t.ver, .int .i64 t.rs, .int .i64 t.regs, .int .i64 h.id, .int .i64 h.ver, .int .i64 h.rs, .int .i64 h.regs, .sl 4 (fo.map laA)]) rfl) ?_
  refine awp_pre (imp_tid 0 [1] (sl' := [(1, .int .i64 (sector : Int)), (2, .fp [.int .i64 (gen : Int), .int .i64 (phase : Int), .int .i64 (mig : Int), .int .i64 (tail : Int), .int .i64 (now : Int), .int .i64 t.id, .int .i64 t.ver, .int .i64 t.rs, .int .i64 t.regs, .int .i64 h.id, .int .i64 h.ver, .int .i64 h.rs, .int .i64 h.regs, .sl 4 (fo.map laA)]), (5, .own 0 0 5)]) (H' := [some (.arr ((putN [] gen 5).map u8A) 5)]) (os := [.arr ((putN [] gen 5).map u8A) 5]) (Nat.le_refl _) (Nat.zero_le _) (by simp) (by simp) (by simp [HOk]) rfl rfl ?_ ?_) ?_
  · exact fa_cons (ren_lt rfl trivial) (fa_cons (ren_lt rfl ⟨trivial, trivial, trivial, trivial, trivial, trivial, trivial, trivial, trivial, trivial, trivial, trivial, trivial, la_ids _, trivial⟩) (fa_cons (ren_own rfl) fa_nil))
  · exact os_cons rfl (renO_old 0 (fun i h => absurd h (Nat.not_lt_zero i)) (idsL_map fun _ => u8A_ids)) os_nil
  refine awp_region_any [5, 9] [0, 1, 2, 3, 4, 6, 7, 8, 10] (by exact rfl) ?_
  refine any_lin (fuel := 0) [0, 1, 2, 3, 4, 6, 7, 8, 5, 9, 10] (by exact rfl) (by kernel_rfl) (by kernel_rfl) ?_
  repeat' ((first | refine Qc rfl rfl rfl ?_ | (apply Qe rfl rfl rfl rfl; intro H9)); (first | refine Q0 ?_ | refine Q3 rfl rfl rfl ?_ | refine Q4 rfl rfl rfl rfl rfl ?_ | refine QG rfl rfl rfl rfl ?_ | refine QR rfl rfl rfl rfl rfl rfl rfl rfl rfl rfl rfl rfl ?_); (exact QY rfl ⟨rfl, rfl⟩))
  rw [byte_of, wrap64 (by omega)]
  refine ds_ef rfl rfl rfl ?_
  refine st_app (oid := some 0) (es := (putN [] gen 5).map u8A) (out := b6.map u8A) (n := 6) (dst_own rfl (by rw [List.length_map, putN_len]; rfl)) (rfl) (oneEs_u8 [UInt8.ofNat (phase % 256)]) (by rw [h6, List.map_append]; rfl) (by rw [List.length_map, putN_len]; rfl) (by show _ ≤ 9223372036854775807; omega) (by show _ * 1 ≤ _; omega) rfl rfl rfl rfl rfl rfl rfl rfl ?_
  first | refine nx rfl rfl ?_ | refine nx0 ?_
  refine ds_ef rfl rfl rfl ?_
  refine st_call (fun _ => rfl) rfl ?_
  refine ACalls.mono (rput_at X _ _ b6 mig 4 (by decide) (by decide) (by omega) (src_ownm' rfl rfl rfl (by omega) (by rw [List.drop_zero, List.take_of_length_le (by omega)]))) ?_
  rintro r H' ⟨rfl, rfl⟩
  first | refine nx rfl rfl ?_ | refine nx0 ?_
  have l10 : (putN b6 mig 4).length = 10 := by rw [putN_len, l6]
  generalize putN b6 mig 4 = b10 at *
  repeat' (first | ((apply Qe rfl rfl rfl rfl; intro H9); (refine Q1 ?_); (exact QY rfl ⟨rfl, rfl⟩)) | refine Qk ?_ | refine Ql ?_ | refine Qw (by kernel_rfl) ?_)
  refine awp_region_any [4, 8] [0, 1, 2, 3, 5, 6, 7, 9] (by exact rfl) ?_
  refine any_lin (fuel := 0) [0, 1, 2, 3, 5, 6, 7, 4, 8, 9] (by exact rfl) (by kernel_rfl) (by kernel_rfl) ?_
  repeat' ((first | refine Qc rfl rfl rfl ?_ | (apply Qe rfl rfl rfl rfl; intro H9)); (first | refine Q0 ?_ | refine Q3 rfl rfl rfl ?_ | refine Q4 rfl rfl rfl rfl rfl ?_ | refine QG rfl rfl rfl rfl ?_); (exact QY rfl ⟨rfl, rfl⟩))
  rw [wrap64 (by omega), wrap64 (by omega)]
  refine ds_ef rfl rfl rfl ?_
  refine st_call (fun _ => rfl) rfl ?_
  refine ACalls.mono (rput_at X _ _ b10 tail 6 (by decide) (by decide) (by omega) (src_ownm' rfl rfl rfl (by omega) (by rw [List.drop_zero, List.take_of_length_le (by omega)]))) ?_
  rintro r H' ⟨rfl, rfl⟩
  first | refine nx rfl rfl ?_ | refine nx0 ?_
  have l16 : (putN b10 tail 6).length = 16 := by rw [putN_len, l10]
  generalize putN b10 tail 6 = b16 at *
  refine ds_ef rfl rfl rfl ?_
  refine st_call (fun _ => rfl) rfl ?_
  refine ACalls.mono (rput_at X _ _ b16 now 5 (by decide) (by decide) (by omega) (src_ownm' rfl rfl rfl (by omega) (by rw [List.drop_zero, List.take_of_length_le (by omega)]))) ?_
  rintro r H' ⟨rfl, rfl⟩
  first | refine nx rfl rfl ?_ | refine nx0 ?_
  rw [← h21]
  repeat' (first | ((apply Qe rfl rfl rfl rfl; intro H9); (refine Q1 ?_); (exact QY rfl ⟨rfl, rfl⟩)) | refine Qk ?_ | refine Ql ?_ | refine Qw (by kernel_rfl) ?_)
  refine awp_region_any [3, 6, 12] [0, 1, 2, 4, 5, 7, 8, 9, 10, 11, 13] (by exact rfl) ?_
  refine any_lin (fuel := 0) [0, 1, 2, 4, 5, 7, 8, 9, 10, 11, 3, 6, 12, 13] (by exact rfl) (by kernel_rfl) (by kernel_rfl) ?_
  repeat' ((first | refine Qc rfl rfl rfl ?_ | (apply Qe rfl rfl rfl rfl; intro H9)); (first | refine Q0 ?_ | refine Q3 rfl rfl rfl ?_ | refine Q4 rfl rfl rfl rfl rfl ?_ | refine Q7 rfl rfl rfl ?_ | refine QG rfl rfl rfl rfl ?_ | refine QR rfl rfl rfl rfl rfl rfl rfl rfl rfl rfl rfl rfl ?_); (exact QY rfl ⟨rfl, rfl⟩))
  rw [byte_of]
  refine ds_ef rfl rfl rfl ?_
  refine st_call (fun _ => rfl) rfl ?_
  refine ACalls.mono (rputl_at X _ _ b21 t (form_ok g11) glt (by omega) (src_ownm' rfl rfl rfl (by omega) (by rw [List.drop_zero, List.take_of_length_le (by omega)]))) ?_
  rintro r H' ⟨rfl, rfl⟩
  first | refine nx rfl rfl ?_ | refine nx0 ?_
  have l28 : (putL b21 t).length = 28 := by rw [putL_len, l21]
  generalize putL b21 t = b28 at *
  refine ds_ef rfl rfl rfl ?_
  refine st_call (fun _ => rfl) rfl ?_
  refine ACalls.mono (rputl_at X _ _ b28 h gh glh (by omega) (src_ownm' rfl rfl rfl (by omega) (by rw [List.drop_zero, List.take_of_length_le (by omega)]))) ?_
  rintro r H' ⟨rfl, rfl⟩
  first | refine nx rfl rfl ?_ | refine nx0 ?_
  have l35 : (putL b28 h).length = 35 := by rw [putL_len, l28]
  generalize putL b28 h = b35 at *
  refine ds_ef rfl rfl rfl ?_
  refine st_app (oid := some 6) (es := b35.map u8A) (out := b36.map u8A) (n := 36) (dst_own rfl (by rw [List.length_map]; omega)) (rfl) (oneEs_u8 [UInt8.ofNat ((fo.map laA).length % 256)]) (by rw [h36, List.map_append, List.length_map]; rfl) (by rw [List.length_map, l35]; rfl) (by show _ ≤ 9223372036854775807; omega) (by show _ * 1 ≤ _; omega) rfl rfl rfl rfl rfl rfl rfl rfl ?_
  first | refine nx rfl rfl ?_ | refine nx0 ?_
  repeat' (first | ((first | refine Qa rfl ?_ | (apply Qe rfl rfl rfl rfl; intro H9)); (first | refine Q1 ?_ | refine Q2 rfl ?_ | refine Q3 rfl rfl rfl ?_ | refine Q4 rfl rfl rfl rfl rfl ?_ | refine Q7 rfl rfl rfl ?_); (first | exact QY rfl ⟨rfl, rfl⟩ | refine QX rfl rfl ?_)) | refine Qh ?_ | refine Qk ?_ | refine Ql ?_ | refine Qo rfl ?_ | refine Qs ?_ | refine Qw (by kernel_rfl) ?_)
  refine awp_cond_dec rfl (fun h9 => ?_) (fun h9 => ?_)
  · obtain ⟨b, hfo, hb⟩ : ∃ b, fo = [h, b] ∧ formB b = true := by
      rcases g12 with ⟨_, h1⟩ | ⟨_, h1 | h1⟩
      · rw [h1] at h9; simp at h9
      · rw [h1] at h9; simp at h9
      · exact h1
    subst hfo
    have hpb : pay = putL b36 b := hfp
    have l43 : pay.length = 43 := by rw [hpb, putL_len, l36]
    repeat' (first | ((refine Qa rfl ?_); (first | refine Q0 ?_ | refine Q3 rfl rfl rfl ?_ | refine Q4 rfl rfl rfl rfl rfl ?_); (refine QX rfl rfl ?_)) | refine Qa rfl ?_ | refine Qo rfl ?_)
    refine st_ixm (show [h, b][1]? = some b from rfl) rfl rfl rfl rfl rfl rfl rfl (by first | rfl | omega) rfl ?_
    first | refine nx rfl rfl ?_ | refine nx0 ?_
    repeat' (first | ((refine Qa rfl ?_); (refine Q3 rfl rfl rfl ?_); (refine QX rfl rfl ?_)) | refine Qa rfl ?_)
    refine st_call (fun _ => rfl) rfl ?_
    refine ACalls.mono (rputl_at X _ _ b36 b (form_ok hb) (form_log2 hb) (by omega) (src_ownm' rfl rfl rfl (by omega) (by rw [List.drop_zero, List.take_of_length_le (by omega)]))) ?_
    rintro r H' ⟨rfl, rfl⟩
    first | refine nx rfl rfl ?_ | refine nx0 ?_
    rw [← hpb, l36]
    repeat' (first | ((refine Qa rfl ?_); (refine Q1 ?_); (refine QX rfl rfl ?_)) | refine Qh ?_)
    refine then_i ?_
    refine awp_pre (imp_freeze (id := 8) (k := 1) (es := pay.map u8A) (e := 5) rfl rfl rfl) ?_
    refine awp_pre (imp_cutk 0 (Nat.zero_le _) hok_nil rfl (Nat.zero_le _) (sl' := [(1, .int .i64 (sector : Int)), (5, .sl 1 (pay.map u8A))]) ?_) ?_
    · refine fa_cons ⟨rfl, trivial⟩ (fa_cons ⟨?_, idsL_map fun _ => u8A_ids⟩ fa_nil)
      show frz 8 _ _ (.own 8 0 (36 + 7)) = _
      exact frz_own (by simp [l43])
    repeat' (first | ((refine Qa rfl ?_); (refine Q0 ?_); (refine QX rfl rfl ?_)) | refine Qa rfl ?_ | refine Ql ?_ | refine Qo rfl ?_)
    refine st_call (fun _ => rfl) rfl ?_
    refine ACalls.mono (rfenc_c X 3 0 sector pay (by decide) hs (by omega)) ?_
    rintro r H' ⟨rfl, rfl⟩
    first | refine nx rfl rfl ?_ | refine nx0 ?_
    repeat' (first | ((refine Qa rfl ?_); (refine Q1 ?_); (refine QX rfl rfl ?_)) | refine Qh ?_ | refine Qs ?_)
    refine awp_ret ?_
    exact ⟨_, rfl, rfl⟩
  · have hpb : pay = b36 := by
      rcases g12 with ⟨_, h1⟩ | ⟨_, h1 | ⟨b, h1, _⟩⟩
      · rw [hfp, h1]
      · rw [hfp, h1]
      · rw [h1] at h9; exact absurd (by simp) h9
    rw [hpb]
    refine awp_skip ?_
    refine then_i ?_
    refine awp_pre (imp_freeze (id := 7) (k := 1) (es := b36.map u8A) (e := 5) rfl rfl rfl) ?_
    refine awp_pre (imp_cutk 0 (Nat.zero_le _) hok_nil rfl (Nat.zero_le _) (sl' := [(1, .int .i64 (sector : Int)), (5, .sl 1 (b36.map u8A))]) ?_) ?_
    · refine fa_cons ⟨rfl, trivial⟩ (fa_cons ⟨?_, idsL_map fun _ => u8A_ids⟩ fa_nil)
      show frz 7 _ _ (.own 7 0 (36)) = _
      exact frz_own (by simp [l36])
    repeat' (first | ((refine Qa rfl ?_); (refine Q0 ?_); (refine QX rfl rfl ?_)) | refine Qa rfl ?_ | refine Ql ?_ | refine Qo rfl ?_)
    refine st_call (fun _ => rfl) rfl ?_
    refine ACalls.mono (rfenc_c X 3 0 sector b36 (by decide) hs (by omega)) ?_
    rintro r H' ⟨rfl, rfl⟩
    first | refine nx rfl rfl ?_ | refine nx0 ?_
    repeat' (first | ((refine Qa rfl ?_); (refine Q1 ?_); (refine QX rfl rfl ?_)) | refine Qh ?_ | refine Qs ?_)
    refine awp_ret ?_
    exact ⟨_, rfl, rfl⟩
end Go.Abs
namespace Go.Abs
theorem hok_two (a1 a2 a3 a4 a5 b1 b2 b3 b4 b5 : Int) (t t2 h h2 : La) (fo go : List La) (e1 e2 : TypeId) : HOk 2 [some (.cells [.int .i64 a1, .int .i64 a2, .int .i64 a3, .int .i64 a4, .int .i64 a5, .int .i64 t.id, .int .i64 t.ver, .int .i64 t.rs, .int .i64 t.regs, .int .i64 h.id, .int .i64 h.ver, .int .i64 h.rs, .int .i64 h.regs, .sl 4 (fo.map laA)] e1), some (.cells [.int .i64 b1, .int .i64 b2, .int .i64 b3, .int .i64 b4, .int .i64 b5, .int .i64 t2.id, .int .i64 t2.ver, .int .i64 t2.rs, .int .i64 t2.regs, .int .i64 h2.id, .int .i64 h2.ver, .int .i64 h2.rs, .int .i64 h2.regs, .sl 4 (go.map laA)] e2)] := fun j o ho => by
  match j, ho with
  | 0, ho => cases ho; exact ⟨trivial, trivial, trivial, trivial, trivial, trivial, trivial, trivial, trivial, trivial, trivial, trivial, trivial, la_ids _, trivial⟩
  | 1, ho => cases ho; exact ⟨trivial, trivial, trivial, trivial, trivial, trivial, trivial, trivial, trivial, trivial, trivial, trivial, trivial, la_ids _, trivial⟩
attribute [local irreducible] AStep aops AWp Nx awM
set_option maxHeartbeats 0 in
set_option maxRecDepth 100000 in
theorem seq_c (X : Nat → Prop) (a b : Sb) (ha : a.fo.length ≤ 4611686018427387904) : ACalls (E0 X) 33 [sbA a, sbA b] [] (fun r H' => r = .bool (decide (a = b)) ∧ H' = []) := by
  refine ACalls.cut0 ?_ trivial
  obtain ⟨a1, a2, a3, a4, a5, t, h, fo⟩ := a
  obtain ⟨b1, b2, b3, b4, b5, t2, h2, go⟩ := b
  simp only at ha
  show ACalls (E0 X) 33 [.agg [.int .i64 a1, .int .i64 a2, .int .i64 a3, .int .i64 a4, .int .i64 a5, .int .i64 t.id, .int .i64 t.ver, .int .i64 t.rs, .int .i64 t.regs, .int .i64 h.id, .int .i64 h.ver, .int .i64 h.rs, .int .i64 h.regs, .sl 4 (fo.map laA)],
    .agg [.int .i64 b1, .int .i64 b2, .int .i64 b3, .int .i64 b4, .int .i64 b5, .int .i64 t2.id, .int .i64 t2.ver, .int .i64 t2.rs, .int .i64 t2.regs, .int .i64 h2.id, .int .i64 h2.ver, .int .i64 h2.rs, .int .i64 h2.regs, .sl 4 (go.map laA)]] [] _
  refine acalls_of Proofs.Tryd.func33 rfl Proofs.Tryd.ntmps33 (by kernel_rfl) rfl ?_
  intro hH hargs
  clear hH hargs
  repeat' (first | ((refine Qa rfl ?_); (first | refine Q0 ?_ | refine Q1 ?_ | refine Q2 rfl ?_ | refine Q3 rfl rfl rfl ?_ | refine Q4 rfl rfl rfl rfl rfl ?_ | refine Q5 rfl ?_ | refine Q7 rfl rfl rfl ?_ | refine QI rfl rfl rfl ?_ | refine QK rfl ?_); (refine QX rfl rfl ?_)) | refine Qh ?_ | refine Qi rfl ?_ | refine Ql ?_ | refine Qo rfl ?_ | refine Qp rfl ?_ | refine Qs ?_ | ((fail_if_success refine QV rfl ?_); (first | refine Qy rfl rfl (fun _ => ?_) (fun _ => ?_) | refine Qz rfl rfl (fun _ => ?_) (fun _ => ?_))))
  any_goals (refine awp_ret ?_; refine ⟨_, rfl, congrArg AV.bool (Eq.symm (decide_eq_false fun e => ?_))⟩; injection e with e1 e2 e3 e4 e5 e6 e7 e8; omega)
  · rename_i e1
    have e2 : ¬ t = t2 := by have := (la_neq t t2).symm.trans e1; simpa using this
    refine awp_ret ?_
    refine ⟨_, rfl, congrArg AV.bool (Eq.symm (decide_eq_false fun e => ?_))⟩
    injection e with e1 e2 e3 e4 e5 e6 e7 e8
    exact absurd e6 (by assumption)
  · rename_i e1
    have e2 : ¬ h = h2 := by have := (la_neq h h2).symm.trans e1; simpa using this
    refine awp_ret ?_
    refine ⟨_, rfl, congrArg AV.bool (Eq.symm (decide_eq_false fun e => ?_))⟩
    injection e with e1 e2 e3 e4 e5 e6 e7 e8
    exact absurd e7 (by assumption)
  rename_i n1 n2 n3 n4 n5 n6 n7
  have d1 : a1 = b1 := Decidable.not_not.1 n1
  have d2 : a2 = b2 := Decidable.not_not.1 n2
  have d3 : a3 = b3 := Decidable.not_not.1 n3
  have d4 : a4 = b4 := Decidable.not_not.1 n4
  have d5 : a5 = b5 := Decidable.not_not.1 n5
  have d6 : t = t2 := by have := (la_neq t t2).symm.trans n6; simpa using this
  have d7 : h = h2 := by have := (la_neq h h2).symm.trans n7; simpa using this
  have heq : (⟨a1, a2, a3, a4, a5, t, h, fo⟩ : Sb) = ⟨b1, b2, b3, b4, b5, t2, h2, go⟩ ↔ fo = go := by
    rw [d1, d2, d3, d4, d5, d6, d7]
    exact ⟨fun e => by injection e, fun e => by rw [e]⟩
  have hdec : decide ((⟨a1, a2, a3, a4, a5, t, h, fo⟩ : Sb) = ⟨b1, b2, b3, b4, b5, t2, h2, go⟩) = decide (fo = go) := decide_eq_decide.2 heq
  rw [hdec]
  clear hdec heq n1 n2 n3 n4 n5 n6 n7 d1 d2 d3 d4 d5 d6 d7
  refine awp_cond_dec rfl (fun h1 => ?_) (fun h1 => ?_)
  · have h2 : ¬ fo = go := fun h => by subst h; simp at h1
    repeat' (first | ((refine Qa rfl ?_); (refine Q1 ?_); (refine QX rfl rfl ?_)) | refine Qh ?_ | refine Ql ?_ | refine Qo rfl ?_ | refine Qs ?_)
    refine awp_ret ?_
    refine ⟨_, rfl, ?_⟩
    rw [decide_eq_false h2]; rfl
  have hlen : fo.length = go.length := by simp at h1; omega
  repeat' (first | ((refine Qa rfl ?_); (first | refine Q0 ?_ | refine Q3 rfl rfl rfl ?_ | refine Q4 rfl rfl rfl rfl rfl ?_ | refine Q7 rfl rfl rfl ?_); (refine QX rfl rfl ?_)) | refine Qh ?_ | refine Ql ?_ | refine Qm ?_ | refine Qn ?_ | refine Qo rfl ?_)
  refine awp_loop2 (fun k : Nat => ⟨[(2, .ptr 0 0), (3, .ptr 1 0), (64, .int .i64 fo.length), (65, .int .i64 (k : Int))], [some (.cells [.int .i64 a1, .int .i64 a2, .int .i64 a3, .int .i64 a4, .int .i64 a5, .int .i64 t.id, .int .i64 t.ver, .int .i64 t.rs, .int .i64 t.regs, .int .i64 h.id, .int .i64 h.ver, .int .i64 h.rs, .int .i64 h.regs, .sl 4 (fo.map laA)] 50), some (.cells [.int .i64 b1, .int .i64 b2, .int .i64 b3, .int .i64 b4, .int .i64 b5, .int .i64 t2.id, .int .i64 t2.ver, .int .i64 t2.rs, .int .i64 t2.regs, .int .i64 h2.id, .int .i64 h2.ver, .int .i64 h2.rs, .int .i64 h2.regs, .sl 4 (go.map laA)] 50)]⟩) (fun k => k ≤ fo.length ∧ ∀ j, j < k → fo[j]? = go[j]?) (fun k => fo.length - k) 0 ⟨Nat.zero_le _, fun j h => absurd h (Nat.not_lt_zero j)⟩ ?_ ?_
  · refine imp_cutk 2 (Nat.zero_le _) (hok_two _ _ _ _ _ _ _ _ _ _ _ _ _ _ _ _ _ _) rfl (by simp) ?_
    repeat' (first | exact fa_nil | refine fa_cons ⟨?_, ?_⟩ ?_)
    all_goals (try first | exact rfl | exact trivial | (simp [IdsLt]; done) | (simp [get_cons]; done) | (simp [get_cons, *]; done) | (refine congrArg (AV.int .i64) (wrap_eq ?_ ?_ ?_) <;> (first | omega | (simp; omega))))
  rintro k ⟨hk, hh⟩
  repeat' (first | ((refine Qa rfl ?_); (refine Q2 rfl ?_); (refine QX rfl rfl ?_)) | refine Qh ?_ | refine Ql ?_ | refine Qo rfl ?_)
  refine awp_cond_dec rfl (fun h3 => ?_) (fun h3 => ?_)
  · have hka : k < fo.length := by omega
    obtain ⟨p, hp⟩ : ∃ p, fo[k]? = some p := ⟨_, List.getElem?_eq_getElem hka⟩
    obtain ⟨q, hq⟩ : ∃ q, go[k]? = some q := ⟨_, List.getElem?_eq_getElem (hlen ▸ hka)⟩
    repeat' (first | ((refine Qa rfl ?_); (first | refine Q0 ?_ | refine Q1 ?_); (refine QX rfl rfl ?_)) | refine Qh ?_ | refine Ql ?_ | refine Qm ?_ | refine Qn ?_ | refine Qo rfl ?_)
    refine awp_region_auto2 [] [] (by exact rfl) (by kernel_rfl) ?_
    repeat' ((apply Qd rfl rfl rfl rfl); (first | refine Q0 ?_ | refine Q3 rfl rfl rfl ?_ | refine Q4 rfl rfl rfl rfl rfl ?_); (exact QX rfl rfl ⟨rfl, rfl⟩))
    apply ds rfl rfl rfl rfl
    · refine st_ixm hp rfl rfl rfl rfl rfl rfl rfl (by first | rfl | omega) rfl ?_
      first | exact nx rfl rfl ⟨rfl, rfl⟩ | exact nx0 ⟨rfl, rfl⟩
    repeat' ((apply Qd rfl rfl rfl rfl); (first | refine Q0 ?_ | refine Q3 rfl rfl rfl ?_ | refine Q4 rfl rfl rfl rfl rfl ?_); (exact QX rfl rfl ⟨rfl, rfl⟩))
    apply ds rfl rfl rfl rfl
    · refine st_ixm hq rfl rfl rfl rfl rfl rfl rfl (by first | rfl | omega) rfl ?_
      first | exact nx rfl rfl ⟨rfl, rfl⟩ | exact nx0 ⟨rfl, rfl⟩
    repeat' (first | ((apply Qd rfl rfl rfl rfl); (first | refine Q3 rfl rfl rfl ?_ | refine QI rfl rfl rfl ?_); (exact QX rfl rfl ⟨rfl, rfl⟩)) | refine Qk ?_ | refine Qs ?_)
    rw [la_same]
    refine awp_cond rfl (fun h4 => ?_) (fun h4 => ?_)
    · have h5 : ¬ p = q := by simpa using h4
      have h6 : ¬ fo = go := fun e => by subst e; rw [hp] at hq; exact h5 (Option.some.inj hq)
      repeat' (first | ((refine Qa rfl ?_); (refine Q1 ?_); (refine QX rfl rfl ?_)) | refine Qh ?_ | refine Ql ?_ | refine Qo rfl ?_ | refine Qs ?_)
      refine awp_ret ?_
      refine ⟨_, rfl, ?_⟩
      rw [decide_eq_false h6]; rfl
    · have h5 : p = q := by simpa using h4
      repeat' (first | ((refine Qa rfl ?_); (first | refine Q0 ?_ | refine Q2 rfl ?_); (refine QX rfl rfl ?_)) | refine Qh ?_ | refine Qm ?_ | refine Qo rfl ?_ | refine Qs ?_)
      refine ⟨k + 1, ⟨by omega, fun j hj => ?_⟩, by omega, imp_cutk 2 (Nat.zero_le _) (hok_two _ _ _ _ _ _ _ _ _ _ _ _ _ _ _ _ _ _) rfl (by simp) ?_⟩
      · rcases Nat.lt_or_ge j k with h1 | h1
        · exact hh j h1
        · have : j = k := by omega
          subst this
          rw [hp, hq, h5]
      · repeat' (first | exact fa_nil | refine fa_cons ⟨?_, ?_⟩ ?_)
        all_goals (try first | exact rfl | exact trivial | (simp [IdsLt]; done) | (simp [get_cons]; done) | (simp [get_cons, *]; done) | (refine congrArg (AV.int .i64) (wrap_eq ?_ ?_ ?_) <;> (first | omega | (simp; omega))))
  · have hkl : k = fo.length := by omega
    have hab : fo = go := by
      refine List.ext_getElem? fun j => ?_
      rcases Nat.lt_or_ge j k with h1 | h1
      · exact hh j h1
      · rw [List.getElem?_eq_none (by omega), List.getElem?_eq_none (by omega)]
    repeat' (first | ((refine Qa rfl ?_); (refine Q1 ?_); (refine QX rfl rfl ?_)) | refine Qh ?_ | refine Ql ?_ | refine Qo rfl ?_ | refine Qr ?_ | refine Qs ?_)
    refine awp_ret ?_
    refine ⟨_, rfl, ?_⟩
    rw [decide_eq_true hab]; rfl
end Go.Abs
