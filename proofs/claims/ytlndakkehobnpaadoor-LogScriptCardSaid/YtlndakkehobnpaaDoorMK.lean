/- The reference's Replay and Eq of lists of plan records. Joined texts, each with what its own name promises; no condition beyond those stated. -/
import Derived.Test.YtlndakkehobnpaaDoorMJ
import Derived.Test.YtlndakkehobnpaaDoorME
namespace Go.Abs
deriving instance DecidableEq for La
deriving instance DecidableEq for Pl
theorem check_neg {v : Dv} (h : v.Inv) : v.check (-1) ≠ 0 := fun hc => by
  obtain ⟨-, k, hk, -⟩ := check_in h hc
  omega
theorem hok_pa (l : List Pl) : HOk 1 [some (.arr (l.map plA) 32)] := fun j o ho => by
  match j, ho with
  | 0, ho => cases ho; exact idsL_map fun _ => plA_ids
attribute [local irreducible] AStep aops AWp Nx awM
set_option maxHeartbeats 0 in
set_option maxRecDepth 100000 in
theorem rreplay_c (X : Nat → Prop) (v : Dv) (L : Nat) (hL : 4736 ≤ L) (hL2 : L ≤ 67108864) (hv : Lv L v) (mig : Int) (hm : mig ≤ 9223372036854775807) :
    ACalls (E0 X) 27 [.sl 1 (v.image.map u8A), .int .i64 mig] [] (fun r H' => r = .own 0 0 (repl v mig).length ∧ H' = [some (.arr ((repl v mig).map plA) 32)]) := by
  have hlen := hv.len
  refine acalls_of Proofs.Tryd.func27 rfl Proofs.Tryd.ntmps27 (by kernel_rfl) rfl ?_
  intro hH hargs
  clear hH hargs
  repeat' (first | ((refine Qa rfl ?_); (refine Q1 ?_); (refine QX rfl rfl ?_)) | refine Qh ?_ | refine Ql ?_ | refine Qn ?_ | refine Qo rfl ?_)
  refine awp_loop2 (fun p : Nat × List Pl => ⟨[(0, .sl 1 (v.image.map u8A)), (1, .int .i64 mig), (5, .own 0 0 p.2.length), (6, .int .i64 (p.1 : Int))], [some (.arr (p.2.map plA) 32)]⟩)
    (fun p => p.1 ≤ 36 ∧ p.2.length ≤ p.1 ∧ p.2 ++ replF v mig p.1 (36 - p.1) = repl v mig) (fun p => 36 - p.1) (0, []) ⟨by omega, by simp, rfl⟩ ?_ ?_
  · refine Imp.trans (imp_nil 5 32 rfl) (imp_cutk 1 (by simp) (hok_pa []) rfl (by simp) ?_)
    repeat' (first | exact fa_nil | refine fa_cons ⟨?_, ?_⟩ ?_)
    all_goals (try first | exact rfl | exact trivial | (simp [IdsLt, IdsLtL]; done) | (simp [get_cons]; done) | (simp [get_cons, *]; done) | (refine congrArg (AV.int .i64) (wrap_eq ?_ ?_ ?_) <;> (first | omega | (simp; omega))))
  rintro ⟨i, out⟩ ⟨hi, hol, hr⟩
  have hi : i ≤ 36 := hi
  have hol : out.length ≤ i := hol
  have hr : out ++ replF v mig i (36 - i) = repl v mig := hr
  show AWp _ _ _ _ _ ⟨[(0, .sl 1 (v.image.map u8A)), (1, .int .i64 mig), (5, .own 0 0 out.length), (6, .int .i64 (i : Int))], [some (.arr (out.map plA) 32)]⟩
  have hsc := fun X => rsector_c X mig i hm
  repeat' (first | ((refine Qa rfl ?_); (first | refine Q0 ?_ | refine Q1 ?_ | refine Q2 rfl ?_ | refine Q5 rfl ?_); (refine QX rfl rfl ?_)) | refine Qh ?_ | refine Qi rfl ?_ | refine Ql ?_ | refine Qo rfl ?_ | refine Qq rfl ?_ | refine Qr ?_ | refine Qs ?_ | ((fail_if_success refine QV rfl ?_); refine Qy rfl rfl (fun _ => ?_) (fun _ => ?_)))
  · rename_i h3
    have hi3 : i < 36 := by omega
    have hrn : replF v mig i (36 - i) = match repStep v mig i with
      | none => []
      | some p => p :: replF v mig (i + 1) (36 - (i + 1)) := by
      have : 36 - i = (36 - (i + 1)) + 1 := by omega
      rw [this]; rfl
    refine awp_cond_dec rfl (fun h4 => ?_) (fun h4 => ?_)
    · have hk : secI mig i = ((2 + (mig.toNat + 1) % 2 * 36 + i : Nat) : Int) := by
        unfold secI; rw [if_neg (by omega)]; omega
      have hk74 : 2 + (mig.toNat + 1) % 2 * 36 + i < 74 := by omega
      generalize 2 + (mig.toNat + 1) % 2 * 36 + i = k at *
      have hc := check_ok hv.inv hv.dead (k := k) (by omega)
      rw [hk] at hsc
      have hst : repStep v mig i = match decP ((v.image.drop (k * 64)).take 64) k with
        | none => none
        | some p => if p.mig = mig ∧ p.idx = (i : Int) then some p else none := by
        simp only [repStep]
        rw [hk, if_neg (by simp [hc]), Int.toNat_natCast]
        rfl
      have hbl : ((v.image.drop (k * 64)).take 64).length = 64 := by simp; omega
      have e1 : IntKind.i64.wrap ((k : Int) * 64) = ((k * 64 : Nat) : Int) := wrap_eq (by omega) (by omega) (by omega)
      have e2 : IntKind.i64.wrap (((k * 64 : Nat) : Int) + 64) = ((k * 64 + 64 : Nat) : Int) := wrap_eq (by omega) (by omega) (by omega)
      repeat' (first | ((refine Qa rfl ?_); (refine Q0 ?_); (refine QX rfl rfl ?_)) | refine Qa rfl ?_ | refine Ql ?_ | refine Qm ?_ | refine Qn ?_ | refine Qo rfl ?_)
      refine st_call (fun _ => rfl) rfl ?_
      refine ACalls.mono (acalls_pure (E := E0 X) (fun X => hsc X) (by simp [IdsLtL, IdsLt]) _) ?_
      rintro r H' ⟨rfl, rfl⟩
      first | refine nx rfl rfl ?_ | refine nx0 ?_
      repeat' (first | ((refine Qa rfl ?_); (first | refine Q0 ?_ | refine Q1 ?_ | refine Q2 rfl ?_); (refine QX rfl rfl ?_)) | refine Qa rfl ?_ | refine Qh ?_ | refine Ql ?_ | refine Qo rfl ?_)
      rw [e1, e2]
      refine st_sls (l := k * 64) (h := k * 64 + 64) (ys := (v.image.drop (k * 64)).take 64) (bnd_some rfl rfl) (bnd_some rfl rfl) (by omega) (by omega) (by rw [List.drop_take]; congr 1; omega) rfl rfl rfl rfl rfl ?_
      first | refine nx rfl rfl ?_ | refine nx0 ?_
      generalize (v.image.drop (k * 64)).take 64 = bb at *
      repeat' (first | ((refine Qa rfl ?_); (refine Q0 ?_); (refine QX rfl rfl ?_)) | refine Qa rfl ?_)
      refine st_call (fun _ => rfl) rfl ?_
      refine ACalls.mono (acalls_pure (E := E0 X) (fun X => rpdec_c X bb k (by omega) (by omega)) (by simp [IdsLtL, IdsLt]) _) ?_
      rintro r H' ⟨rfl, rfl⟩
      cases hd : decP bb k with
      | none =>
        rw [hd] at hst
        rw [hst] at hrn
        rw [hrn, List.append_nil] at hr
        show Nx _ (.tup [plA zeroP, .bool false]) _
        first | refine nx rfl rfl ?_ | refine nx0 ?_
        repeat' (first | ((refine Qa rfl ?_); (first | refine Q0 ?_ | refine Q1 ?_ | refine Q5 rfl ?_ | refine QC rfl rfl ?_ | refine QD rfl ?_ | refine QJ rfl rfl ?_); (refine QX rfl rfl ?_)) | (refine Qb rfl ?_; try (refine QS rfl rfl rfl rfl rfl rfl rfl ?_; (refine QX rfl rfl ?_))) | refine Qh ?_ | refine Qi rfl ?_ | refine Ql ?_ | refine Qo rfl ?_ | refine Qp rfl ?_ | refine Qs ?_)
        refine awp_pre (imp_cutk 1 (Nat.zero_le _) (hok_pa out) rfl (by simp) (sl' := [(4, .own 0 0 out.length)]) ?_) ?_
        · repeat' (first | exact fa_nil | refine fa_cons ⟨?_, ?_⟩ ?_)
          all_goals (try first | exact rfl | exact trivial | (simp [IdsLt, IdsLtL]; done) | (simp [get_cons]; done) | (simp [get_cons, *]; done) | (refine congrArg (AV.int .i64) (wrap_eq ?_ ?_ ?_) <;> (first | omega | (simp; omega))))
        refine awp_ret ?_
        refine ⟨_, rfl, ?_, ?_⟩
        · rw [← hr]; rfl
        · rw [← hr]
      | some p =>
        rw [hd] at hst
        show Nx _ (.tup [plA p, .bool true]) _
        first | refine nx rfl rfl ?_ | refine nx0 ?_
        repeat' (first | ((refine Qa rfl ?_); (first | refine Q0 ?_ | refine Q1 ?_ | refine Q2 rfl ?_ | refine Q3 rfl rfl rfl ?_ | refine Q4 rfl rfl rfl rfl rfl ?_ | refine Q5 rfl ?_ | refine QC rfl rfl ?_ | refine QD rfl ?_ | refine QJ rfl rfl ?_); (refine QX rfl rfl ?_)) | (refine Qb rfl ?_; try (refine QS rfl rfl rfl rfl rfl rfl rfl ?_; (refine QX rfl rfl ?_))) | refine Qh ?_ | refine Qi rfl ?_ | refine Ql ?_ | refine Qo rfl ?_ | refine Qp rfl ?_ | refine Qs ?_ | ((fail_if_success refine QV rfl ?_); refine Qy rfl rfl (fun _ => ?_) (fun _ => ?_)))
        · rename_i h5
          have h6 : repStep v mig i = none := by rw [hst]; exact if_neg fun h => h5 h.1
          rw [h6] at hrn
          rw [hrn, List.append_nil] at hr
          refine awp_pre (imp_cutk 1 (Nat.zero_le _) (hok_pa out) rfl (by simp) (sl' := [(4, .own 0 0 out.length)]) ?_) ?_
          · repeat' (first | exact fa_nil | refine fa_cons ⟨?_, ?_⟩ ?_)
            all_goals (try first | exact rfl | exact trivial | (simp [IdsLt, IdsLtL]; done) | (simp [get_cons]; done) | (simp [get_cons, *]; done) | (refine congrArg (AV.int .i64) (wrap_eq ?_ ?_ ?_) <;> (first | omega | (simp; omega))))
          refine awp_ret ?_
          refine ⟨_, rfl, ?_, ?_⟩
          · rw [← hr]; rfl
          · rw [← hr]
        rename_i h5
        refine awp_cond_dec rfl (fun h7 => ?_) (fun h7 => ?_)
        · have h6 : repStep v mig i = none := by rw [hst]; exact if_neg fun h => h7 h.2
          rw [h6] at hrn
          rw [hrn, List.append_nil] at hr
          repeat' (first | ((refine Qa rfl ?_); (first | refine Q0 ?_ | refine Q1 ?_); (refine QX rfl rfl ?_)) | refine Qh ?_ | refine Ql ?_ | refine Qo rfl ?_ | refine Qs ?_)
          refine awp_pre (imp_cutk 1 (Nat.zero_le _) (hok_pa out) rfl (by simp) (sl' := [(4, .own 0 0 out.length)]) ?_) ?_
          · repeat' (first | exact fa_nil | refine fa_cons ⟨?_, ?_⟩ ?_)
            all_goals (try first | exact rfl | exact trivial | (simp [IdsLt, IdsLtL]; done) | (simp [get_cons]; done) | (simp [get_cons, *]; done) | (refine congrArg (AV.int .i64) (wrap_eq ?_ ?_ ?_) <;> (first | omega | (simp; omega))))
          refine awp_ret ?_
          refine ⟨_, rfl, ?_, ?_⟩
          · rw [← hr]; rfl
          · rw [← hr]
        · have h8 : p.mig = mig := Decidable.not_not.1 h5
          have h9 : p.idx = (i : Int) := Decidable.not_not.1 h7
          have h6 : repStep v mig i = some p := by rw [hst]; exact if_pos ⟨h8, h9⟩
          rw [h6] at hrn
          rw [hrn] at hr
          repeat' (first | ((refine Qa rfl ?_); (first | refine Q0 ?_ | refine Q3 rfl rfl rfl ?_ | refine QQ rfl rfl rfl rfl rfl rfl rfl rfl rfl rfl rfl ?_); (refine QX rfl rfl ?_)) | refine Qa rfl ?_ | refine Qm ?_ | refine Qo rfl ?_)
          refine st_app (oid := some 0) (es := out.map plA) (out := (out ++ [p]).map plA) (n := out.length + 1) (dst_own rfl (List.length_map _).symm) (rfl) (oneEs_pl [p]) (by rw [List.map_append]; rfl) (by rw [List.length_map]; rfl) (by show _ ≤ 9223372036854775807; omega) (by show _ * 64 ≤ _; omega) rfl rfl rfl rfl rfl rfl rfl rfl ?_
          first | refine nx rfl rfl ?_ | refine nx0 ?_
          repeat' (first | ((refine Qa rfl ?_); (first | refine Q0 ?_ | refine Q1 ?_ | refine Q2 rfl ?_); (refine QX rfl rfl ?_)) | refine Qh ?_ | refine Qo rfl ?_ | refine Qs ?_)
          refine ⟨(i + 1, out ++ [p]), ⟨by show i + 1 ≤ 36; omega, by simp; omega, by show (out ++ [p]) ++ _ = _; rw [← hr]; simp⟩, by show 36 - (i + 1) < 36 - i; omega, ?_⟩
          refine imp_tid 0 [2] (H' := [some (.arr ((out ++ [p]).map plA) 32)]) (os := [.arr ((out ++ [p]).map plA) 32]) (Nat.le_refl _) (Nat.zero_le _) (by simp) (by simp) (by simp [HOk]) rfl rfl ?_ ?_
          · refine fa_cons (ren_lt rfl (u8_ids _)) (fa_cons (ren_lt rfl trivial) (fa_cons ?_ (fa_cons (ren_lt ?_ trivial) fa_nil)))
            · rw [List.length_append]; exact ren_own rfl
            · exact congrArg (AV.int .i64) (wrap_eq (by omega) (by omega) (by omega))
          · exact os_cons rfl (renO_old 0 (fun i h => absurd h (Nat.not_lt_zero i)) (idsL_map fun _ => plA_ids)) os_nil
    · have hst : repStep v mig i = none := by
        have hk : secI mig i = -1 := by unfold secI; rw [if_pos (by omega)]
        simp only [repStep]
        rw [hk, if_pos (check_neg hv.inv)]
      rw [hst] at hrn
      rw [hrn, List.append_nil] at hr
      repeat' (first | ((refine Qa rfl ?_); (first | refine Q0 ?_ | refine Q1 ?_); (refine QX rfl rfl ?_)) | refine Qh ?_ | refine Ql ?_ | refine Qo rfl ?_ | refine Qr ?_ | refine Qs ?_)
      refine awp_ret ?_
      refine ⟨_, rfl, ?_, ?_⟩
      · rw [← hr]; rfl
      · rw [← hr]
  · rename_i h3
    have hi3 : i = 36 := by omega
    subst hi3
    have hr2 : out = repl v mig := by rw [← hr]; simp [replF]
    skip
    refine awp_ret ?_
    refine ⟨_, rfl, ?_, ?_⟩
    · rw [← hr2]; rfl
    · rw [← hr2]
end Go.Abs
namespace Go.Abs
theorem noFz_pls (l : List Pl) : noFzH [some (.arr (l.map plA) 32)] = true := by
  simp [noFzH, noFzO, noFz_map (f := plA) (fun _ => rfl)]
theorem rreplay_at (X : Nat → Prop) (v : Dv) (L : Nat) (hL : 4736 ≤ L) (hL2 : L ≤ 67108864) (hv : Lv L v) (mig : Int) (hm : mig ≤ 9223372036854775807) (H : Hp) (hH : HOk H.length H) (x : AV) (hx : srcA (E0 X) H 1 x = some (v.image.map u8A)) :
    ACalls (E0 X) 27 [x, .int .i64 mig] H (fun r H' => r = .sl 8 ((repl v mig).map plA) ∧ H' = H) := by
  refine ACalls.froz (e := 32) (n := (repl v mig).length) 8 ?_ (by simp) rfl rfl hH (idsL_map fun _ => plA_ids)
  refine (acalls_make (E := E0 X) (P := fun r H' => r = .own 0 0 (repl v mig).length ∧ H' = [some (.arr ((repl v mig).map plA) 32)]) (fun X => rreplay_c X v L hL hL2 hv mig hm) (fun r h' h => by
    obtain ⟨h1, h2⟩ := h; subst h1; subst h2; exact ⟨rfl, noFz_pls _⟩) (Bor.sl (u8_ids _) hx (Bor.same trivial .nil))).mono ?_
  rintro r H' ⟨r0, h', ⟨rfl, rfl⟩, rfl, rfl⟩
  refine ⟨by simp [rnA], ?_⟩
  show H ++ [some (AO.arr (rnL _ (List.map plA _)) _)] = _
  rw [rnL_map (fun _ => rfl)]
theorem image_v (X : Nat → Prop) (v : Dv) (hl : v.image.length ≤ 1073741824) : ACalls (E0 X) 29 [.ptr 0 0] (devH v) (fun r H' => r = .sl 1 (v.image.map u8A) ∧ H' = devH v) :=
  ACalls.froz 1 (image_c X v hl) (by simp) rfl rfl (hok_dev v) (idsL_map fun _ => u8A_ids)
theorem pl_ids (l : List Pl) : IdsLtL 0 (l.map plA) := idsL_map fun _ => plA_ids
attribute [local irreducible] AStep aops AWp Nx awM
set_option maxHeartbeats 0 in
theorem peq_c (X : Nat → Prop) (a b : List Pl) (ha : a.length ≤ 4611686018427387904) :
    ACalls (E0 X) 26 [.sl 8 (a.map plA), .sl 8 (b.map plA)] [] (fun r H' => r = .bool (decide (a = b)) ∧ H' = []) := by
  refine acalls_of Proofs.Tryd.func26 rfl Proofs.Tryd.ntmps26 (by kernel_rfl) rfl ?_
  intro hH hargs
  clear hH hargs
  repeat' (first | ((refine Qa rfl ?_); (first | refine Q0 ?_ | refine Q1 ?_ | refine Q2 rfl ?_ | refine Q7 rfl rfl rfl ?_); (refine QX rfl rfl ?_)) | refine Qh ?_ | refine Ql ?_ | refine Qo rfl ?_ | refine Qs ?_)
  refine awp_cond_dec rfl (fun h1 => ?_) (fun h1 => ?_)
  · have h2 : ¬ a = b := fun h => by subst h; simp at h1
    repeat' (first | ((refine Qa rfl ?_); (refine Q1 ?_); (refine QX rfl rfl ?_)) | refine Qh ?_ | refine Ql ?_ | refine Qo rfl ?_ | refine Qs ?_)
    refine awp_ret ?_
    refine ⟨_, rfl, ?_, ?_⟩
    · rw [decide_eq_false h2]; rfl
    · rfl
  have hlen : a.length = b.length := by simp at h1; omega
  repeat' (first | ((refine Qa rfl ?_); (first | refine Q0 ?_ | refine Q7 rfl rfl rfl ?_); (refine QX rfl rfl ?_)) | refine Qh ?_ | refine Ql ?_ | refine Qm ?_ | refine Qn ?_ | refine Qo rfl ?_)
  refine awp_loop2 (fun k : Nat => ⟨[(0, .sl 8 (a.map plA)), (1, .sl 8 (b.map plA)), (12, .int .i64 a.length), (13, .int .i64 (k : Int))], []⟩) (fun k => k ≤ a.length ∧ ∀ j, j < k → a[j]? = b[j]?) (fun k => a.length - k) 0 ⟨Nat.zero_le _, fun j h => absurd h (Nat.not_lt_zero j)⟩ ?_ ?_
  · refine imp_cutk 0 (Nat.zero_le _) hok_nil rfl (by simp) ?_
    repeat' (first | exact fa_nil | refine fa_cons ⟨?_, ?_⟩ ?_)
    all_goals (try first | exact rfl | exact trivial | (simp [IdsLt, IdsLtL]; done) | (simp [get_cons]; done) | (simp [get_cons, *]; done) | (refine congrArg (AV.int .i64) (wrap_eq ?_ ?_ ?_) <;> (first | omega | (simp; omega))))
  rintro k ⟨hk, h⟩
  repeat' (first | ((refine Qa rfl ?_); (refine Q2 rfl ?_); (refine QX rfl rfl ?_)) | refine Qh ?_ | refine Ql ?_ | refine Qo rfl ?_)
  refine awp_cond_dec rfl (fun h3 => ?_) (fun h3 => ?_)
  · have hka : k < a.length := by omega
    obtain ⟨p, hp⟩ : ∃ p, a[k]? = some p := ⟨_, List.getElem?_eq_getElem hka⟩
    obtain ⟨q, hq⟩ : ∃ q, b[k]? = some q := ⟨_, List.getElem?_eq_getElem (hlen ▸ hka)⟩
    repeat' (first | ((refine Qa rfl ?_); (first | refine Q0 ?_ | refine Q1 ?_); (refine QX rfl rfl ?_)) | refine Qh ?_ | refine Ql ?_ | refine Qm ?_ | refine Qn ?_ | refine Qo rfl ?_)
    refine awp_region_auto2 [] [] (by exact rfl) (by kernel_rfl) ?_
    repeat' ((apply Qd rfl rfl rfl rfl); (refine Q0 ?_); (exact QX rfl rfl ⟨rfl, rfl⟩))
    apply ds rfl rfl rfl rfl
    · refine st_ixm hp rfl rfl rfl rfl rfl rfl rfl (by first | rfl | omega) rfl ?_
      first | exact nx rfl rfl ⟨rfl, rfl⟩ | exact nx0 ⟨rfl, rfl⟩
    repeat' ((apply Qd rfl rfl rfl rfl); (first | refine Q0 ?_ | refine Q3 rfl rfl rfl ?_); (exact QX rfl rfl ⟨rfl, rfl⟩))
    apply ds rfl rfl rfl rfl
    · refine st_ixm hq rfl rfl rfl rfl rfl rfl rfl (by first | rfl | omega) rfl ?_
      first | exact nx rfl rfl ⟨rfl, rfl⟩ | exact nx0 ⟨rfl, rfl⟩
    repeat' (first | ((apply Qd rfl rfl rfl rfl); (first | refine Q3 rfl rfl rfl ?_ | refine QI rfl rfl rfl ?_); (exact QX rfl rfl ⟨rfl, rfl⟩)) | refine Qk ?_ | refine Qs ?_)
    have hsame : (decide (p.kind = q.kind) && (decide (p.mig = q.mig) && (decide (p.idx = q.idx) && (decide (p.tail = q.tail) && ((decide (p.t.id = q.t.id) && (decide (p.t.ver = q.t.ver) && (decide (p.t.rs = q.t.rs) && (decide (p.t.regs = q.t.regs) && true)))) && true))))) = decide (p = q) := by
      obtain ⟨p1, p2, p3, p4, p5, p6, p7, p8⟩ := p
      obtain ⟨q1, q2, q3, q4, q5, q6, q7, q8⟩ := q
      rw [Bool.eq_iff_iff]
      simp only [Bool.and_eq_true, decide_eq_true_eq, Bool.and_true, Pl.mk.injEq, La.mk.injEq]
    rw [hsame]
    refine awp_cond rfl (fun h4 => ?_) (fun h4 => ?_)
    · have h5 : ¬ p = q := by simpa using h4
      have h6 : ¬ a = b := fun e => by subst e; rw [hp] at hq; exact h5 (Option.some.inj hq)
      repeat' (first | ((refine Qa rfl ?_); (refine Q1 ?_); (refine QX rfl rfl ?_)) | refine Qh ?_ | refine Ql ?_ | refine Qo rfl ?_ | refine Qs ?_)
      refine awp_ret ?_
      refine ⟨_, rfl, ?_, ?_⟩
      · rw [decide_eq_false h6]; rfl
      · rfl
    · have h5 : p = q := by simpa using h4
      repeat' (first | ((refine Qa rfl ?_); (first | refine Q0 ?_ | refine Q2 rfl ?_); (refine QX rfl rfl ?_)) | refine Qh ?_ | refine Qm ?_ | refine Qo rfl ?_ | refine Qs ?_)
      refine ⟨k + 1, ⟨by omega, fun j hj => ?_⟩, by omega, imp_cutk 0 (Nat.zero_le _) hok_nil rfl (by simp) ?_⟩
      · rcases Nat.lt_or_ge j k with h1 | h1
        · exact h j h1
        · have : j = k := by omega
          subst this
          rw [hp, hq, h5]
      · repeat' (first | exact fa_nil | refine fa_cons ⟨?_, ?_⟩ ?_)
        all_goals (try first | exact rfl | exact trivial | (simp [IdsLt, IdsLtL]; done) | (simp [get_cons]; done) | (simp [get_cons, *]; done) | (refine congrArg (AV.int .i64) (wrap_eq ?_ ?_ ?_) <;> (first | omega | (simp; omega))))
  · have hkl : k = a.length := by omega
    have hab : a = b := by
      refine List.ext_getElem? fun j => ?_
      rcases Nat.lt_or_ge j k with h1 | h1
      · exact h j h1
      · rw [List.getElem?_eq_none (by omega), List.getElem?_eq_none (by omega)]
    repeat' (first | ((refine Qa rfl ?_); (refine Q1 ?_); (refine QX rfl rfl ?_)) | refine Qh ?_ | refine Ql ?_ | refine Qo rfl ?_ | refine Qr ?_ | refine Qs ?_)
    refine awp_ret ?_
    refine ⟨_, rfl, ?_, ?_⟩
    · rw [decide_eq_true hab]; rfl
    · rfl
end Go.Abs
namespace Go.Abs
theorem wr64 {k : Nat} (h : k ≤ 16777216) : IntKind.i64.wrap ((k : Int) * 64) = ((k * 64 : Nat) : Int) := wrap_eq (by simp) (by omega) (by omega)
theorem wr64a {k : Nat} {j : Int} {m : Nat} (h : k ≤ 16777216) (h2 : (k * 64 : Nat) + j = (m : Int)) (h3 : m ≤ 1073741824) : IntKind.i64.wrap (IntKind.i64.wrap ((k : Int) * 64) + j) = (m : Int) := by
  rw [wr64 h]; exact wrap_eq h2 (by omega) (by omega)
theorem spl_put {v : Dv} {k : Nat} {b : List UInt8} (hb : b.length = 64) :
    spl (v.image.map u8A) (k * 64) ((b.map u8A).take (min 64 (b.map u8A).length)) = (v.put k b).image.map u8A := by
  have h1 : (b.map u8A).length = 64 := by simp [hb]
  rw [h1, Nat.min_self, List.take_of_length_le (by omega)]
  simp [spl, Dv.put, hb, List.map_take, List.map_drop]
def imgH (v : Dv) : Hp := devH v ++ [some (.arr (v.image.map u8A) 5)]
theorem hok_img (v : Dv) : HOk 4 (imgH v) := fun j o ho => by
  match j, ho with
  | 0, ho => cases ho; exact ⟨by simp [IdsLt], by simp [IdsLt], trivial, trivial, trivial, trivial⟩
  | 1, ho => cases ho; exact idsL_map fun _ => u8A_ids
  | 2, ho => cases ho; exact ⟨by rw [List.map_map]; exact idsL_map fun _ => trivial, by rw [List.map_map]; exact idsL_map fun p => (idsL_map (f := u8A) fun _ => u8A_ids : IdsLtL _ (p.2.map u8A))⟩
  | 3, ho => cases ho; exact idsL_map fun _ => u8A_ids
theorem replF_len (v : Dv) (mig : Int) : ∀ n i, (replF v mig i n).length ≤ n := by
  intro n
  induction n with
  | zero => intro i; exact Nat.le_refl _
  | succ n ih =>
    intro i
    simp only [replF]
    split
    · exact Nat.zero_le _
    · simp only [List.length_cons]; have := ih (i + 1); omega
theorem repl_len (v : Dv) (mig : Int) : (repl v mig).length ≤ 36 := replF_len v mig 36 0
attribute [local irreducible] AStep aops AWp Nx awM
attribute [local irreducible] lz
set_option maxHeartbeats 0 in
set_option maxRecDepth 100000 in
theorem logScript_c (X : Nat → Prop) (ps : List Pl) (mig : Int) (hm : mig ≤ 9223372036854775807) :
    ACalls (E0 X) 6 [.sl 8 (ps.map plA), .int .i64 mig] [] (fun r H' => r = .bool true ∧ H' = []) := by
  have hnew : ACalls (E0 X) 19 [.int .i64 80] [] (fun r H' => r = .ptr 0 0 ∧ H' = devH (Dv.fresh lz)) := (new_c X 80).mono fun r H' h => by
    rcases h with ⟨_, _, h1, h2⟩ | ⟨h1, _⟩
    · refine ⟨h1, h2.trans ?_⟩
      unfold lz; rfl
    · exact absurd ⟨by decide, by decide⟩ h1
  have hlv := lz_lv
  have hold : (Dv.fresh lz).old = [] := rfl
  have him : (Dv.fresh lz).image.map u8A = List.replicate 5120 (u8A 0) := by
    have : (Dv.fresh lz).image = List.replicate 5120 0 := by simp [Dv.fresh]; unfold lz; rfl
    rw [this, List.map_replicate]
  generalize Dv.fresh lz = v0 at *
  refine acalls_of Proofs.Tryd.func6 rfl Proofs.Tryd.ntmps6 (by kernel_rfl) rfl ?_
  intro hH hargs
  clear hH hargs
  repeat' (first | ((refine Qa rfl ?_); (refine Q1 ?_); (refine QX rfl rfl ?_)) | refine Qa rfl ?_ | refine Qh ?_ | refine Ql ?_ | refine Qo rfl ?_)
  refine st_call (fun _ => rfl) rfl ?_
  refine ACalls.mono (hnew) ?_
  rintro r H' ⟨rfl, rfl⟩
  first | refine nx rfl rfl ?_ | refine nx0 ?_
  repeat' (first | ((refine Qa rfl ?_); (refine Q1 ?_); (refine QX rfl rfl ?_)) | refine Qa rfl ?_ | refine Qh ?_ | refine Ql ?_ | refine Qo rfl ?_)
  refine st_mko (n := 5120) (el := u8A 0) rfl (rfl) (rfl) ?_ ?_ rfl rfl rfl rfl rfl rfl (.inr rfl) (.inr rfl) rfl rfl ?_
  · show 1 * _ ≤ 281474976710656
    first
    | omega
    | (simp; omega)
  · show _ ≤ 9223372036854775807
    omega
  first | refine nx rfl rfl ?_ | refine nx0 ?_
  repeat' (first | ((refine Qa rfl ?_); (refine Q1 ?_); (refine QX rfl rfl ?_)) | refine Qh ?_ | refine Ql ?_ | refine Qn ?_ | refine Qo rfl ?_)
  refine awp_loop2 (fun p : Nat × Dv => ⟨[(0, .sl 8 (ps.map plA)), (1, .int .i64 mig), (5, .ptr 0 0), (6, .own 3 0 5120), (7, .int .i64 (p.1 : Int))], imgH p.2⟩)
    (fun p => p.1 ≤ 20 ∧ Lv 5120 p.2 ∧ p.2.old = []) (fun p => 20 - p.1) (0, v0) ⟨by omega, hlv, hold⟩ ?_ ?_
  · refine imp_cutk 4 (Nat.zero_le _) (hok_img _) (by rw [imgH, ← him]; rfl) (by simp [devH]) ?_
    repeat' (first | exact fa_nil | refine fa_cons ⟨?_, ?_⟩ ?_)
    all_goals (try first | exact rfl | exact trivial | (simp [IdsLt, IdsLtL]; done) | (simp [get_cons]; done) | (simp [get_cons, *]; done) | (refine congrArg (AV.int .i64) (wrap_eq ?_ ?_ ?_) <;> (first | omega | (simp; omega))))
  rintro ⟨i, v⟩ ⟨hi, hv, ho⟩
  have hi : i ≤ 20 := hi
  have hv : Lv 5120 v := hv
  have ho : v.old = [] := ho
  have hlen := hv.len
  show AWp _ _ _ _ _ ⟨[(0, .sl 8 (ps.map plA)), (1, .int .i64 mig), (5, .ptr 0 0), (6, .own 3 0 5120), (7, .int .i64 (i : Int))], imgH v⟩
  have heq : ∀ H y, srcA (E0 X) H 1 y = some (v.image.map u8A) → ACalls (E0 X) 28 [.sl 1 (v.image.map u8A), y] H (fun r H' => r = .bool true ∧ H' = H) := fun H y hy => by
    have := eq_b X H (.sl 1 (v.image.map u8A)) y v.image v.image (by omega) rfl hy
    rw [decide_eq_true rfl] at this
    exact this
  have heq2 : ∀ X, ACalls (E0 X) 26 [.sl 8 ((repl v mig).map plA), .sl 8 ((repl v mig).map plA)] [] (fun r H' => r = .bool true ∧ H' = []) := fun X => by
    have := peq_c X (repl v mig) (repl v mig) (by have := repl_len v mig; omega)
    rw [decide_eq_true rfl] at this
    exact this
  have hrr := fun x hx => rreplay_at X v 5120 (by decide) (by decide) hv mig hm (imgH v) (by exact hok_img v) x hx
  repeat' (first | ((refine Qa rfl ?_); (first | refine Q0 ?_ | refine Q2 rfl ?_ | refine Q5 rfl ?_ | refine Q7 rfl rfl rfl ?_); (refine QX rfl rfl ?_)) | refine Qa rfl ?_ | refine Qh ?_ | refine Qi rfl ?_ | refine Ql ?_ | refine Qo rfl ?_ | refine Qq rfl ?_ | refine Qr ?_ | refine Qs ?_ | ((fail_if_success refine QV rfl ?_); refine Qy rfl rfl (fun _ => ?_) (fun _ => ?_)))
  · rename_i h1
    have hi1 : i < ps.length := by simpa using h1
    refine awp_cond_dec rfl (fun h2 => ?_) (fun h2 => ?_)
    · have hi2 : i < 20 := by omega
      obtain ⟨p, hp⟩ : ∃ p, ps[i]? = some p := ⟨_, List.getElem?_eq_getElem hi1⟩
      repeat' (first | ((refine Qa rfl ?_); (refine Q0 ?_); (refine QX rfl rfl ?_)) | refine Qa rfl ?_ | refine Ql ?_ | refine Qm ?_ | refine Qn ?_ | refine Qo rfl ?_)
      refine st_ixm hp rfl rfl rfl rfl rfl rfl rfl (by first | rfl | omega) rfl ?_
      first | refine nx rfl rfl ?_ | refine nx0 ?_
      repeat' (first | ((refine Qa rfl ?_); (refine Q3 rfl rfl rfl ?_); (refine QX rfl rfl ?_)) | refine Qa rfl ?_)
      have hni : IntKind.i64.wrap ((i : Int) + 1) = ((i + 1 : Nat) : Int) := wrap_eq (by omega) (by omega) (by omega)
      cases hvb : validB p with
      | false =>
        refine st_call (fun _ => rfl) rfl ?_
        refine ACalls.mono (dev_l (fun X => appendbad_c X v p hvb) ⟨plA_ids, trivial⟩ trivial [some (.arr (v.image.map u8A) 5)] (X := X)) ?_
        rintro r H' ⟨rfl, rfl⟩
        first | refine nx rfl rfl ?_ | refine nx0 ?_
        repeat' (first | ((refine Qa rfl ?_); (first | refine Q0 ?_ | refine Q1 ?_); (refine QX rfl rfl ?_)) | refine Qa rfl ?_ | refine Qh ?_ | refine Ql ?_ | refine Qo rfl ?_)
        refine st_ixm hp rfl rfl rfl rfl rfl rfl rfl (by first | rfl | omega) rfl ?_
        first | refine nx rfl rfl ?_ | refine nx0 ?_
        repeat' (first | ((refine Qa rfl ?_); (refine Q3 rfl rfl rfl ?_); (refine QX rfl rfl ?_)) | refine Qa rfl ?_)
        refine st_call (fun _ => rfl) rfl ?_
        refine ACalls.mono (acalls_pure (E := E0 X) (fun X => rvalid_c X p) (by simp [IdsLtL, IdsLt]) _) ?_
        rintro r H' ⟨rfl, rfl⟩
        first | refine nx rfl rfl ?_ | refine nx0 ?_
        rw [hvb]
        repeat' (first | ((refine Qa rfl ?_); (first | refine Q0 ?_ | refine Q1 ?_ | refine Q2 rfl ?_ | refine QD rfl ?_); (refine QX rfl rfl ?_)) | refine Qh ?_ | refine Ql ?_ | refine Qm ?_ | refine Qo rfl ?_ | refine Qp rfl ?_ | refine Qq rfl ?_ | refine Qr ?_ | refine Qs ?_)
        refine ⟨(i + 1, v), ⟨by show i + 1 ≤ 20; omega, hv, ho⟩, by show 20 - (i + 1) < 20 - i; omega, imp_cutk 4 (Nat.zero_le _) (hok_img _) rfl (by simp [devH]) ?_⟩
        repeat' (first | exact fa_nil | refine fa_cons ⟨?_, ?_⟩ ?_)
        all_goals (try first | exact rfl | exact trivial | (simp [IdsLt, IdsLtL]; done) | (simp [get_cons]; done) | (simp [get_cons, *]; done) | (refine congrArg (AV.int .i64) (wrap_eq ?_ ?_ ?_) <;> (first | omega | (simp; omega))))
      | true =>
        obtain ⟨q, hq, hk, hmg, hix, htl, hf⟩ := valid_nat hvb
        subst hq
        have hsec := sec_of hmg.1 hix
        have hs74 := secN_lt hix
        have hv2 := hv.app (by decide) (p := q) hix
        have him2 : (v.app q).image = (v.put (secN q) (encP q (secN q))).image := rfl
        have ho2 : (v.app q).old = [] := rfl
        have hel := encP_len q (secN q)
        have hsp := spl_put (v := v) (k := secN q) hel
        rw [← him2] at hsp
        have hap := fun R => dev_l (fun X => append_c X v 5120 (by decide) (by decide) hv q hvb) ⟨plA_ids, trivial⟩ trivial R (X := X)
        have henc := fun X => rpenc_c X q (secN q) hvb (by omega)
        have hsc := fun X => rsector_c X q.mig q.idx (by omega)
        rw [hsec] at hsc
        have hrv := fun X => rvalid_c X q.pl
        rw [hvb] at hrv
        have hdi := fun R => dev_l (fun X => dirty_c X (v.app q)) trivial trivial R (X := X)
        rw [ho2] at hdi
        have hrp := fun R => dev_l (fun X => replay_c X (v.app q) hv2.inv (q.mig : Int) (by omega)) ⟨trivial, trivial⟩ (pl_ids _) R (X := X)
        have hrr2 := fun x hx => rreplay_at X (v.app q) 5120 (by decide) (by decide) hv2 (q.mig : Int) (by omega) (imgH (v.app q)) (by exact hok_img (v.app q)) x hx
        have hlen2 := hv2.len
        generalize v.app q = v2 at *
        generalize encP q (secN q) = eb at *
        generalize secN q = k at *
        refine st_call (fun _ => rfl) rfl ?_
        refine ACalls.mono (hap _) ?_
        rintro r H' ⟨rfl, rfl⟩
        first | refine nx rfl rfl ?_ | refine nx0 ?_
        repeat' (first | ((refine Qa rfl ?_); (first | refine Q0 ?_ | refine Q1 ?_); (refine QX rfl rfl ?_)) | refine Qa rfl ?_ | refine Qh ?_ | refine Ql ?_ | refine Qo rfl ?_)
        refine st_ixm hp rfl rfl rfl rfl rfl rfl rfl (by first | rfl | omega) rfl ?_
        first | refine nx rfl rfl ?_ | refine nx0 ?_
        repeat' (first | ((refine Qa rfl ?_); (refine Q3 rfl rfl rfl ?_); (refine QX rfl rfl ?_)) | refine Qa rfl ?_)
        refine st_call (fun _ => rfl) rfl ?_
        refine ACalls.mono (acalls_pure (E := E0 X) (fun X => hrv X) (by simp [IdsLtL, IdsLt]) _) ?_
        rintro r H' ⟨rfl, rfl⟩
        first | refine nx rfl rfl ?_ | refine nx0 ?_
        repeat' (first | ((refine Qa rfl ?_); (refine QD rfl ?_); (refine QX rfl rfl ?_)) | refine Qh ?_ | refine Ql ?_ | refine Qm ?_ | refine Qq rfl ?_)
        refine awp_region_auto2 [] [] (by exact rfl) (by kernel_rfl) ?_
        repeat' ((apply Qd rfl rfl rfl rfl); (refine Q0 ?_); (exact QX rfl rfl ⟨rfl, rfl⟩))
        apply ds rfl rfl rfl rfl
        · refine st_ixm hp rfl rfl rfl rfl rfl rfl rfl (by first | rfl | omega) rfl ?_
          first | exact nx rfl rfl ⟨rfl, rfl⟩ | exact nx0 ⟨rfl, rfl⟩
        repeat' ((apply Qd rfl rfl rfl rfl); (first | refine Q0 ?_ | refine Q3 rfl rfl rfl ?_ | refine Q4 rfl rfl rfl rfl rfl ?_); (exact QX rfl rfl ⟨rfl, rfl⟩))
        apply ds rfl rfl rfl rfl
        · refine st_ixm hp rfl rfl rfl rfl rfl rfl rfl (by first | rfl | omega) rfl ?_
          first | exact nx rfl rfl ⟨rfl, rfl⟩ | exact nx0 ⟨rfl, rfl⟩
        repeat' ((apply Qd rfl rfl rfl rfl); (first | refine Q3 rfl rfl rfl ?_ | refine Q4 rfl rfl rfl rfl rfl ?_); (exact QX rfl rfl ⟨rfl, rfl⟩))
        apply ds rfl rfl rfl rfl
        · refine st_call (fun _ => rfl) rfl ?_
          refine ACalls.mono (acalls_pure (E := E0 X) (fun X => hsc X) (by simp [IdsLtL, IdsLt]) _) ?_
          rintro r H' ⟨rfl, rfl⟩
          first
          | exact nx rfl rfl ⟨rfl, rfl⟩
          | exact nx0 ⟨rfl, rfl⟩
        repeat' (first | ((apply Qd rfl rfl rfl rfl); (refine Q1 ?_); (exact QX rfl rfl ⟨rfl, rfl⟩)) | refine Qk ?_ | refine Ql ?_)
        refine awp_region_any [13] [] (by exact rfl) ?_
        refine any_lin (fuel := 0) [0, 1, 2, 3, 4, 5, 6, 7, 8, 9, 10, 11, 12, 13] (by exact rfl) (by kernel_rfl) (by kernel_rfl) ?_
        repeat' ((apply Qd rfl rfl rfl rfl); (first | refine Q0 ?_ | refine Q2 rfl ?_); (exact QX rfl rfl ⟨rfl, rfl⟩))
        apply ds rfl rfl rfl rfl
        · refine st_slo (l := k * 64) (h := k * 64 + 64) (lo' := k * 64) (n' := 64) (bnd_some rfl (wr64 (by omega))) (bnd_some rfl (wr64a (by omega) (by simp) (by omega))) (by omega) (by first | omega | (simp; omega)) (by omega) (by omega) rfl rfl rfl rfl rfl rfl rfl ?_
          first
          | exact nx rfl rfl ⟨rfl, rfl⟩
          | exact nx0 ⟨rfl, rfl⟩
        repeat' ((apply Qd rfl rfl rfl rfl); (refine Q0 ?_); (exact QX rfl rfl ⟨rfl, rfl⟩))
        apply ds rfl rfl rfl rfl
        · refine st_ixm hp rfl rfl rfl rfl rfl rfl rfl (by first | rfl | omega) rfl ?_
          first | exact nx rfl rfl ⟨rfl, rfl⟩ | exact nx0 ⟨rfl, rfl⟩
        repeat' ((apply Qd rfl rfl rfl rfl); (first | refine Q0 ?_ | refine Q3 rfl rfl rfl ?_); (exact QX rfl rfl ⟨rfl, rfl⟩))
        apply ds rfl rfl rfl rfl
        · refine st_call (fun _ => rfl) rfl ?_
          refine ACalls.mono (acalls_pure (E := E0 X) (fun X => henc X) (by simp [IdsLtL, IdsLt]) _) ?_
          rintro r H' ⟨rfl, rfl⟩
          first
          | exact nx rfl rfl ⟨rfl, rfl⟩
          | exact nx0 ⟨rfl, rfl⟩
        skip
        refine ds_ef rfl rfl rfl ?_
        refine st_cpy (out := v2.image.map u8A) (q := 64) (by simp; omega) (rfl) (oneEs_u8 _) (hsp) (by simp [hel]) rfl rfl rfl rfl rfl rfl rfl rfl ?_
        first | refine nx rfl rfl ?_ | refine nx0 ?_
        repeat' (first | ((refine Qa rfl ?_); (first | refine Q0 ?_ | refine Q2 rfl ?_); (refine QX rfl rfl ?_)) | refine Qa rfl ?_ | refine Qk ?_ | refine Ql ?_ | refine Qo rfl ?_ | refine Qw (by kernel_rfl) ?_)
        refine st_call (fun _ => rfl) rfl ?_
        refine ACalls.mono (hdi _) ?_
        rintro r H' ⟨rfl, rfl⟩
        first | refine nx rfl rfl ?_ | refine nx0 ?_
        repeat' (first | ((refine Qa rfl ?_); (first | refine Q2 rfl ?_ | refine Q5 rfl ?_); (refine QX rfl rfl ?_)) | refine Qh ?_ | refine Ql ?_ | refine Qm ?_ | refine Qq rfl ?_)
        refine awp_region_auto2 [] [] (by exact rfl) (by kernel_rfl) ?_
        repeat' ((apply Qd rfl rfl rfl rfl); (refine Q0 ?_); (exact QX rfl rfl ⟨rfl, rfl⟩))
        apply ds rfl rfl rfl rfl
        · refine st_ixm hp rfl rfl rfl rfl rfl rfl rfl (by first | rfl | omega) rfl ?_
          first | exact nx rfl rfl ⟨rfl, rfl⟩ | exact nx0 ⟨rfl, rfl⟩
        repeat' ((apply Qd rfl rfl rfl rfl); (first | refine Q3 rfl rfl rfl ?_ | refine Q4 rfl rfl rfl rfl rfl ?_); (exact QX rfl rfl ⟨rfl, rfl⟩))
        apply ds rfl rfl rfl rfl
        · refine st_call (fun _ => rfl) rfl ?_
          refine ACalls.mono (hrp _) ?_
          rintro r H' ⟨rfl, rfl⟩
          first
          | exact nx rfl rfl ⟨rfl, rfl⟩
          | exact nx0 ⟨rfl, rfl⟩
        repeat' ((apply Qd rfl rfl rfl rfl); (refine Q0 ?_); (exact QX rfl rfl ⟨rfl, rfl⟩))
        apply ds rfl rfl rfl rfl
        · refine st_ixm hp rfl rfl rfl rfl rfl rfl rfl (by first | rfl | omega) rfl ?_
          first | exact nx rfl rfl ⟨rfl, rfl⟩ | exact nx0 ⟨rfl, rfl⟩
        repeat' ((apply Qd rfl rfl rfl rfl); (first | refine Q3 rfl rfl rfl ?_ | refine Q4 rfl rfl rfl rfl rfl ?_); (exact QX rfl rfl ⟨rfl, rfl⟩))
        apply ds rfl rfl rfl rfl
        · refine st_call (fun _ => rfl) rfl ?_
          refine ACalls.mono (hrr2 _ (src_ownm' rfl rfl rfl (by omega) (by rw [List.drop_zero, List.take_of_length_le (by omega)]))) ?_
          rintro r H' ⟨rfl, rfl⟩
          first
          | exact nx rfl rfl ⟨rfl, rfl⟩
          | exact nx0 ⟨rfl, rfl⟩
        skip
        apply ds rfl rfl rfl rfl
        · refine st_call (fun _ => rfl) rfl ?_
          refine ACalls.mono (acalls_pure (E := E0 X) (fun X => peq_c X (repl v2 (q.mig : Int)) (repl v2 (q.mig : Int)) (by have := repl_len v2 (q.mig : Int); omega)) (by simp [IdsLtL, IdsLt]) _) ?_
          rintro r H' ⟨rfl, rfl⟩
          first
          | exact nx rfl rfl ⟨rfl, rfl⟩
          | exact nx0 ⟨rfl, rfl⟩
        repeat' (first | ((apply Qd rfl rfl rfl rfl); (refine QD rfl ?_); (exact QX rfl rfl ⟨rfl, rfl⟩)) | refine Qk ?_ | refine Qs ?_)
        refine awp_cond rfl (fun h9 => absurd h9 (by simp)) (fun _ => ?_)
        repeat' (first | ((refine Qa rfl ?_); (first | refine Q0 ?_ | refine Q1 ?_ | refine Q2 rfl ?_); (refine QX rfl rfl ?_)) | refine Qh ?_ | refine Qm ?_ | refine Qo rfl ?_ | refine Qs ?_)
        refine ⟨(i + 1, v2), ⟨by show i + 1 ≤ 20; omega, hv2, ho2⟩, by show 20 - (i + 1) < 20 - i; omega, imp_cutk 4 (Nat.zero_le _) (hok_img _) rfl (by simp [devH]) ?_⟩
        repeat' (first | exact fa_nil | refine fa_cons ⟨?_, ?_⟩ ?_)
        all_goals (try first | exact rfl | exact trivial | (simp [IdsLt, IdsLtL]; done) | (simp [get_cons]; done) | (simp [get_cons, *]; done) | (refine congrArg (AV.int .i64) (wrap_eq ?_ ?_ ?_) <;> (first | omega | (simp; omega))))
    · skip
      repeat' (first | refine Qa rfl ?_ | refine Ql ?_ | refine Qo rfl ?_ | refine Qr ?_)
      refine st_call (fun _ => rfl) rfl ?_
      refine ACalls.mono (acalls_pure (E := E0 X) (fun X => awake_c X) (by simp [IdsLtL, IdsLt]) _) ?_
      rintro r H' ⟨rfl, rfl⟩
      first | refine nx rfl rfl ?_ | refine nx0 ?_
      repeat' (first | ((refine Qa rfl ?_); (refine Q0 ?_); (refine QX rfl rfl ?_)) | refine Qa rfl ?_)
      refine st_call (fun _ => rfl) rfl ?_
      refine ACalls.mono (dev_l (fun X => image_v X v (by omega)) trivial (idsL_map fun _ => u8A_ids) [some (.arr (v.image.map u8A) 5)] (X := X)) ?_
      rintro r H' ⟨rfl, rfl⟩
      first | refine nx rfl rfl ?_ | refine nx0 ?_
      repeat' (first | ((refine Qa rfl ?_); (refine Q0 ?_); (refine QX rfl rfl ?_)) | refine Qa rfl ?_)
      refine st_call (fun _ => rfl) rfl ?_
      refine ACalls.mono (heq _ _ (src_ownm' rfl rfl rfl (by omega) (by rw [List.drop_zero, List.take_of_length_le (by omega)]))) ?_
      rintro r H' ⟨rfl, rfl⟩
      first | refine nx rfl rfl ?_ | refine nx0 ?_
      repeat' (first | ((refine Qa rfl ?_); (first | refine Q0 ?_ | refine Q5 rfl ?_); (refine QX rfl rfl ?_)) | refine Qa rfl ?_)
      refine st_call (fun _ => rfl) rfl ?_
      refine ACalls.mono (dev_l (fun X => replay_c X v hv.inv mig hm) ⟨trivial, trivial⟩ (pl_ids _) [some (.arr (v.image.map u8A) 5)] (X := X)) ?_
      rintro r H' ⟨rfl, rfl⟩
      first | refine nx rfl rfl ?_ | refine nx0 ?_
      repeat' (first | ((refine Qa rfl ?_); (refine Q0 ?_); (refine QX rfl rfl ?_)) | refine Qa rfl ?_)
      refine st_call (fun _ => rfl) rfl ?_
      refine ACalls.mono (hrr _ (src_ownm' rfl rfl rfl (by omega) (by rw [List.drop_zero, List.take_of_length_le (by omega)]))) ?_
      rintro r H' ⟨rfl, rfl⟩
      first | refine nx rfl rfl ?_ | refine nx0 ?_
      repeat' (refine Qa rfl ?_)
      refine st_call (fun _ => rfl) rfl ?_
      refine ACalls.mono (acalls_pure (E := E0 X) heq2 (by simp [IdsLtL, IdsLt]) _) ?_
      rintro r H' ⟨rfl, rfl⟩
      first | refine nx rfl rfl ?_ | refine nx0 ?_
      repeat' (first | ((refine Qa rfl ?_); (first | refine Q1 ?_ | refine Q5 rfl ?_); (refine QX rfl rfl ?_)) | refine Qh ?_ | refine Qs ?_)
      refine awp_pre (imp_cutk 0 (Nat.le_refl _) hok_nil rfl (by simp) (sl' := [(4, .bool true)]) ?_) ?_
      · repeat' (first | exact fa_nil | refine fa_cons ⟨?_, ?_⟩ ?_)
        all_goals (try first | exact rfl | exact trivial | (simp [IdsLt, IdsLtL]; done) | (simp [get_cons]; done) | (simp [get_cons, *]; done) | (refine congrArg (AV.int .i64) (wrap_eq ?_ ?_ ?_) <;> (first | omega | (simp; omega))))
      refine awp_ret ?_
      refine ⟨_, rfl, ?_, ?_⟩
      · rfl
      · rfl
  · skip
    skip
    refine st_call (fun _ => rfl) rfl ?_
    refine ACalls.mono (acalls_pure (E := E0 X) (fun X => awake_c X) (by simp [IdsLtL, IdsLt]) _) ?_
    rintro r H' ⟨rfl, rfl⟩
    first | refine nx rfl rfl ?_ | refine nx0 ?_
    repeat' (first | ((refine Qa rfl ?_); (refine Q0 ?_); (refine QX rfl rfl ?_)) | refine Qa rfl ?_)
    refine st_call (fun _ => rfl) rfl ?_
    refine ACalls.mono (dev_l (fun X => image_v X v (by omega)) trivial (idsL_map fun _ => u8A_ids) [some (.arr (v.image.map u8A) 5)] (X := X)) ?_
    rintro r H' ⟨rfl, rfl⟩
    first | refine nx rfl rfl ?_ | refine nx0 ?_
    repeat' (first | ((refine Qa rfl ?_); (refine Q0 ?_); (refine QX rfl rfl ?_)) | refine Qa rfl ?_)
    refine st_call (fun _ => rfl) rfl ?_
    refine ACalls.mono (heq _ _ (src_ownm' rfl rfl rfl (by omega) (by rw [List.drop_zero, List.take_of_length_le (by omega)]))) ?_
    rintro r H' ⟨rfl, rfl⟩
    first | refine nx rfl rfl ?_ | refine nx0 ?_
    repeat' (first | ((refine Qa rfl ?_); (first | refine Q0 ?_ | refine Q5 rfl ?_); (refine QX rfl rfl ?_)) | refine Qa rfl ?_)
    refine st_call (fun _ => rfl) rfl ?_
    refine ACalls.mono (dev_l (fun X => replay_c X v hv.inv mig hm) ⟨trivial, trivial⟩ (pl_ids _) [some (.arr (v.image.map u8A) 5)] (X := X)) ?_
    rintro r H' ⟨rfl, rfl⟩
    first | refine nx rfl rfl ?_ | refine nx0 ?_
    repeat' (first | ((refine Qa rfl ?_); (refine Q0 ?_); (refine QX rfl rfl ?_)) | refine Qa rfl ?_)
    refine st_call (fun _ => rfl) rfl ?_
    refine ACalls.mono (hrr _ (src_ownm' rfl rfl rfl (by omega) (by rw [List.drop_zero, List.take_of_length_le (by omega)]))) ?_
    rintro r H' ⟨rfl, rfl⟩
    first | refine nx rfl rfl ?_ | refine nx0 ?_
    repeat' (refine Qa rfl ?_)
    refine st_call (fun _ => rfl) rfl ?_
    refine ACalls.mono (acalls_pure (E := E0 X) heq2 (by simp [IdsLtL, IdsLt]) _) ?_
    rintro r H' ⟨rfl, rfl⟩
    first | refine nx rfl rfl ?_ | refine nx0 ?_
    repeat' (first | ((refine Qa rfl ?_); (first | refine Q1 ?_ | refine Q5 rfl ?_); (refine QX rfl rfl ?_)) | refine Qh ?_ | refine Qs ?_)
    refine awp_pre (imp_cutk 0 (Nat.le_refl _) hok_nil rfl (by simp) (sl' := [(4, .bool true)]) ?_) ?_
    · repeat' (first | exact fa_nil | refine fa_cons ⟨?_, ?_⟩ ?_)
      all_goals (try first | exact rfl | exact trivial | (simp [IdsLt, IdsLtL]; done) | (simp [get_cons]; done) | (simp [get_cons, *]; done) | (refine congrArg (AV.int .i64) (wrap_eq ?_ ?_ ?_) <;> (first | omega | (simp; omega))))
    refine awp_ret ?_
    refine ⟨_, rfl, ?_, ?_⟩
    · rfl
    · rfl
end Go.Abs
namespace Go.Abs
theorem plans_of {X : Nat → Prop} {x : AV} (h : hasC (E0 X) 4 35 [x]) : ∃ l : List Pl, x = .sl 8 (l.map plA) ∧ l.length ≤ maxLen := by
  have h1 : ∃ es, [x] = [.sl 8 es] ∧ es.length ≤ maxLen ∧ ∀ y ∈ es, ∃ ys, y = elA true ys ∧ hasF (E0 X) (hasC (E0 X) 2) [(0, 3), (1, 3), (2, 3), (3, 3), (4, 29)] ys := h
  obtain ⟨es, h2, hlen, h3⟩ := h1
  simp only [List.cons.injEq, and_true] at h2
  subst h2
  obtain ⟨l, rfl⟩ := list_of (f := plA) fun y hy => by
    obtain ⟨ys, rfl, _, _, rfl, ⟨n0, rfl, _⟩, _, _, rfl, ⟨n1, rfl, _⟩, _, _, rfl, ⟨n2, rfl, _⟩, _, _, rfl, ⟨n3, rfl, _⟩, a, r, rfl, ha, rfl⟩ := h3 y hy
    have ha2 : hasF (E0 X) (hasC (E0 X) 1) [(0, 3), (1, 3), (2, 3), (3, 3)] a := ha
    obtain ⟨_, _, rfl, ⟨m0, rfl, _⟩, _, _, rfl, ⟨m1, rfl, _⟩, _, _, rfl, ⟨m2, rfl, _⟩, _, _, rfl, ⟨m3, rfl, _⟩, rfl⟩ := ha2
    exact ⟨⟨n0, n1, n2, n3, ⟨m0, m1, m2, m3⟩⟩, rfl⟩
  exact ⟨l, rfl, by simpa using hlen⟩
end Go.Abs
namespace Go.Proofs.YtlndakkehobnpaaDoor
open Go.Abs Go.RowKit Go.ChangeShapes Go.WideShapes
set_option maxRecDepth 100000 in
theorem logScriptLifted (os : Os) (started : os.Started) (H : Type) (enc : TypeId × Value → H) :
    ReturnsInHanded {} Tryd.checked os 6 .any (fun w args => (Rows.logScriptSpec.pre enc Tryd.prog Tryd.f6 [] false w args ∧ laidMetH Tryd.prog [("flashcache/crc.table", Rows.laid_flashcache_crc_table)] w) ∧ sizedMet enc Tryd.prog Tryd.f6 (OpenSpec.ofChange Rows.logScriptSpec) false w args)
      (Rows.logScriptSpec.post enc Tryd.prog Tryd.f6 false Rows.logScriptRow.fresh Rows.logScriptRow.handsOn Rows.logScriptRow.again) := by
  refine returnsInHanded_of_change_and (C := Tryd.checked) (X := fun w _ => laidMetH Tryd.prog [("flashcache/crc.table", Rows.laid_flashcache_crc_table)] w) (fun _ _ _ hh h => h.of_heap hh) own0 started (by kernel_rfl) Tryd.func6
    (ChangeSpec.witness_shaped (enc := enc) (C := Tryd.checked) (os := os) (X := fun w _ => laidMetH Tryd.prog [("flashcache/crc.table", Rows.laid_flashcache_crc_table)] w) false (World.doorLaid Tryd.prog 400 os) #[.slice none 0 0, .int .i64 0] 8 rfl (World.shaped_of_RefB (by kernel_rfl) (by kernel_rfl)) (by kernel_rfl) (by kernel_rfl) (by kernel_rfl) (door_met os _)) ?_
  intro W base args ds gs before hval0 hW _ _ hL _
  have hval : ∀ (j : Nat) t v, Tryd.f6.params[j]? = some t → args[j]? = some v → Value.okWide Tryd.prog W .any base t v := hval0
  have hW2 := hW
  obtain ⟨p, q, hA0, hV, _, _, _⟩ := hW2
  have hA : DataW.TrodAll enc Tryd.prog W 0 (fun _ => true) true [35, 3] args.toList ds p := hA0
  obtain ⟨rfl, rfl⟩ := trodVars_none hV
  obtain ⟨v0, v1, d0, d1, p0, p1, rfl, rfl, rfl, t0, t1⟩ := trodAll_two hA
  obtain ⟨x0, r0, c0⟩ := arg_av (E := E0 fun _ => False) (E0_ok _) (fun _ h => h) (f := 4) rfl rfl (hval 0 35 v0 rfl rfl) t0
  obtain ⟨x1, r1, c1⟩ := arg_av (E := E0 fun _ => False) (E0_ok _) (fun _ h => h) (f := 1) rfl rfl (hval 1 3 v1 rfl rfl) t1
  obtain ⟨l0, rfl, h0⟩ := plans_of c0
  obtain ⟨l1, rfl, g1, h1⟩ := int_of c1
  exact law_trueG (E := E0 fun _ => False) (avs := [.sl 8 (l0.map plA), .int .i64 l1]) (tb := 4) (E0_ok _) (glob_of_laid hL) (by kernel_rfl) rfl (by kernel_rfl) (by kernel_rfl) (by kernel_rfl) rfl rfl rfl hW (fun _ h => h)
    (RelL.cons r0 (RelL.cons r1 (by simp [Abs.RelL]))) (logScript_c _ l0 l1 h1)
theorem logScript_holds : Rows.LogScriptSaid :=
  OpenClaim.holds_of_wide 6 Tryd.f6 rfl rfl rfl rfl rfl rfl rfl ⟨rfl, rfl, rfl, rfl, rfl⟩ rfl rfl rfl rfl rfl (by kernel_rfl) Tryd.func6 (by kernel_rfl)
    (of_decide_eq_true (by kernel_rfl)) (by unfold Func.isWrapper; rw [if_neg (of_decide_eq_false (by kernel_rfl))]; exact ⟨rfl, rfl⟩)
    (fun os started H enc _ => logScriptLifted os started H enc)
theorem logScript_card : Rows.LogScriptCardSaid :=
  Claim7.holds_tied_plain_at .later [] [.data] true (true, "ef1fa8f3014c6e3fe2b1907d4f734f2c932dc2d5fe76d3eb980f0835b0714608") false
    logScript_holds (fun _ h => by cases h) (by kernel_rfl) (fun _ h => by cases h) logScript_row_tie rfl ⟨rfl, rfl⟩ (by kernel_rfl) rfl
    (fun f fn hf hfn => by
      obtain rfl : f = 6 := Option.some.inj ((show Tryd.prog.funcNamed "flashcache/flashcachelaw11.LogScript" = some 6 by kernel_rfl).symm.trans hf) |>.symm
      obtain rfl : fn = Tryd.f6 := (Option.some.inj (Tryd.func6.symm.trans hfn)).symm
      exact ⟨by kernel_rfl, fun j t ht => by
        have ht : (#[35, 3] : Array TypeId)[j]? = some t := ht
        have hm : t ∈ [35, 3] := by simpa using Array.mem_of_getElem? ht
        have hall : ([35, 3].all fun u => !Tryd.prog.wantsStandIn u) = true := by kernel_rfl
        exact (show Tryd.prog.wantsStandIn t = false by simpa using List.all_eq_true.1 hall t hm)⟩)
    (by kernel_rfl)
end Go.Proofs.YtlndakkehobnpaaDoor
