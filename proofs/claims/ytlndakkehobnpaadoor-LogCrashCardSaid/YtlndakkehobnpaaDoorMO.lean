/- The reference's Replay and Eq of lists of plan records. Joined texts, each with what its own name promises; no condition beyond those stated. -/
import Derived.Test.YtlndakkehobnpaaDoorMJ
import Derived.Test.YtlndakkehobnpaaDoorME
import Derived.Test.YtlndakkehobnpaaDoorMK
namespace Go.Abs
deriving instance DecidableEq for La
deriving instance DecidableEq for Pl
theorem check_neg {v : Dv} (h : v.Inv) : v.check (-1) ≠ 0 := fun hc => by
  obtain ⟨-, k, hk, -⟩ := check_in h hc
  omega
theorem hok_pa (l : List Pl) : HOk 1 [some (.arr (l.map plA) 32)] := fun j o ho => by
  match j, ho with
  | 0, ho => cases ho; exact idsL_map fun _ => plA_ids
attribute [local irreducible] AStep aops AWp Nx awM
set_option maxHeartbeats 0 in
set_option maxRecDepth 100000 in
theorem rreplay_c (X : Nat → Prop) (v : Dv) (L : Nat) (hL : 4736 ≤ L) (hL2 : L ≤ 67108864) (hv : Lv L v) (mig : Int) (hm : mig ≤ 9223372036854775807) :
    ACalls (E0 X) 27 [.sl 1 (v.image.map u8A), .int .i64 mig] [] (fun r H' => r = .own 0 0 (repl v mig).length ∧ H' = [some (.arr ((repl v mig).map plA) 32)]) := by
  have hlen := hv.len
  refine acalls_of Proofs.Tryd.func27 rfl Proofs.Tryd.ntmps27 (by kernel_rfl) rfl ?_
  intro hH hargs
  clear hH hargs
  repeat' (first | ((refine Qa rfl ?_); (refine Q1 ?_); (refine QX rfl rfl ?_)) | refine Qh ?_ | refine Ql ?_ | refine Qn ?_ | refine Qo rfl ?_)
  refine awp_loop2 (fun p : Nat × List Pl => ⟨[(0, .sl 1 (v.image.map u8A)), (1, .int .i64 mig), (5, .own 0 0 p.2.length), (6, .int .i64 (p.1 : Int))], [some (.arr (p.2.map plA) 32)]⟩)
    (fun p => p.1 ≤ 36 ∧ p.2.length ≤ p.1 ∧ p.2 ++ replF v mig p.1 (36 - p.1) = repl v mig) (fun p => 36 - p.1) (0, []) ⟨by omega, by simp, rfl⟩ ?_ ?_
  · refine Imp.trans (imp_nil 5 32 rfl) (imp_cutk 1 (by simp) (hok_pa []) rfl (by simp) ?_)
    repeat' (first | exact fa_nil | refine fa_cons ⟨?_, ?_⟩ ?_)
    all_goals (try first | exact rfl | exact trivial | (simp [IdsLt, IdsLtL]; done) | (simp [get_cons]; done) | (simp [get_cons, *]; done) | (refine congrArg (AV.int .i64) (wrap_eq ?_ ?_ ?_) <;> (first | omega | (simp; omega))))
  rintro ⟨i, out⟩ ⟨hi, hol, hr⟩
  have hi : i ≤ 36 := hi
  have hol : out.length ≤ i := hol
  have hr : out ++ replF v mig i (36 - i) = repl v mig := hr
  show AWp _ _ _ _ _ ⟨[(0, .sl 1 (v.image.map u8A)), (1, .int .i64 mig), (5, .own 0 0 out.length), (6, .int .i64 (i : Int))], [some (.arr (out.map plA) 32)]⟩
  have hsc := fun X => rsector_c X mig i hm
  repeat' (first | ((refine Qa rfl ?_); (first | refine Q0 ?_ | refine Q1 ?_ | refine Q2 rfl ?_ | refine Q5 rfl ?_); (refine QX rfl rfl ?_)) | refine Qh ?_ | refine Qi rfl ?_ | refine Ql ?_ | refine Qo rfl ?_ | refine Qq rfl ?_ | refine Qr ?_ | refine Qs ?_ | ((fail_if_success refine QV rfl ?_); refine Qy rfl rfl (fun _ => ?_) (fun _ => ?_)))
  · rename_i h3
    have hi3 : i < 36 := by omega
    have hrn : replF v mig i (36 - i) = match repStep v mig i with
      | none => []
      | some p => p :: replF v mig (i + 1) (36 - (i + 1)) := by
      have : 36 - i = (36 - (i + 1)) + 1 := by omega
      rw [this]; rfl
    refine awp_cond_dec rfl (fun h4 => ?_) (fun h4 => ?_)
    · have hk : secI mig i = ((2 + (mig.toNat + 1) % 2 * 36 + i : Nat) : Int) := by
        unfold secI; rw [if_neg (by omega)]; omega
      have hk74 : 2 + (mig.toNat + 1) % 2 * 36 + i < 74 := by omega
      generalize 2 + (mig.toNat + 1) % 2 * 36 + i = k at *
      have hc := check_ok hv.inv hv.dead (k := k) (by omega)
      rw [hk] at hsc
      have hst : repStep v mig i = match decP ((v.image.drop (k * 64)).take 64) k with
        | none => none
        | some p => if p.mig = mig ∧ p.idx = (i : Int) then some p else none := by
        simp only [repStep]
        rw [hk, if_neg (by simp [hc]), Int.toNat_natCast]
        rfl
      have hbl : ((v.image.drop (k * 64)).take 64).length = 64 := by simp; omega
      have e1 : IntKind.i64.wrap ((k : Int) * 64) = ((k * 64 : Nat) : Int) := wrap_eq (by omega) (by omega) (by omega)
      have e2 : IntKind.i64.wrap (((k * 64 : Nat) : Int) + 64) = ((k * 64 + 64 : Nat) : Int) := wrap_eq (by omega) (by omega) (by omega)
      repeat' (first | ((refine Qa rfl ?_); (refine Q0 ?_); (refine QX rfl rfl ?_)) | refine Qa rfl ?_ | refine Ql ?_ | refine Qm ?_ | refine Qn ?_ | refine Qo rfl ?_)
      refine st_call (fun _ => rfl) rfl ?_
      refine ACalls.mono (acalls_pure (E := E0 X) (fun X => hsc X) (by simp [IdsLtL, IdsLt]) _) ?_
      rintro r H' ⟨rfl, rfl⟩
      first | refine nx rfl rfl ?_ | refine nx0 ?_
      repeat' (first | ((refine Qa rfl ?_); (first | refine Q0 ?_ | refine Q1 ?_ | refine Q2 rfl ?_); (refine QX rfl rfl ?_)) | refine Qa rfl ?_ | refine Qh ?_ | refine Ql ?_ | refine Qo rfl ?_)
      rw [e1, e2]
      refine st_sls (l := k * 64) (h := k * 64 + 64) (ys := (v.image.drop (k * 64)).take 64) (bnd_some rfl rfl) (bnd_some rfl rfl) (by omega) (by omega) (by rw [List.drop_take]; congr 1; omega) rfl rfl rfl rfl rfl ?_
      first | refine nx rfl rfl ?_ | refine nx0 ?_
      generalize (v.image.drop (k * 64)).take 64 = bb at *
      repeat' (first | ((refine Qa rfl ?_); (refine Q0 ?_); (refine QX rfl rfl ?_)) | refine Qa rfl ?_)
      refine st_call (fun _ => rfl) rfl ?_
      refine ACalls.mono (acalls_pure (E := E0 X) (fun X => rpdec_c X bb k (by omega) (by omega)) (by simp [IdsLtL, IdsLt]) _) ?_
      rintro r H' ⟨rfl, rfl⟩
      cases hd : decP bb k with
      | none =>
        rw [hd] at hst
        rw [hst] at hrn
        rw [hrn, List.append_nil] at hr
        show Nx _ (.tup [plA zeroP, .bool false]) _
        first | refine nx rfl rfl ?_ | refine nx0 ?_
        repeat' (first | ((refine Qa rfl ?_); (first | refine Q0 ?_ | refine Q1 ?_ | refine Q5 rfl ?_ | refine QC rfl rfl ?_ | refine QD rfl ?_ | refine QJ rfl rfl ?_); (refine QX rfl rfl ?_)) | (refine Qb rfl ?_; try (refine QS rfl rfl rfl rfl rfl rfl rfl ?_; (refine QX rfl rfl ?_))) | refine Qh ?_ | refine Qi rfl ?_ | refine Ql ?_ | refine Qo rfl ?_ | refine Qp rfl ?_ | refine Qs ?_)
        refine awp_pre (imp_cutk 1 (Nat.zero_le _) (hok_pa out) rfl (by simp) (sl' := [(4, .own 0 0 out.length)]) ?_) ?_
        · repeat' (first | exact fa_nil | refine fa_cons ⟨?_, ?_⟩ ?_)
          all_goals (try first | exact rfl | exact trivial | (simp [IdsLt, IdsLtL]; done) | (simp [get_cons]; done) | (simp [get_cons, *]; done) | (refine congrArg (AV.int .i64) (wrap_eq ?_ ?_ ?_) <;> (first | omega | (simp; omega))))
        refine awp_ret ?_
        refine ⟨_, rfl, ?_, ?_⟩
        · rw [← hr]; rfl
        · rw [← hr]
      | some p =>
        rw [hd] at hst
        show Nx _ (.tup [plA p, .bool true]) _
        first | refine nx rfl rfl ?_ | refine nx0 ?_
        repeat' (first | ((refine Qa rfl ?_); (first | refine Q0 ?_ | refine Q1 ?_ | refine Q2 rfl ?_ | refine Q3 rfl rfl rfl ?_ | refine Q4 rfl rfl rfl rfl rfl ?_ | refine Q5 rfl ?_ | refine QC rfl rfl ?_ | refine QD rfl ?_ | refine QJ rfl rfl ?_); (refine QX rfl rfl ?_)) | (refine Qb rfl ?_; try (refine QS rfl rfl rfl rfl rfl rfl rfl ?_; (refine QX rfl rfl ?_))) | refine Qh ?_ | refine Qi rfl ?_ | refine Ql ?_ | refine Qo rfl ?_ | refine Qp rfl ?_ | refine Qs ?_ | ((fail_if_success refine QV rfl ?_); refine Qy rfl rfl (fun _ => ?_) (fun _ => ?_)))
        · rename_i h5
          have h6 : repStep v mig i = none := by rw [hst]; exact if_neg fun h => h5 h.1
          rw [h6] at hrn
          rw [hrn, List.append_nil] at hr
          refine awp_pre (imp_cutk 1 (Nat.zero_le _) (hok_pa out) rfl (by simp) (sl' := [(4, .own 0 0 out.length)]) ?_) ?_
          · repeat' (first | exact fa_nil | refine fa_cons ⟨?_, ?_⟩ ?_)
            all_goals (try first | exact rfl | exact trivial | (simp [IdsLt, IdsLtL]; done) | (simp [get_cons]; done) | (simp [get_cons, *]; done) | (refine congrArg (AV.int .i64) (wrap_eq ?_ ?_ ?_) <;> (first | omega | (simp; omega))))
          refine awp_ret ?_
          refine ⟨_, rfl, ?_, ?_⟩
          · rw [← hr]; rfl
          · rw [← hr]
        rename_i h5
        refine awp_cond_dec rfl (fun h7 => ?_) (fun h7 => ?_)
        · have h6 : repStep v mig i = none := by rw [hst]; exact if_neg fun h => h7 h.2
          rw [h6] at hrn
          rw [hrn, List.append_nil] at hr
          repeat' (first | ((refine Qa rfl ?_); (first | refine Q0 ?_ | refine Q1 ?_); (refine QX rfl rfl ?_)) | refine Qh ?_ | refine Ql ?_ | refine Qo rfl ?_ | refine Qs ?_)
          refine awp_pre (imp_cutk 1 (Nat.zero_le _) (hok_pa out) rfl (by simp) (sl' := [(4, .own 0 0 out.length)]) ?_) ?_
          · repeat' (first | exact fa_nil | refine fa_cons ⟨?_, ?_⟩ ?_)
            all_goals (try first | exact rfl | exact trivial | (simp [IdsLt, IdsLtL]; done) | (simp [get_cons]; done) | (simp [get_cons, *]; done) | (refine congrArg (AV.int .i64) (wrap_eq ?_ ?_ ?_) <;> (first | omega | (simp; omega))))
          refine awp_ret ?_
          refine ⟨_, rfl, ?_, ?_⟩
          · rw [← hr]; rfl
          · rw [← hr]
        · have h8 : p.mig = mig := Decidable.not_not.1 h5
          have h9 : p.idx = (i : Int) := Decidable.not_not.1 h7
          have h6 : repStep v mig i = some p := by rw [hst]; exact if_pos ⟨h8, h9⟩
          rw [h6] at hrn
          rw [hrn] at hr
          repeat' (first | ((refine Qa rfl ?_); (first | refine Q0 ?_ | refine Q3 rfl rfl rfl ?_ | refine QQ rfl rfl rfl rfl rfl rfl rfl rfl rfl rfl rfl ?_); (refine QX rfl rfl ?_)) | refine Qa rfl ?_ | refine Qm ?_ | refine Qo rfl ?_)
          refine st_app (oid := some 0) (es := out.map plA) (out := (out ++ [p]).map plA) (n := out.length + 1) (dst_own rfl (List.length_map _).symm) (rfl) (oneEs_pl [p]) (by rw [List.map_append]; rfl) (by rw [List.length_map]; rfl) (by show _ ≤ 9223372036854775807; omega) (by show _ * 64 ≤ _; omega) rfl rfl rfl rfl rfl rfl rfl rfl ?_
          first | refine nx rfl rfl ?_ | refine nx0 ?_
          repeat' (first | ((refine Qa rfl ?_); (first | refine Q0 ?_ | refine Q1 ?_ | refine Q2 rfl ?_); (refine QX rfl rfl ?_)) | refine Qh ?_ | refine Qo rfl ?_ | refine Qs ?_)
          refine ⟨(i + 1, out ++ [p]), ⟨by show i + 1 ≤ 36; omega, by simp; omega, by show (out ++ [p]) ++ _ = _; rw [← hr]; simp⟩, by show 36 - (i + 1) < 36 - i; omega, ?_⟩
          refine imp_tid 0 [2] (H' := [some (.arr ((out ++ [p]).map plA) 32)]) (os := [.arr ((out ++ [p]).map plA) 32]) (Nat.le_refl _) (Nat.zero_le _) (by simp) (by simp) (by simp [HOk]) rfl rfl ?_ ?_
          · refine fa_cons (ren_lt rfl (u8_ids _)) (fa_cons (ren_lt rfl trivial) (fa_cons ?_ (fa_cons (ren_lt ?_ trivial) fa_nil)))
            · rw [List.length_append]; exact ren_own rfl
            · exact congrArg (AV.int .i64) (wrap_eq (by omega) (by omega) (by omega))
          · exact os_cons rfl (renO_old 0 (fun i h => absurd h (Nat.not_lt_zero i)) (idsL_map fun _ => plA_ids)) os_nil
    · have hst : repStep v mig i = none := by
        have hk : secI mig i = -1 := by unfold secI; rw [if_pos (by omega)]
        simp only [repStep]
        rw [hk, if_pos (check_neg hv.inv)]
      rw [hst] at hrn
      rw [hrn, List.append_nil] at hr
      repeat' (first | ((refine Qa rfl ?_); (first | refine Q0 ?_ | refine Q1 ?_); (refine QX rfl rfl ?_)) | refine Qh ?_ | refine Ql ?_ | refine Qo rfl ?_ | refine Qr ?_ | refine Qs ?_)
      refine awp_ret ?_
      refine ⟨_, rfl, ?_, ?_⟩
      · rw [← hr]; rfl
      · rw [← hr]
  · rename_i h3
    have hi3 : i = 36 := by omega
    subst hi3
    have hr2 : out = repl v mig := by rw [← hr]; simp [replF]
    skip
    refine awp_ret ?_
    refine ⟨_, rfl, ?_, ?_⟩
    · rw [← hr2]; rfl
    · rw [← hr2]
end Go.Abs
namespace Go.Abs
theorem noFz_pls (l : List Pl) : noFzH [some (.arr (l.map plA) 32)] = true := by
  simp [noFzH, noFzO, noFz_map (f := plA) (fun _ => rfl)]
theorem rreplay_at (X : Nat → Prop) (v : Dv) (L : Nat) (hL : 4736 ≤ L) (hL2 : L ≤ 67108864) (hv : Lv L v) (mig : Int) (hm : mig ≤ 9223372036854775807) (H : Hp) (hH : HOk H.length H) (x : AV) (hx : srcA (E0 X) H 1 x = some (v.image.map u8A)) :
    ACalls (E0 X) 27 [x, .int .i64 mig] H (fun r H' => r = .sl 8 ((repl v mig).map plA) ∧ H' = H) := by
  refine ACalls.froz (e := 32) (n := (repl v mig).length) 8 ?_ (by simp) rfl rfl hH (idsL_map fun _ => plA_ids)
  refine (acalls_make (E := E0 X) (P := fun r H' => r = .own 0 0 (repl v mig).length ∧ H' = [some (.arr ((repl v mig).map plA) 32)]) (fun X => rreplay_c X v L hL hL2 hv mig hm) (fun r h' h => by
    obtain ⟨h1, h2⟩ := h; subst h1; subst h2; exact ⟨rfl, noFz_pls _⟩) (Bor.sl (u8_ids _) hx (Bor.same trivial .nil))).mono ?_
  rintro r H' ⟨r0, h', ⟨rfl, rfl⟩, rfl, rfl⟩
  refine ⟨by simp [rnA], ?_⟩
  show H ++ [some (AO.arr (rnL _ (List.map plA _)) _)] = _
  rw [rnL_map (fun _ => rfl)]
theorem image_v (X : Nat → Prop) (v : Dv) (hl : v.image.length ≤ 1073741824) : ACalls (E0 X) 29 [.ptr 0 0] (devH v) (fun r H' => r = .sl 1 (v.image.map u8A) ∧ H' = devH v) :=
  ACalls.froz 1 (image_c X v hl) (by simp) rfl rfl (hok_dev v) (idsL_map fun _ => u8A_ids)
theorem pl_ids (l : List Pl) : IdsLtL 0 (l.map plA) := idsL_map fun _ => plA_ids
attribute [local irreducible] AStep aops AWp Nx awM
set_option maxHeartbeats 0 in
theorem peq_c (X : Nat → Prop) (a b : List Pl) (ha : a.length ≤ 4611686018427387904) :
    ACalls (E0 X) 26 [.sl 8 (a.map plA), .sl 8 (b.map plA)] [] (fun r H' => r = .bool (decide (a = b)) ∧ H' = []) := by
  refine acalls_of Proofs.Tryd.func26 rfl Proofs.Tryd.ntmps26 (by kernel_rfl) rfl ?_
  intro hH hargs
  clear hH hargs
  repeat' (first | ((refine Qa rfl ?_); (first | refine Q0 ?_ | refine Q1 ?_ | refine Q2 rfl ?_ | refine Q7 rfl rfl rfl ?_); (refine QX rfl rfl ?_)) | refine Qh ?_ | refine Ql ?_ | refine Qo rfl ?_ | refine Qs ?_)
  refine awp_cond_dec rfl (fun h1 => ?_) (fun h1 => ?_)
  · have h2 : ¬ a = b := fun h => by subst h; simp at h1
    repeat' (first | ((refine Qa rfl ?_); (refine Q1 ?_); (refine QX rfl rfl ?_)) | refine Qh ?_ | refine Ql ?_ | refine Qo rfl ?_ | refine Qs ?_)
    refine awp_ret ?_
    refine ⟨_, rfl, ?_, ?_⟩
    · rw [decide_eq_false h2]; rfl
    · rfl
  have hlen : a.length = b.length := by simp at h1; omega
  repeat' (first | ((refine Qa rfl ?_); (first | refine Q0 ?_ | refine Q7 rfl rfl rfl ?_); (refine QX rfl rfl ?_)) | refine Qh ?_ | refine Ql ?_ | refine Qm ?_ | refine Qn ?_ | refine Qo rfl ?_)
  refine awp_loop2 (fun k : Nat => ⟨[(0, .sl 8 (a.map plA)), (1, .sl 8 (b.map plA)), (12, .int .i64 a.length), (13, .int .i64 (k : Int))], []⟩) (fun k => k ≤ a.length ∧ ∀ j, j < k → a[j]? = b[j]?) (fun k => a.length - k) 0 ⟨Nat.zero_le _, fun j h => absurd h (Nat.not_lt_zero j)⟩ ?_ ?_
  · refine imp_cutk 0 (Nat.zero_le _) hok_nil rfl (by simp) ?_
    repeat' (first | exact fa_nil | refine fa_cons ⟨?_, ?_⟩ ?_)
    all_goals (try first | exact rfl | exact trivial | (simp [IdsLt, IdsLtL]; done) | (simp [get_cons]; done) | (simp [get_cons, *]; done) | (refine congrArg (AV.int .i64) (wrap_eq ?_ ?_ ?_) <;> (first | omega | (simp; omega))))
  rintro k ⟨hk, h⟩
  repeat' (first | ((refine Qa rfl ?_); (refine Q2 rfl ?_); (refine QX rfl rfl ?_)) | refine Qh ?_ | refine Ql ?_ | refine Qo rfl ?_)
  refine awp_cond_dec rfl (fun h3 => ?_) (fun h3 => ?_)
  · have hka : k < a.length := by omega
    obtain ⟨p, hp⟩ : ∃ p, a[k]? = some p := ⟨_, List.getElem?_eq_getElem hka⟩
    obtain ⟨q, hq⟩ : ∃ q, b[k]? = some q := ⟨_, List.getElem?_eq_getElem (hlen ▸ hka)⟩
    repeat' (first | ((refine Qa rfl ?_); (first | refine Q0 ?_ | refine Q1 ?_); (refine QX rfl rfl ?_)) | refine Qh ?_ | refine Ql ?_ | refine Qm ?_ | refine Qn ?_ | refine Qo rfl ?_)
    refine awp_region_auto2 [] [] (by exact rfl) (by kernel_rfl) ?_
    repeat' ((apply Qd rfl rfl rfl rfl); (refine Q0 ?_); (exact QX rfl rfl ⟨rfl, rfl⟩))
    apply ds rfl rfl rfl rfl
    · refine st_ixm hp rfl rfl rfl rfl rfl rfl rfl (by first | rfl | omega) rfl ?_
      first | exact nx rfl rfl ⟨rfl, rfl⟩ | exact nx0 ⟨rfl, rfl⟩
    repeat' ((apply Qd rfl rfl rfl rfl); (first | refine Q0 ?_ | refine Q3 rfl rfl rfl ?_); (exact QX rfl rfl ⟨rfl, rfl⟩))
    apply ds rfl rfl rfl rfl
    · refine st_ixm hq rfl rfl rfl rfl rfl rfl rfl (by first | rfl | omega) rfl ?_
      first | exact nx rfl rfl ⟨rfl, rfl⟩ | exact nx0 ⟨rfl, rfl⟩
    repeat' (first | ((apply Qd rfl rfl rfl rfl); (first | refine Q3 rfl rfl rfl ?_ | refine QI rfl rfl rfl ?_); (exact QX rfl rfl ⟨rfl, rfl⟩)) | refine Qk ?_ | refine Qs ?_)
    have hsame : (decide (p.kind = q.kind) && (decide (p.mig = q.mig) && (decide (p.idx = q.idx) && (decide (p.tail = q.tail) && ((decide (p.t.id = q.t.id) && (decide (p.t.ver = q.t.ver) && (decide (p.t.rs = q.t.rs) && (decide (p.t.regs = q.t.regs) && true)))) && true))))) = decide (p = q) := by
      obtain ⟨p1, p2, p3, p4, p5, p6, p7, p8⟩ := p
      obtain ⟨q1, q2, q3, q4, q5, q6, q7, q8⟩ := q
      rw [Bool.eq_iff_iff]
      simp only [Bool.and_eq_true, decide_eq_true_eq, Bool.and_true, Pl.mk.injEq, La.mk.injEq]
    rw [hsame]
    refine awp_cond rfl (fun h4 => ?_) (fun h4 => ?_)
    · have h5 : ¬ p = q := by simpa using h4
      have h6 : ¬ a = b := fun e => by subst e; rw [hp] at hq; exact h5 (Option.some.inj hq)
      repeat' (first | ((refine Qa rfl ?_); (refine Q1 ?_); (refine QX rfl rfl ?_)) | refine Qh ?_ | refine Ql ?_ | refine Qo rfl ?_ | refine Qs ?_)
      refine awp_ret ?_
      refine ⟨_, rfl, ?_, ?_⟩
      · rw [decide_eq_false h6]; rfl
      · rfl
    · have h5 : p = q := by simpa using h4
      repeat' (first | ((refine Qa rfl ?_); (first | refine Q0 ?_ | refine Q2 rfl ?_); (refine QX rfl rfl ?_)) | refine Qh ?_ | refine Qm ?_ | refine Qo rfl ?_ | refine Qs ?_)
      refine ⟨k + 1, ⟨by omega, fun j hj => ?_⟩, by omega, imp_cutk 0 (Nat.zero_le _) hok_nil rfl (by simp) ?_⟩
      · rcases Nat.lt_or_ge j k with h1 | h1
        · exact h j h1
        · have : j = k := by omega
          subst this
          rw [hp, hq, h5]
      · repeat' (first | exact fa_nil | refine fa_cons ⟨?_, ?_⟩ ?_)
        all_goals (try first | exact rfl | exact trivial | (simp [IdsLt, IdsLtL]; done) | (simp [get_cons]; done) | (simp [get_cons, *]; done) | (refine congrArg (AV.int .i64) (wrap_eq ?_ ?_ ?_) <;> (first | omega | (simp; omega))))
  · have hkl : k = a.length := by omega
    have hab : a = b := by
      refine List.ext_getElem? fun j => ?_
      rcases Nat.lt_or_ge j k with h1 | h1
      · exact h j h1
      · rw [List.getElem?_eq_none (by omega), List.getElem?_eq_none (by omega)]
    repeat' (first | ((refine Qa rfl ?_); (refine Q1 ?_); (refine QX rfl rfl ?_)) | refine Qh ?_ | refine Ql ?_ | refine Qo rfl ?_ | refine Qr ?_ | refine Qs ?_)
    refine awp_ret ?_
    refine ⟨_, rfl, ?_, ?_⟩
    · rw [decide_eq_true hab]; rfl
    · rfl
end Go.Abs
namespace Go.Abs
theorem and_le (n : Int) (c : Nat) (hc : c < 9223372036854775808) : ∃ m : Nat, m ≤ c ∧ ibits .and .i64 n (c : Int) = m := by
  have h1 : (BitVec.ofInt 64 n &&& BitVec.ofInt 64 (c : Int)).toNat ≤ c := by
    rw [BitVec.toNat_and]
    refine Nat.le_trans Nat.and_le_right ?_
    rw [BitVec.toNat_ofInt]
    omega
  have h2 : ibits .and .i64 n (c : Int) = IntKind.i64.wrap ((BitVec.ofInt 64 n &&& BitVec.ofInt 64 (c : Int)).toNat : Nat) := rfl
  refine ⟨_, h1, ?_⟩
  rw [h2]
  exact wrap_in (by omega) (by omega)
def pF (mig tail i : Nat) : PlN := ⟨if i = 0 then 1 else 2, mig, i, tail + i, tgt⟩
theorem tgt_ok : formB tgt = true := by kernel_rfl
theorem pF_ok {mig tail i : Nat} (hm : 1 ≤ mig ∧ mig ≤ 9) (ht : tail ≤ 1023) (hi : i ≤ 35) : validB (pF mig tail i).pl = true := by
  have h1 : validB (pF mig tail i).pl = (!decide ((mig : Int) < 1) && (!decide (4294967295 < (mig : Int)) && (!decide (((tail + i : Nat) : Int) < 0) && (!decide (281474976710655 < ((tail + i : Nat) : Int)) && (true && ((decide ((((if i = 0 then 1 else 2 : Nat)) : Int) = 1) && decide ((i : Int) = 0)) || (decide ((((if i = 0 then 1 else 2 : Nat)) : Int) = 2) && (decide (1 ≤ (i : Int)) && decide ((i : Int) < 36))))))))) := by
    rw [← tgt_ok]; rfl
  rw [h1]
  have e1 : decide ((mig : Int) < 1) = false := decide_eq_false (by omega)
  have e2 : decide (4294967295 < (mig : Int)) = false := decide_eq_false (by omega)
  have e3 : decide (((tail + i : Nat) : Int) < 0) = false := decide_eq_false (by omega)
  have e4 : decide (281474976710655 < ((tail + i : Nat) : Int)) = false := decide_eq_false (by omega)
  rw [e1, e2, e3, e4]
  by_cases h : i = 0
  · subst h; rfl
  · have e5 : decide (1 ≤ (i : Int)) = true := decide_eq_true (by omega)
    have e6 : decide ((i : Int) < 36) = true := decide_eq_true (by omega)
    rw [if_neg h, e5, e6]
    simp
theorem Jn.congr {v : Dv} {w w' : Nat → Option PlN} (h : Jn v w) (e : ∀ j, j < 74 → w j = w' j) : Jn v w' := fun j hj => by rw [← e j hj]; exact h j hj
/-- n records of a migration, and what was there before. -/
def wP (w : Nat → Option PlN) (mig tail n : Nat) (j : Nat) : Option PlN := if 2 + (mig + 1) % 2 * 36 ≤ j ∧ j < 2 + (mig + 1) % 2 * 36 + n then some (pF mig tail (j - (2 + (mig + 1) % 2 * 36))) else w j
theorem wP_succ (w : Nat → Option PlN) (mig tail n j : Nat) : (if j = secN (pF mig tail n) then some (pF mig tail n) else wP w mig tail n j) = wP w mig tail (n + 1) j := by
  have hs : secN (pF mig tail n) = 2 + (mig + 1) % 2 * 36 + n := rfl
  rw [hs]
  unfold wP
  generalize 2 + (mig + 1) % 2 * 36 = b at *
  by_cases h : j = b + n
  · subst h
    rw [if_pos rfl, if_pos (by omega)]
    have : b + n - b = n := by omega
    rw [this]
  · rw [if_neg h]
    have e : (b ≤ j ∧ j < b + n) ↔ (b ≤ j ∧ j < b + (n + 1)) := by omega
    simp only [e]
theorem wP_zero (w : Nat → Option PlN) (mig tail j : Nat) : wP w mig tail 0 j = w j := by
  unfold wP
  rw [if_neg (by omega)]
def wOk (w : Nat → Option PlN) : Prop := ∀ j q, w j = some q → validB q.pl = true
theorem wP_ok {w : Nat → Option PlN} (hw : wOk w) {mig tail n : Nat} (hm : 1 ≤ mig ∧ mig ≤ 9) (ht : tail ≤ 1023) (hn : n ≤ 36) : wOk (wP w mig tail n) := fun j q h => by
  unfold wP at h
  split at h
  · rename_i h1
    simp only [Option.some.injEq] at h
    subst h
    exact pF_ok hm ht (by omega)
  · exact hw j q h
attribute [local irreducible] AStep aops AWp Nx awM
set_option maxHeartbeats 0 in
set_option maxRecDepth 100000 in
theorem logFull_c (X : Nat → Prop) (mg tl : Int) :
    ACalls (E0 X) 5 [.int .i64 mg, .int .i64 tl] [] (fun r H' => r = .bool true ∧ H' = []) := by
  obtain ⟨m, hm, hmm⟩ := and_le mg 7 (by decide)
  obtain ⟨tail, ht, htt⟩ := and_le tl 1023 (by decide)
  have hmm : ibits .and .i64 mg 7 = (m : Int) := hmm
  have htt : ibits .and .i64 tl 1023 = (tail : Int) := htt
  have hmw : IntKind.i64.wrap (1 + (m : Int)) = ((m + 1 : Nat) : Int) := wrap_eq (by omega) (by omega) (by omega)
  have hnew : ACalls (E0 X) 19 [.int .i64 80] [] (fun r H' => r = .ptr 0 0 ∧ H' = devH (Dv.fresh lz)) := (new_c X 80).mono fun r H' h => by
    rcases h with ⟨_, _, h1, h2⟩ | ⟨h1, _⟩
    · refine ⟨h1, h2.trans ?_⟩
      unfold lz; rfl
    · exact absurd ⟨by decide, by decide⟩ h1
  have hlv := lz_lv
  have hjn := lz_jn
  generalize Dv.fresh lz = v0 at *
  refine acalls_of Proofs.Tryd.func5 rfl Proofs.Tryd.ntmps5 (by kernel_rfl) rfl ?_
  intro hH hargs
  clear hH hargs
  repeat' (first | ((refine Qa rfl ?_); (first | refine Q0 ?_ | refine Q1 ?_ | refine Q2 rfl ?_); (refine QX rfl rfl ?_)) | refine Qa rfl ?_ | refine Qh ?_ | refine Ql ?_ | refine Qo rfl ?_)
  rw [hmm, htt, hmw]
  generalize hmig : m + 1 = mig at *
  refine st_call (fun _ => rfl) rfl ?_
  refine ACalls.mono (hnew) ?_
  rintro r H' ⟨rfl, rfl⟩
  first | refine nx rfl rfl ?_ | refine nx0 ?_
  repeat' (first | ((refine Qa rfl ?_); (refine Q1 ?_); (refine QX rfl rfl ?_)) | refine Qh ?_ | refine Ql ?_ | refine Qn ?_ | refine Qo rfl ?_)
  refine awp_loop2 (fun p : Nat × Dv => ⟨[(0, .int .i64 (mig : Int)), (1, .int .i64 (tail : Int)), (5, .ptr 0 0), (6, .int .i64 (p.1 : Int))], devH p.2⟩)
    (fun p => p.1 ≤ 36 ∧ Lv 5120 p.2 ∧ Jn p.2 (wP (fun _ => none) mig tail p.1)) (fun p => 36 - p.1) (0, v0) ⟨by omega, hlv, hjn.congr fun j _ => (wP_zero (fun _ => none) mig tail j).symm⟩ ?_ ?_
  · refine imp_cutk 3 (Nat.zero_le _) (hok_dev _) rfl (by simp [devH]) ?_
    repeat' (first | exact fa_nil | refine fa_cons ⟨?_, ?_⟩ ?_)
    all_goals (try first | exact rfl | exact trivial | (simp [IdsLt, IdsLtL]; done) | (simp [get_cons]; done) | (simp [get_cons, *]; done) | (refine congrArg (AV.int .i64) (wrap_eq ?_ ?_ ?_) <;> (first | omega | (simp; omega))))
  rintro ⟨i, v⟩ ⟨hi, hv, hj⟩
  have hi : i ≤ 36 := hi
  have hv : Lv 5120 v := hv
  have hj : Jn v (wP (fun _ => none) mig tail i) := hj
  show AWp _ _ _ _ _ ⟨[(0, .int .i64 (mig : Int)), (1, .int .i64 (tail : Int)), (5, .ptr 0 0), (6, .int .i64 (i : Int))], devH v⟩
  have hw9 : wOk (wP (fun _ => none) mig tail i) := wP_ok (fun j q h => by cases h) (by omega) ht hi
  repeat' (first | ((refine Qa rfl ?_); (first | refine Q0 ?_ | refine Q2 rfl ?_); (refine QX rfl rfl ?_)) | refine Qh ?_ | refine Ql ?_ | refine Qo rfl ?_ | refine Qs ?_)
  refine awp_cond_dec rfl (fun h3 => ?_) (fun h3 => ?_)
  · have hi3 : i < 36 := by omega
    have hp := pF_ok (mig := mig) (tail := tail) (i := i) (by omega) ht (by omega)
    have hap := fun R => dev_l (fun X => append_c X v 5120 (by decide) (by decide) hv (pF mig tail i) hp) ⟨plA_ids, trivial⟩ trivial R (X := X)
    have hv2 := hv.app (by decide) (p := pF mig tail i) (show i ≤ 35 by omega)
    have hj2 := (hj.app hv (by decide) (p := pF mig tail i) (show i ≤ 35 by omega)).congr fun j _ => wP_succ _ _ _ _ _
    have ht2 : IntKind.i64.wrap ((tail : Int) + (i : Int)) = ((tail + i : Nat) : Int) := wrap_eq (by omega) (by omega) (by omega)
    have harg : plA (pF mig tail i).pl = .agg [.int .i64 (if i = 0 then 1 else 2), .int .i64 (mig : Int), .int .i64 (i : Int), .int .i64 ((tail + i : Nat) : Int), .int .i64 2, .int .i64 1, .int .i64 4, .int .i64 4] := by
      by_cases h : i = 0
      · subst h; rfl
      · simp [plA, PlN.pl, pF, tgt, h]
    rw [harg] at hap
    generalize v.app (pF mig tail i) = v2 at *
    repeat' (first | ((refine Qa rfl ?_); (first | refine Q0 ?_ | refine Q2 rfl ?_); (refine QX rfl rfl ?_)) | refine Qa rfl ?_ | refine Ql ?_ | refine Qm ?_ | refine Qn ?_ | refine Qo rfl ?_)
    rw [ht2]
    refine st_call (fun _ => rfl) rfl ?_
    refine ACalls.mono (acalls_pure (E := E0 X) (fun X => target_c X) (by simp [IdsLtL, IdsLt]) _) ?_
    rintro r H' ⟨rfl, rfl⟩
    first | refine nx rfl rfl ?_ | refine nx0 ?_
    repeat' (first | ((refine Qa rfl ?_); (first | refine Q0 ?_ | refine Q2 rfl ?_ | refine QJ rfl rfl ?_ | refine QP rfl rfl rfl rfl rfl rfl ?_); (refine QX rfl rfl ?_)) | (refine Qb rfl ?_; try (refine QS rfl rfl rfl rfl rfl rfl rfl ?_; (refine QX rfl rfl ?_))) | refine Qh ?_ | refine Ql ?_ | refine Qo rfl ?_ | refine Qs ?_)
    refine awp_cond_dec rfl (fun h4 => ?_) (fun h4 => ?_)
    · have h5 : i = 0 := by omega
      rw [if_pos h5] at hap
      repeat' (first | ((refine Qa rfl ?_); (first | refine Q0 ?_ | refine Q3 rfl rfl rfl ?_ | refine Q4 rfl rfl rfl rfl rfl ?_); (refine QX rfl rfl ?_)) | refine Qa rfl ?_ | (refine Qb rfl ?_; try (refine QS rfl rfl rfl rfl rfl rfl rfl ?_; (refine QX rfl rfl ?_))) | refine Qh ?_ | refine Ql ?_ | refine Qo rfl ?_)
      refine st_call (fun _ => rfl) rfl ?_
      refine ACalls.mono (hap _) ?_
      rintro r H' ⟨rfl, rfl⟩
      first | refine nx rfl rfl ?_ | refine nx0 ?_
      repeat' (first | ((refine Qa rfl ?_); (first | refine Q0 ?_ | refine Q1 ?_ | refine Q2 rfl ?_); (refine QX rfl rfl ?_)) | refine Qh ?_ | refine Qm ?_ | refine Qo rfl ?_ | refine Qq rfl ?_ | refine Qs ?_)
      refine ⟨(i + 1, v2), ⟨by show i + 1 ≤ 36; omega, hv2, hj2⟩, by show 36 - (i + 1) < 36 - i; omega, imp_cutk 3 (Nat.zero_le _) (hok_dev _) rfl (by simp [devH]) ?_⟩
      repeat' (first | exact fa_nil | refine fa_cons ⟨?_, ?_⟩ ?_)
      all_goals (try first | exact rfl | exact trivial | (simp [IdsLt, IdsLtL]; done) | (simp [get_cons]; done) | (simp [get_cons, *]; done) | (refine congrArg (AV.int .i64) (wrap_eq ?_ ?_ ?_) <;> (first | omega | (simp; omega))))
    · have h5 : ¬ i = 0 := by omega
      rw [if_neg h5] at hap
      repeat' (first | ((refine Qa rfl ?_); (first | refine Q0 ?_ | refine Q3 rfl rfl rfl ?_); (refine QX rfl rfl ?_)) | refine Qa rfl ?_ | refine Ql ?_ | refine Qm ?_ | refine Qo rfl ?_)
      refine st_call (fun _ => rfl) rfl ?_
      refine ACalls.mono (hap _) ?_
      rintro r H' ⟨rfl, rfl⟩
      first | refine nx rfl rfl ?_ | refine nx0 ?_
      repeat' (first | ((refine Qa rfl ?_); (first | refine Q0 ?_ | refine Q1 ?_ | refine Q2 rfl ?_); (refine QX rfl rfl ?_)) | refine Qh ?_ | refine Qm ?_ | refine Qo rfl ?_ | refine Qq rfl ?_ | refine Qs ?_)
      refine ⟨(i + 1, v2), ⟨by show i + 1 ≤ 36; omega, hv2, hj2⟩, by show 36 - (i + 1) < 36 - i; omega, imp_cutk 3 (Nat.zero_le _) (hok_dev _) rfl (by simp [devH]) ?_⟩
      repeat' (first | exact fa_nil | refine fa_cons ⟨?_, ?_⟩ ?_)
      all_goals (try first | exact rfl | exact trivial | (simp [IdsLt, IdsLtL]; done) | (simp [get_cons]; done) | (simp [get_cons, *]; done) | (refine congrArg (AV.int .i64) (wrap_eq ?_ ?_ ?_) <;> (first | omega | (simp; omega))))
  · have hi3 : i = 36 := by omega
    subst hi3
    have hrl : repl v (mig : Int) = (List.range 36).map fun i => (pF mig tail i).pl := by
      refine repl_of (n := 36) (by decide) (fun i => (pF mig tail i).pl) (fun i hi => ?_) (fun h => absurd h (by decide))
      rw [rep_at hj hv (by decide) (by omega) hi hw9]
      have e : wP (fun _ => none) mig tail 36 (2 + (mig + 1) % 2 * 36 + i) = some (pF mig tail i) := by
        unfold wP
        rw [if_pos (by omega)]
        congr 2
        omega
      rw [e]
      exact if_pos ⟨rfl, rfl⟩
    have hre := replay_c X v hv.inv (mig : Int) (by omega)
    rw [hrl] at hre
    have hll : ((List.range 36).map fun i => (pF mig tail i).pl).length = 36 := by simp
    have hget : ∀ i, i < 36 → ((List.range 36).map fun i => (pF mig tail i).pl)[i]? = some (pF mig tail i).pl := fun i hi => by simp [hi]
    generalize (List.range 36).map (fun i => (pF mig tail i).pl) = ls at *
    repeat' (first | ((refine Qa rfl ?_); (refine Q0 ?_); (refine QX rfl rfl ?_)) | refine Qa rfl ?_ | refine Ql ?_ | refine Qo rfl ?_ | refine Qr ?_)
    refine st_call (fun _ => rfl) rfl ?_
    refine ACalls.mono (hre) ?_
    rintro r H' ⟨rfl, rfl⟩
    first | refine nx rfl rfl ?_ | refine nx0 ?_
    have hlm : (ls.map plA).length = 36 := by rw [List.length_map, hll]
    repeat' (first | ((refine Qa rfl ?_); (first | refine Q0 ?_ | refine Q1 ?_ | refine Q7 rfl rfl rfl ?_); (refine QX rfl rfl ?_)) | refine Qh ?_ | refine Ql ?_ | refine Qn ?_ | refine Qo rfl ?_)
    rw [hlm]
    refine awp_loop2 (fun i : Nat => ⟨[(0, .int .i64 (mig : Int)), (1, .int .i64 (tail : Int)), (5, .ptr 0 0), (8, .sl 8 (ls.map plA)), (38, .int .i64 36), (39, .int .i64 (i : Int))], devH v⟩) (fun i => i ≤ 36) (fun i => 36 - i) 0 (Nat.zero_le _) ?_ ?_
    · refine imp_cutk 3 (Nat.zero_le _) (hok_dev _) rfl (by simp [devH]) ?_
      repeat' (first | exact fa_nil | refine fa_cons ⟨?_, ?_⟩ ?_)
      all_goals (try first | exact rfl | exact trivial | (simp [IdsLt, IdsLtL]; done) | (simp [get_cons]; done) | (simp [get_cons, *]; done) | (refine congrArg (AV.int .i64) (wrap_eq ?_ ?_ ?_) <;> (first | omega | (simp; omega))))
    rintro i hi
    repeat' (first | ((refine Qa rfl ?_); (refine Q2 rfl ?_); (refine QX rfl rfl ?_)) | refine Qh ?_ | refine Ql ?_ | refine Qo rfl ?_)
    refine awp_cond_dec rfl (fun h4 => ?_) (fun h4 => ?_)
    · have hi4 : i < 36 := by omega
      have hq := hget i hi4
      have ht2 : IntKind.i64.wrap ((tail : Int) + (i : Int)) = ((tail + i : Nat) : Int) := wrap_eq (by omega) (by omega) (by omega)
      repeat' (first | ((refine Qa rfl ?_); (first | refine Q0 ?_ | refine Q1 ?_); (refine QX rfl rfl ?_)) | refine Qa rfl ?_ | refine Qh ?_ | refine Ql ?_ | refine Qm ?_ | refine Qn ?_ | refine Qo rfl ?_)
      refine st_ixm hq rfl rfl rfl rfl rfl rfl rfl (by first | rfl | omega) rfl ?_
      first | refine nx rfl rfl ?_ | refine nx0 ?_
      repeat' (first | ((refine Qa rfl ?_); (first | refine Q0 ?_ | refine Q1 ?_ | refine Q2 rfl ?_ | refine Q3 rfl rfl rfl ?_ | refine Q4 rfl rfl rfl rfl rfl ?_ | refine Q5 rfl ?_); (refine QX rfl rfl ?_)) | refine Qa rfl ?_ | refine Qh ?_ | refine Qi rfl ?_ | refine Ql ?_ | refine Qo rfl ?_ | refine Qp rfl ?_ | refine Qs ?_ | ((fail_if_success refine QV rfl ?_); refine Qy rfl rfl (fun _ => ?_) (fun _ => ?_)))
      · rename_i h5
        exact absurd rfl h5
      refine st_ixm hq rfl rfl rfl rfl rfl rfl rfl (by first | rfl | omega) rfl ?_
      first | refine nx rfl rfl ?_ | refine nx0 ?_
      repeat' (first | ((refine Qa rfl ?_); (first | refine Q0 ?_ | refine Q2 rfl ?_ | refine Q3 rfl rfl rfl ?_ | refine Q4 rfl rfl rfl rfl rfl ?_ | refine Q5 rfl ?_); (refine QX rfl rfl ?_)) | refine Qh ?_ | refine Qs ?_)
      rw [ht2]
      refine awp_cond rfl (fun h9 => absurd h9 (by simp [PlN.pl, pF])) (fun _ => ?_)
      repeat' (first | ((refine Qa rfl ?_); (first | refine Q0 ?_ | refine Q2 rfl ?_); (refine QX rfl rfl ?_)) | refine Qh ?_ | refine Qm ?_ | refine Qo rfl ?_ | refine Qs ?_)
      refine ⟨i + 1, by omega, by omega, imp_cutk 3 (Nat.zero_le _) (hok_dev _) rfl (by simp [devH]) ?_⟩
      repeat' (first | exact fa_nil | refine fa_cons ⟨?_, ?_⟩ ?_)
      all_goals (try first | exact rfl | exact trivial | (simp [IdsLt, IdsLtL]; done) | (simp [get_cons]; done) | (simp [get_cons, *]; done) | (refine congrArg (AV.int .i64) (wrap_eq ?_ ?_ ?_) <;> (first | omega | (simp; omega))))
    · have hbad : validB ⟨2, (mig : Int), 36, 0, tgt⟩ = false := by
        simp [validB]
      have hab := fun R => dev_l (fun X => appendbad_c X v ⟨2, (mig : Int), 36, 0, tgt⟩ hbad) ⟨plA_ids, trivial⟩ trivial R (X := X)
      have hsc := fun X => sector_c X (mig : Int) 36 (by omega)
      rw [show secI (mig : Int) 36 = -1 by unfold secI; rw [if_pos (by omega)]] at hsc
      repeat' (first | refine Qa rfl ?_ | refine Ql ?_ | refine Qo rfl ?_ | refine Qr ?_)
      refine st_call (fun _ => rfl) rfl ?_
      refine ACalls.mono (acalls_pure (E := E0 X) (fun X => awake_c X) (by simp [IdsLtL, IdsLt]) _) ?_
      rintro r H' ⟨rfl, rfl⟩
      first | refine nx rfl rfl ?_ | refine nx0 ?_
      repeat' ((refine Qa rfl ?_); (first | refine Q0 ?_ | refine Q2 rfl ?_ | refine Q5 rfl ?_ | refine Q7 rfl rfl rfl ?_); (refine QX rfl rfl ?_))
      rw [hlm]
      repeat' (first | ((refine Qa rfl ?_); (refine Q0 ?_); (refine QX rfl rfl ?_)) | refine Qa rfl ?_)
      refine st_call (fun _ => rfl) rfl ?_
      refine ACalls.mono (acalls_pure (E := E0 X) (fun X => hsc X) (by simp [IdsLtL, IdsLt]) _) ?_
      rintro r H' ⟨rfl, rfl⟩
      first | refine nx rfl rfl ?_ | refine nx0 ?_
      repeat' (first | ((refine Qa rfl ?_); (first | refine Q0 ?_ | refine Q2 rfl ?_ | refine Q5 rfl ?_); (refine QX rfl rfl ?_)) | refine Qa rfl ?_)
      refine st_call (fun _ => rfl) rfl ?_
      refine ACalls.mono (acalls_pure (E := E0 X) (fun X => target_c X) (by simp [IdsLtL, IdsLt]) _) ?_
      rintro r H' ⟨rfl, rfl⟩
      first | refine nx rfl rfl ?_ | refine nx0 ?_
      repeat' (first | ((refine Qa rfl ?_); (refine QP rfl rfl rfl rfl rfl rfl ?_); (refine QX rfl rfl ?_)) | refine Qa rfl ?_)
      have hab2 := hab []
      rw [List.append_nil] at hab2
      refine st_call (fun _ => rfl) rfl ?_
      refine ACalls.mono (hab2) ?_
      rintro r H' ⟨rfl, rfl⟩
      first | refine nx rfl rfl ?_ | refine nx0 ?_
      repeat' (first | ((refine Qa rfl ?_); (first | refine Q1 ?_ | refine Q2 rfl ?_ | refine Q5 rfl ?_); (refine QX rfl rfl ?_)) | refine Qh ?_ | refine Qs ?_)
      refine awp_pre (imp_cutk 0 (Nat.le_refl _) hok_nil rfl (by simp) (sl' := [(4, .bool true)]) ?_) ?_
      · repeat' (first | exact fa_nil | refine fa_cons ⟨?_, ?_⟩ ?_)
        all_goals (try first | exact rfl | exact trivial | (simp [IdsLt, IdsLtL]; done) | (simp [get_cons]; done) | (simp [get_cons, *]; done) | (refine congrArg (AV.int .i64) (wrap_eq ?_ ?_ ?_) <;> (first | omega | (simp; omega))))
      refine awp_ret ?_
      refine ⟨_, rfl, ?_, ?_⟩
      · rfl
      · rfl
end Go.Abs
namespace Go.Abs
theorem crash_kn (X : Nat → Prop) (v : Dv) (hv : v.Inv) (keep : List Bool) (L R : Hp) (s : Nat) (hs : L.length = s) :
    ACalls (E0 X) 54 [.ptr s 0, .sl 1 (keep.map boA), .nils] (L ++ devS s v ++ R) (fun r H' => r = .ptr (3 + s + R.length) 0 ∧ H' = L ++ devS s v ++ R ++ devS (3 + s + R.length) (v.crash keep [])) :=
  ACalls.weak (crash_at X v hv keep [] (by decide) L R s hs) fun m w vs h => by
    obtain ⟨u1, r1, rfl, h1, h⟩ := relL_cons.1 h
    obtain ⟨u2, r2, rfl, h2, h⟩ := relL_cons.1 h
    obtain ⟨u3, r3, rfl, h3, h⟩ := relL_cons.1 h
    exact RelL.cons h1 (RelL.cons h2 (RelL.cons (rel_nils 2 h3) h))
theorem crash_nt (X : Nat → Prop) (v : Dv) (hv : v.Inv) (ts : List Tr) (hts : ts.length ≤ 1073741824) (L R : Hp) (s : Nat) (hs : L.length = s) :
    ACalls (E0 X) 54 [.ptr s 0, .nils, .sl 2 (ts.map trA)] (L ++ devS s v ++ R) (fun r H' => r = .ptr (3 + s + R.length) 0 ∧ H' = L ++ devS s v ++ R ++ devS (3 + s + R.length) (v.crash [] ts)) :=
  ACalls.weak (crash_at X v hv [] ts hts L R s hs) fun m w vs h => by
    obtain ⟨u1, r1, rfl, h1, h⟩ := relL_cons.1 h
    obtain ⟨u2, r2, rfl, h2, h⟩ := relL_cons.1 h
    exact RelL.cons h1 (RelL.cons (rel_nils 1 h2) h)
theorem write_fu {v : Dv} (hd : v.dead = false) {k : Nat} {b : List UInt8} (hb : b.length = 64) (f : Int) (hc : ({ v with fuse := f } : Dv).check (k : Int) = 0) :
    ({ v with fuse := f } : Dv).write (k : Int) b = if f = 0 then (1, { v with fuse := 0, dead := true }) else (0, { v.put k b with fuse := if 0 < f then f - 1 else f }) := by
  unfold Dv.write
  rw [if_neg (by rw [hc]; simp), if_neg (by omega)]
  obtain ⟨img, old, w, fu, de⟩ := v
  simp only at hd
  subst hd
  by_cases h0 : f = 0
  · subst h0
    simp [Dv.burn]
  · simp [Dv.burn, h0, Dv.put, Dv.sector]
    exact ite_congr rfl (fun _ => rfl) (fun _ => rfl)
theorem bar_fu {v : Dv} (hd : v.dead = false) : v.barrier = if v.fuse = 0 then (1, { v with dead := true }) else (0, { v with fuse := if 0 < v.fuse then v.fuse - 1 else v.fuse, old := [] }) := by
  obtain ⟨img, old, w, fu, de⟩ := v
  simp only at hd
  subst hd
  by_cases h0 : fu = 0
  · subst h0
    simp [Dv.barrier, Dv.burn]
  · simp [Dv.barrier, Dv.burn, h0]
theorem lv_crash {v : Dv} (h : v.Inv) (keep : List Bool) (ts : List Tr) : Lv v.image.length (v.crash keep ts) := ⟨inv_crash h _ _, rfl, rfl, crash_len h _ _⟩
end Go.Abs
namespace Go.Abs
theorem fuse_at (X : Nat → Prop) (v : Dv) (n : Int) (L R : Hp) (s : Nat) (hs : L.length = s) : ACalls (E0 X) 52 [.ptr s 0, .int .i64 n] (L ++ devS s v ++ R) (fun _ H' => H' = L ++ devS s { v with fuse := max n (-1) } ++ R) := by
  refine (dev_gen (fun X => fuse_c X v n) ⟨trivial, trivial⟩ L R s hs).mono ?_
  rintro r H' ⟨r1, h', rfl, rfl, rfl⟩
  show L ++ mapH (sh s R.length 3) (devH _) ++ R ++ [] = _
  rw [mapH_devQ, List.append_nil]
theorem modc (n : Int) (c : Nat) (hc : 0 < c) (h : c ≤ 1000) : ∃ k : Nat, (IntKind.i64.wrap (n.tmod c + c)).tmod c = (k : Int) ∧ k < c := by
  have h1 : n.tmod c < c := Int.tmod_lt_of_pos n (by omega)
  have h2 : -(c : Int) < n.tmod c := by
    have h0 := Int.tmod_lt_of_pos (-n) (b := (c : Int)) (by omega)
    rw [Int.neg_tmod] at h0
    omega
  rw [wrap_in (by omega) (by omega), Int.tmod_eq_emod_of_nonneg (by omega)]
  have h4 := Int.emod_nonneg (n.tmod c + c) (show (c : Int) ≠ 0 by omega)
  have h5 := Int.emod_lt_of_pos (n.tmod c + c) (show (0 : Int) < c by omega)
  exact ⟨((n.tmod c + c) % c).toNat, by omega, by omega⟩
/-- A write and a barrier. -/
def Dv.wb (v : Dv) (k : Nat) (b : List UInt8) : Int × Dv := if (v.write k b).1 ≠ 0 then v.write k b else (v.write k b).2.barrier
theorem inv_wb {v : Dv} (h : v.Inv) (k : Nat) (b : List UInt8) : (v.wb k b).2.Inv := by
  unfold Dv.wb
  split
  · exact inv_write h _ _
  · exact inv_barrier (inv_write h _ _)
theorem wb_fuse {v : Dv} {L : Nat} (h : Lv L v) (ho : v.old = []) {k : Nat} {b : List UInt8} (hk : k * 64 + 64 ≤ L) (hel : b.length = 64) {n : Nat} (hn : n ≤ 3) :
    ∃ e v3, ({ v with fuse := max (n : Int) (-1) } : Dv).wb k b = (e, v3) ∧ v3.Inv ∧ v3.image.length = L ∧
      ((e = 0 ∧ v3.dead = false ∧ v3.image = (v.put k b).image ∧ v3.old = []) ∨ (e = 1 ∧ v3.dead = true ∧ v3.image = v.image ∧ v3.old = []) ∨
       (e = 1 ∧ v3.dead = true ∧ v3.image = (v.put k b).image ∧ v3.Gh v.image ∧ v3.old.length = 1)) := by
  have hf : max (n : Int) (-1) = n := by omega
  have hinv := inv_wb (v := { v with fuse := max (n : Int) (-1) }) (inv_fuse h.inv (by omega)) k b
  have hc : ({ v with fuse := max (n : Int) (-1) } : Dv).check k = 0 := check_ok (v := { v with fuse := max (n : Int) (-1) }) (inv_fuse h.inv (by omega)) h.dead (by show _ ≤ v.image.length; rw [h.len]; omega)
  have hpl := put_len (v := v) (k := k) (b := b) (by rw [h.len]; omega) (by omega)
  have hgh : (v.put k b).Gh v.image := gh_put h.inv (gh_clean ho) (by rw [h.len]; omega) (by omega)
  have hol : (v.put k b).old.length = 1 := by simp [Dv.put, ho]
  have hpd : (v.put k b).dead = false := h.dead
  have hw := write_fu h.dead hel (max (n : Int) (-1)) hc
  rw [h.len] at hpl
  obtain ⟨e, v3, he⟩ : ∃ e v3, ({ v with fuse := max (n : Int) (-1) } : Dv).wb k b = (e, v3) := ⟨_, _, rfl⟩
  rw [he] at hinv
  refine ⟨e, v3, he, hinv, ?_⟩
  unfold Dv.wb at he
  rw [hw, hf] at he
  clear hw hinv hc
  generalize v.put k b = w at *
  have hlen := h.len
  rcases (show n = 0 ∨ n = 1 ∨ n = 2 ∨ n = 3 by omega) with rfl | rfl | rfl | rfl
  · have he : ((1 : Int), ({ v with fuse := 0, dead := true } : Dv)) = (e, v3) := he
    simp only [Prod.mk.injEq] at he
    obtain ⟨rfl, rfl⟩ := he
    exact ⟨hlen, .inr (.inl ⟨rfl, rfl, rfl, ho⟩)⟩
  · have he : ({ w with fuse := 0 } : Dv).barrier = (e, v3) := he
    rw [bar_fu (v := { w with fuse := 0 }) hpd, if_pos rfl] at he
    simp only [Prod.mk.injEq] at he
    obtain ⟨rfl, rfl⟩ := he
    exact ⟨hpl, .inr (.inr ⟨rfl, rfl, rfl, ⟨hgh.len, hgh.sec, hgh.same⟩, hol⟩)⟩
  · have he : ({ w with fuse := 1 } : Dv).barrier = (e, v3) := he
    rw [bar_fu (v := { w with fuse := 1 }) hpd, if_neg (show ¬ (1 : Int) = 0 by decide)] at he
    simp only [Prod.mk.injEq] at he
    obtain ⟨rfl, rfl⟩ := he
    exact ⟨hpl, .inl ⟨rfl, hpd, rfl, rfl⟩⟩
  · have he : ({ w with fuse := 2 } : Dv).barrier = (e, v3) := he
    rw [bar_fu (v := { w with fuse := 2 }) hpd, if_neg (show ¬ (2 : Int) = 0 by decide)] at he
    simp only [Prod.mk.injEq] at he
    obtain ⟨rfl, rfl⟩ := he
    exact ⟨hpl, .inl ⟨rfl, hpd, rfl, rfl⟩⟩
def lsN (mig k : Nat) : List Pl := (List.range k).map fun i => (pF mig 5 i).pl
theorem lsN_len (mig k : Nat) : (lsN mig k).length = k := by simp [lsN]
theorem lsN_succ (mig k : Nat) : lsN mig (k + 1) = lsN mig k ++ [(pF mig 5 k).pl] := by simp [lsN, List.range_succ]
theorem repl_wP {c : Dv} {mig k : Nat} (hj : Jn c (wP (fun _ => none) mig 5 k)) (hv : Lv 5120 c) (hm : 1 ≤ mig ∧ mig ≤ 9) (hk : k ≤ 36) : repl c (mig : Int) = lsN mig k := by
  have hw9 : wOk (wP (fun _ => none) mig 5 k) := wP_ok (fun j q h => by cases h) hm (by decide) hk
  refine repl_of hk (fun i => (pF mig 5 i).pl) (fun i hi => ?_) (fun h => ?_)
  · rw [rep_at hj hv (by decide) (by omega) (by omega) hw9]
    have e : wP (fun _ => none) mig 5 k (2 + (mig + 1) % 2 * 36 + i) = some (pF mig 5 i) := by
      unfold wP
      rw [if_pos (by omega)]
      congr 2
      omega
    rw [e]
    exact if_pos ⟨rfl, rfl⟩
  · rw [rep_at hj hv (by decide) (by omega) h hw9]
    have e : wP (fun _ => none) mig 5 k (2 + (mig + 1) % 2 * 36 + k) = none := by
      unfold wP
      rw [if_neg (by omega)]
    rw [e]
theorem jn_im {v c : Dv} {w : Nat → Option PlN} (h : Jn v w) (e : c.image = v.image) : Jn c w := fun j hj => by rw [e]; exact h j hj
theorem logcrash_plain {v : Dv} {mig n : Nat} (hv : Lv 5120 v) (ho : v.old = []) (hj : Jn v (wP (fun _ => none) mig 5 n)) (hm : 1 ≤ mig ∧ mig ≤ 9) (hn : n ≤ 34) {f : Nat} (hf : f ≤ 3) (keep : Bool) :
    ∃ e v3 k, ({ v with fuse := max (f : Int) (-1) } : Dv).wb (secN (pF mig 5 n)) (encP (pF mig 5 n) (secN (pF mig 5 n))) = (e, v3) ∧ v3.Inv ∧ v3.image.length = 5120 ∧ repl (v3.crash [keep] []) (mig : Int) = lsN mig k ∧
      ((e = 0 ∧ v3.dead = false ∧ k = n + 1) ∨ (e = 1 ∧ v3.dead = true ∧ (k = n ∨ k = n + 1))) := by
  have hs := secN_lt (p := pF mig 5 n) (show n ≤ 35 by omega)
  obtain ⟨e, v3, h1, h2, h3, h4⟩ := wb_fuse hv ho (k := secN (pF mig 5 n)) (b := encP (pF mig 5 n) (secN (pF mig 5 n))) (by omega) (encP_len _ _) hf
  have hj2 := (hj.app hv (by decide) (p := pF mig 5 n) (show n ≤ 35 by omega)).congr fun j _ => wP_succ _ _ _ _ _
  have hi2 : (v.app (pF mig 5 n)).image = (v.put (secN (pF mig 5 n)) (encP (pF mig 5 n) (secN (pF mig 5 n)))).image := rfl
  have hc := lv_crash h2 [keep] []
  rw [h3] at hc
  rcases h4 with ⟨h5, h6, h7, h8⟩ | ⟨h5, h6, h7, h8⟩ | ⟨h5, h6, h7, h8, h9⟩
  · refine ⟨e, v3, n + 1, h1, h2, h3, repl_wP (jn_im hj2 ?_) hc hm (by omega), .inl ⟨h5, h6, rfl⟩⟩
    rw [crash_clean h8, h7, hi2]
  · refine ⟨e, v3, n, h1, h2, h3, repl_wP (jn_im hj ?_) hc hm (by omega), .inr ⟨h5, h6, .inl rfl⟩⟩
    rw [crash_clean h8, h7]
  · cases keep with
    | true =>
      refine ⟨e, v3, n + 1, h1, h2, h3, repl_wP (jn_im hj2 ?_) hc hm (by omega), .inr ⟨h5, h6, .inr rfl⟩⟩
      rw [crash_all h2 h8 (fun k hk => by
        have : k = 0 := by omega
        subst this; rfl), h7, hi2]
    | false =>
      refine ⟨e, v3, n, h1, h2, h3, repl_wP (jn_im hj ?_) hc hm (by omega), .inr ⟨h5, h6, .inl rfl⟩⟩
      rw [crash_none h2 h8 (fun k hk => by
        have : k = 0 := by omega
        subst this; rfl)]
attribute [local irreducible] AStep aops AWp Nx awM
set_option maxHeartbeats 0 in
set_option maxRecDepth 100000 in
theorem append_g (X : Nat → Prop) (v : Dv) (hv : v.Ok) (p : PlN) (hp : validB p.pl = true) :
    ACalls (E0 X) 21 [.ptr 0 0, plA p.pl] (devH v) (fun r H' => r = .int .i64 (v.wb (secN p) (encP p (secN p))).1 ∧ H' = devH (v.wb (secN p) (encP p (secN p))).2) := by
  obtain ⟨q, hq, hk, hm, hi, ht, hf⟩ := valid_nat hp
  have hpq : p = q := by
    obtain ⟨a, b, c, d, e⟩ := p
    obtain ⟨a2, b2, c2, d2, e2⟩ := q
    simp only [PlN.pl, Pl.mk.injEq] at hq
    obtain ⟨h1, h2, h3, h4, h5⟩ := hq
    simp only [PlN.mk.injEq]
    exact ⟨by omega, by omega, by omega, by omega, h5⟩
  subst hpq
  have hs := secN_lt hi
  have hsec := sec_of hm.1 hi
  have hlb := encP_len p (secN p)
  have hw := fun R => dev_l (fun X => write_c X v hv (secN p) (encP p (secN p)) (by omega)) ⟨trivial, idsL_map fun _ => u8A_ids, trivial⟩ trivial R (X := X)
  have hwf : (v.write (secN p) (encP p (secN p))).2.fuse ≤ 9223372036854775807 := by
    have hbf : v.burn.fuse ≤ 9223372036854775807 := by have := hv.fuse; unfold Dv.burn; simp only; split <;> omega
    unfold Dv.write
    split
    · exact hv.fuse
    · split
      · exact hv.fuse
      · split <;> exact hbf
  have hb := fun R => dev_l (fun X => barrier_c X (v.write (secN p) (encP p (secN p))).2 hwf) trivial trivial R (X := X)
  have hen := fun X => penc_c X p (secN p) hp (by omega)
  have hsc := fun X => sector_c X p.mig p.idx (by omega)
  rw [hsec] at hsc
  have hva := fun X => valid_c X p.pl
  rw [hp] at hva
  simp only [PlN.pl] at hen hva
  unfold Dv.wb
  generalize v.write (secN p) (encP p (secN p)) = wr at *
  show ACalls (E0 X) 21 [.ptr 0 0, .agg [.int .i64 (p.kind : Int), .int .i64 (p.mig : Int), .int .i64 (p.idx : Int), .int .i64 (p.tail : Int), .int .i64 p.t.id, .int .i64 p.t.ver, .int .i64 p.t.rs, .int .i64 p.t.regs]] (devH v) _
  refine acalls_of Proofs.Tryd.func21 rfl Proofs.Tryd.ntmps21 (by kernel_rfl) rfl ?_
  intro hH hargs
  clear hH hargs
  repeat' (first | ((refine Qa rfl ?_); (first | refine Q1 ?_ | refine Q3 rfl rfl rfl ?_ | refine QK rfl ?_); (refine QX rfl rfl ?_)) | refine Qa rfl ?_ | refine Qh ?_ | refine Ql ?_ | refine Qo rfl ?_)
  refine st_call (fun _ => rfl) rfl ?_
  refine ACalls.mono (acalls_pure (E := E0 X) (fun X => hva X) (by simp [IdsLtL, IdsLt]) _) ?_
  rintro r H' ⟨rfl, rfl⟩
  first | refine nx rfl rfl ?_ | refine nx0 ?_
  repeat' (first | ((refine Qa rfl ?_); (first | refine Q3 rfl rfl rfl ?_ | refine Q4 rfl rfl rfl rfl rfl ?_ | refine QD rfl ?_); (refine QX rfl rfl ?_)) | refine Qa rfl ?_ | refine Qh ?_ | refine Ql ?_ | refine Qm ?_ | refine Qo rfl ?_ | refine Qq rfl ?_)
  refine st_call (fun _ => rfl) rfl ?_
  refine ACalls.mono (acalls_pure (E := E0 X) (fun X => hsc X) (by simp [IdsLtL, IdsLt]) _) ?_
  rintro r H' ⟨rfl, rfl⟩
  first | refine nx rfl rfl ?_ | refine nx0 ?_
  repeat' (first | ((refine Qa rfl ?_); (first | refine Q0 ?_ | refine Q1 ?_ | refine Q3 rfl rfl rfl ?_); (refine QX rfl rfl ?_)) | refine Qa rfl ?_ | refine Qh ?_ | refine Ql ?_ | refine Qo rfl ?_)
  refine st_call (fun _ => rfl) rfl ?_
  refine ACalls.mono (acalls_pure (E := E0 X) (fun X => hen X) (by simp [IdsLtL, IdsLt]) _) ?_
  rintro r H' ⟨rfl, rfl⟩
  first | refine nx rfl rfl ?_ | refine nx0 ?_
  repeat' (first | ((refine Qa rfl ?_); (first | refine Q0 ?_ | refine Q1 ?_ | refine QC rfl rfl ?_); (refine QX rfl rfl ?_)) | refine Qa rfl ?_ | refine Qh ?_ | refine Ql ?_ | refine Qo rfl ?_)
  refine st_call (fun _ => rfl) rfl ?_
  refine ACalls.mono (hw _) ?_
  rintro r H' ⟨rfl, rfl⟩
  first | refine nx rfl rfl ?_ | refine nx0 ?_
  repeat' (first | ((refine Qa rfl ?_); (first | refine Q0 ?_ | refine Q1 ?_ | refine Q2 rfl ?_); (refine QX rfl rfl ?_)) | refine Qh ?_ | refine Ql ?_ | refine Qo rfl ?_ | refine Qs ?_)
  refine awp_cond_dec rfl (fun h1 => ?_) (fun h1 => ?_)
  · rw [if_pos h1]
    repeat' (first | ((refine Qa rfl ?_); (first | refine Q0 ?_ | refine Q1 ?_); (refine QX rfl rfl ?_)) | refine Qh ?_ | refine Ql ?_ | refine Qo rfl ?_ | refine Qs ?_)
    refine awp_pre (imp_cutk 3 (Nat.le_refl _) (hok_dev _) rfl (by simp) (sl' := [(4, .int .i64 wr.1)]) ?_) ?_
    · repeat' (first | exact fa_nil | refine fa_cons ⟨?_, ?_⟩ ?_)
      all_goals (try first | exact rfl | exact trivial | (simp [IdsLt, IdsLtL]; done) | (simp [get_cons]; done) | (simp [get_cons, *]; done) | (refine congrArg (AV.int .i64) (wrap_eq ?_ ?_ ?_) <;> (first | omega | (simp; omega))))
    refine awp_ret ?_
    refine ⟨_, rfl, ?_, ?_⟩
    · rfl
    · rfl
  · rw [if_neg h1]
    repeat' (first | ((refine Qa rfl ?_); (refine Q0 ?_); (refine QX rfl rfl ?_)) | refine Qa rfl ?_ | refine Ql ?_ | refine Qm ?_ | refine Qo rfl ?_)
    refine st_call (fun _ => rfl) rfl ?_
    refine ACalls.mono (hb _) ?_
    rintro r H' ⟨rfl, rfl⟩
    first | refine nx rfl rfl ?_ | refine nx0 ?_
    repeat' (first | ((refine Qa rfl ?_); (refine Q1 ?_); (refine QX rfl rfl ?_)) | refine Qh ?_ | refine Qs ?_)
    refine awp_pre (imp_cutk 3 (Nat.le_refl _) (hok_dev _) rfl (by simp) (sl' := [(4, .int .i64 wr.2.barrier.1)]) ?_) ?_
    · repeat' (first | exact fa_nil | refine fa_cons ⟨?_, ?_⟩ ?_)
      all_goals (try first | exact rfl | exact trivial | (simp [IdsLt, IdsLtL]; done) | (simp [get_cons]; done) | (simp [get_cons, *]; done) | (refine congrArg (AV.int .i64) (wrap_eq ?_ ?_ ?_) <;> (first | omega | (simp; omega))))
    refine awp_ret ?_
    refine ⟨_, rfl, ?_, ?_⟩
    · rfl
    · rfl
end Go.Abs
namespace Go.Abs
theorem fuse_d (X : Nat → Prop) (v : Dv) (n : Int) (R : Hp) : ACalls (E0 X) 52 [.ptr 0 0, .int .i64 n] (devH v ++ R) (fun _ H' => H' = devH { v with fuse := max n (-1) } ++ R) := fuse_at X v n [] R 0 rfl
/-- The state of the journal's device behind i appends, of which the last one may have been interrupted. -/
def LcI (mig n : Nat) (keep : Bool) (p : Nat × Dv) : Prop :=
  (p.1 ≤ n ∧ Lv 5120 p.2 ∧ p.2.old = [] ∧ Jn p.2 (wP (fun _ => none) mig 5 p.1)) ∨
  (p.1 = n + 1 ∧ p.2.Inv ∧ p.2.image.length = 5120 ∧ ∃ k, repl (p.2.crash [keep] []) (mig : Int) = lsN mig k ∧ ((p.2.dead = false ∧ k = n + 1) ∨ (p.2.dead = true ∧ (k = n ∨ k = n + 1))))
theorem LcI.inv {mig n : Nat} {keep : Bool} {p : Nat × Dv} (h : LcI mig n keep p) : p.2.Inv := by
  rcases h with ⟨_, h, _⟩ | ⟨_, h, _⟩
  · exact h.inv
  · exact h
theorem wb_ok {v : Dv} {L : Nat} (h : Lv L v) {k : Nat} {b : List UInt8} (hk : k * 64 + 64 ≤ L) (hb : b.length ≤ 64) : v.wb k b = (0, { v.put k b with old := [] }) := by
  have hw := h.write hk hb
  have hbr := (h.put hk hb).bar
  unfold Dv.wb
  rw [hw]
  simp only [ne_eq, not_true_eq_false, if_false]
  rw [hbr]
theorem hok_lc (v : Dv) (l : List Pl) (a b c d e f g h : Int) : HOk 5 (devH v ++ [some (.arr (l.map plA) 32), some (.cells [.int .i64 a, .int .i64 b, .int .i64 c, .int .i64 d, .int .i64 e, .int .i64 f, .int .i64 g, .int .i64 h] 32)]) := fun j o ho => by
  match j, ho with
  | 0, ho => cases ho; exact ⟨by simp [IdsLt], by simp [IdsLt], trivial, trivial, trivial, trivial⟩
  | 1, ho => cases ho; exact idsL_map fun _ => u8A_ids
  | 2, ho => cases ho; exact ⟨by rw [List.map_map]; exact idsL_map fun _ => trivial, by rw [List.map_map]; exact idsL_map fun p => (idsL_map (f := u8A) fun _ => u8A_ids : IdsLtL _ (p.2.map u8A))⟩
  | 3, ho => cases ho; exact idsL_map fun _ => plA_ids
  | 4, ho => cases ho; exact ⟨trivial, trivial, trivial, trivial, trivial, trivial, trivial, trivial, trivial⟩
attribute [local irreducible] AStep aops AWp Nx awM
set_option maxHeartbeats 0 in
set_option maxRecDepth 100000 in
theorem logCrash_c (X : Nat → Prop) (mg nn fuse : Int) (keep : Bool) :
    ACalls (E0 X) 12 [.agg [.int .i64 mg, .int .i64 nn, .int .i64 fuse, .bool keep]] [] (fun r H' => r = .bool true ∧ H' = []) := by
  refine ACalls.cut0 ?_ trivial
  obtain ⟨m, hm, hmm⟩ := and_le mg 7 (by decide)
  have hmm : ibits .and .i64 mg 7 = (m : Int) := hmm
  have hmw : IntKind.i64.wrap (1 + (m : Int)) = ((m + 1 : Nat) : Int) := wrap_eq (by omega) (by omega) (by omega)
  obtain ⟨n, hnn, hn⟩ := modc nn 35 (by decide) (by decide)
  have hnn : (IntKind.i64.wrap (nn.tmod 35 + 35)).tmod 35 = (n : Int) := hnn
  obtain ⟨f, hf, hff⟩ := and_le fuse 3 (by decide)
  have hff : ibits .and .i64 fuse 3 = (f : Int) := hff
  have hlv := lz_lv
  have hjn := lz_jn
  have hold : (Dv.fresh lz).old = [] := rfl
  have hnew : ∀ H, ACalls (E0 X) 19 [.int .i64 80] H (fun r H' => r = .ptr H.length 0 ∧ H' = H ++ devS H.length (Dv.fresh lz)) := fun H => by
    refine (acalls_make (E := E0 X) (P := fun r H' => r = .ptr 0 0 ∧ H' = devH (Dv.fresh lz)) (fun X => (new_c X 80).mono fun r H' h => by
      rcases h with ⟨_, _, h1, h2⟩ | ⟨h1, _⟩
      · refine ⟨h1, h2.trans ?_⟩
        unfold lz; rfl
      · exact absurd ⟨by decide, by decide⟩ h1)
      (fun r h' h => by
        obtain ⟨rfl, rfl⟩ := h
        exact ⟨rfl, noFz_dev _⟩) (Bor.same trivial .nil)).mono ?_
    rintro r H' ⟨r0, h', ⟨rfl, rfl⟩, rfl, rfl⟩
    exact ⟨by simp [rnA], by rw [mapH_dev]⟩
  generalize Dv.fresh lz = v0 at *
  refine acalls_of Proofs.Tryd.func12 rfl Proofs.Tryd.ntmps12 (by kernel_rfl) rfl ?_
  intro hH hargs
  clear hH hargs
  repeat' (first | ((refine Qa rfl ?_); (first | refine Q1 ?_ | refine QK rfl ?_); (refine QX rfl rfl ?_)) | refine Qh ?_ | refine Ql ?_ | refine Qo rfl ?_)
  refine awp_pre (Imp.trans (imp_freezeP (id := 0) (cs := [.int .i64 mg, .int .i64 nn, .int .i64 fuse, .bool keep]) rfl) (imp_cutk 0 (Nat.zero_le _) hok_nil rfl (by simp) (sl' := [(1, .fp [.int .i64 mg, .int .i64 nn, .int .i64 fuse, .bool keep]), (2, .bool false)]) ?_)) ?_
  · refine fa_cons ⟨rfl, ?_⟩ (fa_cons ⟨rfl, trivial⟩ fa_nil)
    simp [IdsLt, IdsLtL]
  repeat' (first | ((first | refine Qa rfl ?_ | apply Qd rfl rfl rfl rfl | (apply Qe rfl rfl rfl rfl; intro H9)); (first | refine Q1 ?_ | refine Q2 rfl ?_ | refine Q3 rfl rfl rfl ?_ | refine Q4 rfl rfl rfl rfl rfl ?_ | refine QB rfl rfl (by decide) ?_); (first | exact QX rfl rfl ⟨rfl, rfl⟩ | exact QY rfl ⟨rfl, rfl⟩)) | refine Qa rfl ?_ | refine Qk ?_ | refine Ql ?_ | refine Qo rfl ?_ | refine Qx rfl (by kernel_rfl) ?_)
  rw [hmm, hmw, hnn]
  generalize hmig : m + 1 = mig at *
  refine st_call (fun _ => rfl) rfl ?_
  refine ACalls.mono (hnew []) ?_
  rintro r H' ⟨rfl, rfl⟩
  first | refine nx rfl rfl ?_ | refine nx0 ?_
  repeat' (first | ((refine Qa rfl ?_); (refine Q1 ?_); (refine QX rfl rfl ?_)) | refine Qh ?_ | refine Ql ?_ | refine Qn ?_ | refine Qo rfl ?_)
  refine awp_loop2 (fun p : Nat × Dv => ⟨[(3, .int .i64 (mig : Int)), (4, .int .i64 (n : Int)), (5, .int .i64 fuse), (6, .bool keep), (7, .ptr 0 0), (8, .own 3 0 p.1), (9, .int .i64 (p.1 : Int))], devH p.2 ++ [some (.arr ((lsN mig p.1).map plA) 32)]⟩)
    (LcI mig n keep) (fun p => 36 - p.1) (0, v0) (.inl ⟨Nat.zero_le _, hlv, hold, hjn.congr fun j _ => (wP_zero (fun _ => none) mig 5 j).symm⟩) ?_ ?_
  · refine Imp.trans (imp_nil 8 32 rfl) (imp_cutk 4 (by simp) (hok_da v0 []) rfl (by simp [devS]) ?_)
    repeat' (first | exact fa_nil | refine fa_cons ⟨?_, ?_⟩ ?_)
    all_goals (try first | exact rfl | exact trivial | (simp [IdsLt, IdsLtL]; done) | (simp [get_cons]; done) | (simp [get_cons, *]; done) | (refine congrArg (AV.int .i64) (wrap_eq ?_ ?_ ?_) <;> (first | omega | (simp; omega))))
  rintro ⟨i, v⟩ hI
  have hinv : v.Inv := hI.inv
  show AWp _ _ _ _ _ ⟨[(3, .int .i64 (mig : Int)), (4, .int .i64 (n : Int)), (5, .int .i64 fuse), (6, .bool keep), (7, .ptr 0 0), (8, .own 3 0 i), (9, .int .i64 (i : Int))], devH v ++ [some (.arr ((lsN mig i).map plA) 32)]⟩
  repeat' (first | ((refine Qa rfl ?_); (first | refine Q0 ?_ | refine Q2 rfl ?_); (refine QX rfl rfl ?_)) | refine Qh ?_ | refine Ql ?_ | refine Qo rfl ?_ | refine Qs ?_)
  refine awp_cond_dec rfl (fun h3 => ?_) (fun h3 => ?_)
  · obtain ⟨hin, hv, ho, hj⟩ : i ≤ n ∧ Lv 5120 v ∧ v.old = [] ∧ Jn v (wP (fun _ => none) mig 5 i) := by
      rcases hI with h | ⟨h, _⟩
      · exact h
      · have h : i = n + 1 := h
        omega
    have hp := pF_ok (mig := mig) (tail := 5) (i := i) (by omega) (by decide) (by omega)
    have ht2 : IntKind.i64.wrap (5 + (i : Int)) = ((5 + i : Nat) : Int) := wrap_eq (by omega) (by omega) (by omega)
    have hlen := lsN_len mig i
    have hsuc := lsN_succ mig i
    have hap : ∀ (u : Dv) (e : Int) (w : Dv), u.Ok → u.wb (secN (pF mig 5 i)) (encP (pF mig 5 i) (secN (pF mig 5 i))) = (e, w) → ∀ R, ACalls (E0 X) 21 [.ptr 0 0, plA (pF mig 5 i).pl] (devH u ++ R) (fun r H' => r = .int .i64 e ∧ H' = devH w ++ R) := fun u e w hu he R => by
      have := dev_l (fun X => append_g X u hu (pF mig 5 i) hp) ⟨plA_ids, trivial⟩ trivial R (X := X)
      rw [he] at this
      exact this
    have harg : plA (pF mig 5 i).pl = .agg [.int .i64 (if i = 0 then 1 else 2), .int .i64 (mig : Int), .int .i64 (i : Int), .int .i64 ((5 + i : Nat) : Int), .int .i64 2, .int .i64 1, .int .i64 4, .int .i64 4] := by
      by_cases h : i = 0
      · subst h; rfl
      · simp [plA, PlN.pl, pF, tgt, h]
    repeat' (first | ((refine Qa rfl ?_); (first | refine Q0 ?_ | refine Q2 rfl ?_); (refine QX rfl rfl ?_)) | refine Qa rfl ?_ | refine Ql ?_ | refine Qm ?_ | refine Qn ?_ | refine Qo rfl ?_)
    rw [ht2]
    refine st_call (fun _ => rfl) rfl ?_
    refine ACalls.mono (acalls_pure (E := E0 X) (fun X => target_c X) (by simp [IdsLtL, IdsLt]) _) ?_
    rintro r H' ⟨rfl, rfl⟩
    first | refine nx rfl rfl ?_ | refine nx0 ?_
    repeat' (first | ((refine Qa rfl ?_); (first | refine Q0 ?_ | refine Q2 rfl ?_ | refine QJ rfl rfl ?_ | refine QP rfl rfl rfl rfl rfl rfl ?_); (refine QX rfl rfl ?_)) | (refine Qb rfl ?_; try (refine QS rfl rfl rfl rfl rfl rfl rfl ?_; (refine QX rfl rfl ?_))) | refine Qh ?_ | refine Ql ?_ | refine Qo rfl ?_ | refine Qs ?_)
    refine awp_mid (s1 := ⟨[(3, .int .i64 (mig : Int)), (4, .int .i64 (n : Int)), (5, .int .i64 fuse), (6, .bool keep), (7, .ptr 0 0), (8, .own 3 0 i), (9, .int .i64 (i : Int)), (10, .ptr 4 0)], devH v ++ [some (.arr ((lsN mig i).map plA) 32), some (.cells [.int .i64 ((pF mig 5 i).kind : Int), .int .i64 (mig : Int), .int .i64 (i : Int), .int .i64 ((5 + i : Nat) : Int), .int .i64 2, .int .i64 1, .int .i64 4, .int .i64 4] 32)]⟩) ?_ ?_
    · refine awp_cond_dec rfl (fun h4 => ?_) (fun h4 => ?_)
      · have h5 : i = 0 := by omega
        have hk : ((pF mig 5 i).kind : Int) = 1 := by subst h5; rfl
        rw [hk]
        repeat' (first | ((refine Qa rfl ?_); (refine Q4 rfl rfl rfl rfl rfl ?_); (refine QX rfl rfl ?_)) | (refine Qb rfl ?_; try (refine QS rfl rfl rfl rfl rfl rfl rfl ?_; (refine QX rfl rfl ?_))) | refine Qh ?_ | refine Qo rfl ?_)
        refine ⟨rfl, imp_cutk 5 (by simp) (hok_lc v _ _ _ _ _ _ _ _ _) rfl (by simp [devH]) ?_⟩
        repeat' (first | exact fa_nil | refine fa_cons ⟨?_, ?_⟩ ?_)
        all_goals (try first | exact rfl | exact trivial | (simp [IdsLt, IdsLtL]; done) | (simp [get_cons]; done) | (simp [get_cons, *]; done) | (refine congrArg (AV.int .i64) (wrap_eq ?_ ?_ ?_) <;> (first | omega | (simp; omega))))
      · have h5 : ¬ i = 0 := by omega
        have hk : ((pF mig 5 i).kind : Int) = 2 := by simp [pF, h5]
        rw [hk]
        repeat' (refine Qm ?_)
        refine ⟨rfl, imp_cutk 5 (by simp) (hok_lc v _ _ _ _ _ _ _ _ _) rfl (by simp [devH]) ?_⟩
        repeat' (first | exact fa_nil | refine fa_cons ⟨?_, ?_⟩ ?_)
        all_goals (try first | exact rfl | exact trivial | (simp [IdsLt, IdsLtL]; done) | (simp [get_cons]; done) | (simp [get_cons, *]; done) | (refine congrArg (AV.int .i64) (wrap_eq ?_ ?_ ?_) <;> (first | omega | (simp; omega))))
    repeat' (first | ((refine Qa rfl ?_); (first | refine Q0 ?_ | refine Q3 rfl rfl rfl ?_ | refine QQ rfl rfl rfl rfl rfl rfl rfl rfl rfl rfl rfl ?_); (refine QX rfl rfl ?_)) | refine Qa rfl ?_ | refine Ql ?_ | refine Qo rfl ?_)
    refine st_app (oid := some 3) (es := (lsN mig i).map plA) (out := (lsN mig (i + 1)).map plA) (n := i + 1) (dst_own rfl (by rw [List.length_map, hlen])) (rfl) (oneEs_pl [(pF mig 5 i).pl]) (by rw [hsuc, List.map_append]; rfl) (by rw [List.length_map, hlen]; rfl) (by show _ ≤ 9223372036854775807; omega) (by show _ * 64 ≤ _; omega) rfl rfl rfl rfl rfl rfl rfl rfl ?_
    first | refine nx rfl rfl ?_ | refine nx0 ?_
    repeat' (first | ((refine Qa rfl ?_); (first | refine Q0 ?_ | refine Q1 ?_ | refine Q2 rfl ?_); (refine QX rfl rfl ?_)) | refine Qh ?_ | refine Ql ?_ | refine Qo rfl ?_ | refine Qs ?_)
    refine awp_cond_dec rfl (fun h6 => ?_) (fun h6 => ?_)
    · have hin2 : i = n := by omega
      subst hin2
      obtain ⟨e, v3, k, a1, a2, a3, a4, a5⟩ := logcrash_plain hv ho hj (by omega) (by omega) hf keep
      have hfd := fun R => fuse_d X v (f : Int) R
      have hap2 := hap _ _ _ (inv_fuse hv.inv (by omega)).ok a1
      repeat' (first | ((refine Qa rfl ?_); (first | refine Q0 ?_ | refine Q2 rfl ?_); (refine QX rfl rfl ?_)) | refine Qa rfl ?_ | refine Qo rfl ?_)
      rw [hff]
      refine st_call (fun _ => rfl) rfl ?_
      refine ACalls.mono (hfd _) ?_
      rintro r H' rfl
      first | refine nx rfl rfl ?_ | refine nx0 ?_
      repeat' (first | ((refine Qa rfl ?_); (first | refine Q0 ?_ | refine Q3 rfl rfl rfl ?_); (refine QX rfl rfl ?_)) | refine Qa rfl ?_ | refine Qh ?_ | refine Ql ?_ | refine Qo rfl ?_)
      refine st_call (fun _ => rfl) rfl ?_
      refine ACalls.mono (hap2 _) ?_
      rintro r H' ⟨rfl, rfl⟩
      first | refine nx rfl rfl ?_ | refine nx0 ?_
      repeat' (first | ((refine Qa rfl ?_); (first | refine Q0 ?_ | refine Q1 ?_ | refine Q2 rfl ?_); (refine QX rfl rfl ?_)) | refine Qh ?_ | refine Ql ?_ | refine Qo rfl ?_)
      rw [decide_eq_false (show ¬ (i : Int) < i by omega)]
      repeat' (first | ((refine Qa rfl ?_); (first | refine Q0 ?_ | refine Q2 rfl ?_ | refine Q5 rfl ?_); (refine QX rfl rfl ?_)) | refine Qi rfl ?_)
      rw [decide_eq_true (rfl : (i : Int) = i)]
      have hde := fun R => dev_l (fun X => dead_c X v3) trivial trivial R (X := X)
      rcases a5 with ⟨rfl, a6, a7⟩ | ⟨rfl, a6, a7⟩
      · skip
        repeat' (first | ((refine Qa rfl ?_); (first | refine Q0 ?_ | refine Q1 ?_ | refine Q2 rfl ?_ | refine Q5 rfl ?_); (refine QX rfl rfl ?_)) | refine Qh ?_ | refine Qi rfl ?_ | refine Qm ?_ | refine Qo rfl ?_ | refine Qq rfl ?_ | refine Qs ?_)
        refine ⟨(i + 1, v3), .inr ⟨rfl, a2, a3, k, a4, .inl ⟨a6, a7⟩⟩, by show 36 - (i + 1) < 36 - i; omega, ?_⟩
        refine imp_tid 3 [5] (H' := devH v3 ++ [some (.arr ((lsN mig (i + 1)).map plA) 32)]) (os := [.arr ((lsN mig (i + 1)).map plA) 32]) (Nat.zero_le _) ?_ ?_ ?_ ?_ rfl ?_ ?_ ?_
        · simp [devH]
        · simp
        · simp
        · exact hok_dev _
        · rfl
        · refine fa_cons (ren_lt rfl trivial) (fa_cons (ren_lt rfl trivial) (fa_cons (ren_lt rfl trivial) (fa_cons (ren_lt rfl trivial) (fa_cons (ren_lt rfl (by simp [IdsLt])) (fa_cons (ren_own rfl) (fa_cons (ren_lt ?_ trivial) fa_nil))))))
          exact congrArg (AV.int .i64) (wrap_eq (by omega) (by omega) (by omega))
        · exact os_cons rfl (renO_old 3 gcF_lt (idsL_map fun _ => plA_ids)) os_nil
      · rw [a6] at hde
        repeat' (first | ((refine Qa rfl ?_); (first | refine Q0 ?_ | refine Q2 rfl ?_ | refine Q5 rfl ?_); (refine QX rfl rfl ?_)) | refine Qa rfl ?_)
        refine st_call (fun _ => rfl) rfl ?_
        refine ACalls.mono (hde _) ?_
        rintro r H' ⟨rfl, rfl⟩
        first | refine nx rfl rfl ?_ | refine nx0 ?_
        repeat' (first | ((refine Qa rfl ?_); (first | refine Q0 ?_ | refine Q1 ?_ | refine Q2 rfl ?_ | refine Q5 rfl ?_ | refine QD rfl ?_); (refine QX rfl rfl ?_)) | refine Qh ?_ | refine Qm ?_ | refine Qo rfl ?_ | refine Qq rfl ?_ | refine Qs ?_)
        refine ⟨(i + 1, v3), .inr ⟨rfl, a2, a3, k, a4, .inr ⟨a6, a7⟩⟩, by show 36 - (i + 1) < 36 - i; omega, ?_⟩
        refine imp_tid 3 [5] (H' := devH v3 ++ [some (.arr ((lsN mig (i + 1)).map plA) 32)]) (os := [.arr ((lsN mig (i + 1)).map plA) 32]) (Nat.zero_le _) ?_ ?_ ?_ ?_ rfl ?_ ?_ ?_
        · simp [devH]
        · simp
        · simp
        · exact hok_dev _
        · rfl
        · refine fa_cons (ren_lt rfl trivial) (fa_cons (ren_lt rfl trivial) (fa_cons (ren_lt rfl trivial) (fa_cons (ren_lt rfl trivial) (fa_cons (ren_lt rfl (by simp [IdsLt])) (fa_cons (ren_own rfl) (fa_cons (ren_lt ?_ trivial) fa_nil))))))
          exact congrArg (AV.int .i64) (wrap_eq (by omega) (by omega) (by omega))
        · exact os_cons rfl (renO_old 3 gcF_lt (idsL_map fun _ => plA_ids)) os_nil
    · have hap2 := hap _ _ _ hv.inv.ok (wb_ok hv (k := secN (pF mig 5 i)) (b := encP (pF mig 5 i) (secN (pF mig 5 i))) (by have := secN_lt (p := pF mig 5 i) (show i ≤ 35 by omega); omega) (by rw [encP_len]; decide))
      repeat' (first | ((refine Qa rfl ?_); (first | refine Q0 ?_ | refine Q3 rfl rfl rfl ?_); (refine QX rfl rfl ?_)) | refine Qa rfl ?_ | refine Ql ?_ | refine Qm ?_ | refine Qo rfl ?_)
      refine st_call (fun _ => rfl) rfl ?_
      refine ACalls.mono (hap2 _) ?_
      rintro r H' ⟨rfl, rfl⟩
      first | refine nx rfl rfl ?_ | refine nx0 ?_
      repeat' (first | ((refine Qa rfl ?_); (first | refine Q0 ?_ | refine Q1 ?_ | refine Q2 rfl ?_); (refine QX rfl rfl ?_)) | refine Qh ?_ | refine Ql ?_ | refine Qo rfl ?_)
      have hv2 := hv.app (by decide) (p := pF mig 5 i) (show i ≤ 35 by omega)
      have hj2 := (hj.app hv (by decide) (p := pF mig 5 i) (show i ≤ 35 by omega)).congr fun j _ => wP_succ _ _ _ _ _
      have ho2 : (v.app (pF mig 5 i)).old = [] := rfl
      have hva : (({ v.put (secN (pF mig 5 i)) (encP (pF mig 5 i) (secN (pF mig 5 i))) with old := [] } : Dv)) = v.app (pF mig 5 i) := rfl
      rw [hva] at *
      generalize v.app (pF mig 5 i) = v2 at *
      rw [decide_eq_true (show (i : Int) < n by omega)]
      repeat' ((refine Qa rfl ?_); (first | refine Q0 ?_ | refine Q2 rfl ?_ | refine Q5 rfl ?_); (refine QX rfl rfl ?_))
      rw [decide_eq_false (show ¬ (i : Int) = n by omega)]
      repeat' (first | ((refine Qa rfl ?_); (first | refine Q0 ?_ | refine Q1 ?_ | refine Q2 rfl ?_ | refine Q5 rfl ?_); (refine QX rfl rfl ?_)) | refine Qh ?_ | refine Qi rfl ?_ | refine Qm ?_ | refine Qo rfl ?_ | refine Qq rfl ?_ | refine Qs ?_)
      refine ⟨(i + 1, v2), .inl ⟨by show i + 1 ≤ n; omega, hv2, ho2, hj2⟩, by show 36 - (i + 1) < 36 - i; omega, ?_⟩
      refine imp_tid 3 [5] (H' := devH v2 ++ [some (.arr ((lsN mig (i + 1)).map plA) 32)]) (os := [.arr ((lsN mig (i + 1)).map plA) 32]) (Nat.zero_le _) ?_ ?_ ?_ ?_ rfl ?_ ?_ ?_
      · simp [devH]
      · simp
      · simp
      · exact hok_dev _
      · rfl
      · refine fa_cons (ren_lt rfl trivial) (fa_cons (ren_lt rfl trivial) (fa_cons (ren_lt rfl trivial) (fa_cons (ren_lt rfl trivial) (fa_cons (ren_lt rfl (by simp [IdsLt])) (fa_cons (ren_own rfl) (fa_cons (ren_lt ?_ trivial) fa_nil))))))
        exact congrArg (AV.int .i64) (wrap_eq (by omega) (by omega) (by omega))
      · exact os_cons rfl (renO_old 3 gcF_lt (idsL_map fun _ => plA_ids)) os_nil
  · obtain ⟨hi, h2, k, h4, h5⟩ : i = n + 1 ∧ v.image.length = 5120 ∧ ∃ k, repl (v.crash [keep] []) (mig : Int) = lsN mig k ∧ ((v.dead = false ∧ k = n + 1) ∨ (v.dead = true ∧ (k = n ∨ k = n + 1))) := by
      rcases hI with ⟨h, _⟩ | ⟨h, _, h2, k, h3, h4⟩
      · have h : i ≤ n := h
        omega
      · exact ⟨h, h2, k, h3, h4⟩
    have hcl := lv_crash hinv [keep] []
    have hcr := fun R => crash_kn X v hinv [keep] [] R 0 rfl
    have hre := fun L R s1 h => dev_at (fun X => replay_c X (v.crash [keep] []) hcl.inv (mig : Int) (by omega)) ⟨trivial, trivial⟩ (pl_ids _) L R s1 h (X := X)
    rw [h4] at hre
    generalize v.crash [keep] [] = c at *
    subst hi
    have hlen := lsN_len mig (n + 1)
    refine awp_pre (Imp.trans (imp_freeze (id := 3) (k := 8) (es := (lsN mig (n + 1)).map plA) (e := 32) rfl rfl rfl) (imp_cutk 3 (Nat.zero_le _) (hok_dev v) rfl (by simp [devH]) (sl' := [(3, .int .i64 (mig : Int)), (4, .int .i64 (n : Int)), (6, .bool keep), (7, .ptr 0 0), (8, .sl 8 ((lsN mig (n + 1)).map plA))]) ?_)) ?_
    · repeat' (first | exact fa_nil | refine fa_cons ⟨?_, ?_⟩ ?_)
      all_goals (try first | exact rfl | exact trivial | (simp [IdsLt, IdsLtL]; done))
      · show frz 3 8 ((lsN mig (n + 1)).map plA) (.own 3 0 (n + 1)) = _
        simp [frz, hlen, List.take_of_length_le]
    have heq := fun (a b : List Pl) (hb : a.length ≤ 40) => acalls_pure (E := E0 X) (fun X => peq_c X a b (by omega)) (by simp [IdsLtL, IdsLt])
    repeat' (first | ((refine Qa rfl ?_); (first | refine Q0 ?_ | refine QR rfl rfl rfl rfl rfl rfl rfl rfl rfl rfl rfl rfl ?_); (refine QX rfl rfl ?_)) | refine Qa rfl ?_ | refine Ql ?_ | refine Qo rfl ?_ | refine Qr ?_)
    refine st_call (fun _ => rfl) rfl ?_
    refine ACalls.mono (hcr []) ?_
    rintro r H' ⟨rfl, rfl⟩
    first | refine nx rfl rfl ?_ | refine nx0 ?_
    repeat' (first | ((refine Qa rfl ?_); (refine Q0 ?_); (refine QX rfl rfl ?_)) | refine Qa rfl ?_)
    refine st_call (fun _ => rfl) rfl ?_
    refine ACalls.mono (hre [_, _, _] [] 3 rfl) ?_
    rintro r H' ⟨rfl, rfl⟩
    first | refine nx rfl rfl ?_ | refine nx0 ?_
    have hde := fun R => dev_l (fun X => dead_c X v) trivial trivial R (X := X)
    have hln := lsN_len mig n
    have htk : (lsN mig (n + 1)).take n = lsN mig n := by rw [lsN_succ, List.take_left' hln]
    have hne : ¬ lsN mig n = lsN mig (n + 1) := fun h => by
      have := congrArg List.length h
      omega
    have e1 := heq (lsN mig (n + 1)) (lsN mig (n + 1)) (by omega)
    have e2 := heq (lsN mig n) (lsN mig (n + 1)) (by omega)
    have e3 := heq (lsN mig n) (lsN mig n) (by omega)
    rw [decide_eq_true rfl] at e1
    rw [decide_eq_false hne] at e2
    rw [decide_eq_true rfl] at e3
    rcases h5 with ⟨h6, rfl⟩ | ⟨h6, rfl | rfl⟩
    · rw [h6] at hde
      repeat' (first | ((refine Qa rfl ?_); (first | refine Q0 ?_ | refine Q1 ?_); (refine QX rfl rfl ?_)) | refine Qa rfl ?_ | refine Qh ?_ | refine Ql ?_ | refine Qo rfl ?_)
      refine st_call (fun _ => rfl) rfl ?_
      refine ACalls.mono (hde _) ?_
      rintro r H' ⟨rfl, rfl⟩
      first | refine nx rfl rfl ?_ | refine nx0 ?_
      repeat' (first | ((refine Qa rfl ?_); (refine QD rfl ?_); (refine QX rfl rfl ?_)) | refine Qa rfl ?_ | refine Qh ?_ | refine Ql ?_ | refine Qo rfl ?_ | refine Qp rfl ?_)
      refine st_call (fun _ => rfl) rfl ?_
      refine ACalls.mono (acalls_pure (E := E0 X) (fun X => awake_c X) (by simp [IdsLtL, IdsLt]) _) ?_
      rintro r H' ⟨rfl, rfl⟩
      first | refine nx rfl rfl ?_ | refine nx0 ?_
      repeat' (first | ((refine Qa rfl ?_); (refine Q0 ?_); (refine QX rfl rfl ?_)) | refine Qa rfl ?_)
      refine st_call (fun _ => rfl) rfl ?_
      refine ACalls.mono (e1 _) ?_
      rintro r H' ⟨rfl, rfl⟩
      first | refine nx rfl rfl ?_ | refine nx0 ?_
      repeat' (first | ((refine Qa rfl ?_); (first | refine Q1 ?_ | refine Q5 rfl ?_); (refine QX rfl rfl ?_)) | refine Qh ?_ | refine Qs ?_)
      refine awp_ret ?_
      exact ⟨_, rfl, rfl⟩
    · rw [h6] at hde
      repeat' (first | ((refine Qa rfl ?_); (first | refine Q0 ?_ | refine Q1 ?_); (refine QX rfl rfl ?_)) | refine Qa rfl ?_ | refine Qh ?_ | refine Ql ?_ | refine Qo rfl ?_)
      refine st_call (fun _ => rfl) rfl ?_
      refine ACalls.mono (hde _) ?_
      rintro r H' ⟨rfl, rfl⟩
      first | refine nx rfl rfl ?_ | refine nx0 ?_
      repeat' (first | ((refine Qa rfl ?_); (refine QD rfl ?_); (refine QX rfl rfl ?_)) | refine Qa rfl ?_ | refine Qh ?_ | refine Ql ?_ | refine Qm ?_ | refine Qo rfl ?_ | refine Qq rfl ?_)
      refine st_call (fun _ => rfl) rfl ?_
      refine ACalls.mono (acalls_pure (E := E0 X) (fun X => awake_c X) (by simp [IdsLtL, IdsLt]) _) ?_
      rintro r H' ⟨rfl, rfl⟩
      first | refine nx rfl rfl ?_ | refine nx0 ?_
      repeat' (first | ((refine Qa rfl ?_); (refine Q0 ?_); (refine QX rfl rfl ?_)) | refine Qa rfl ?_)
      refine st_call (fun _ => rfl) rfl ?_
      refine ACalls.mono (e2 _) ?_
      rintro r H' ⟨rfl, rfl⟩
      first | refine nx rfl rfl ?_ | refine nx0 ?_
      repeat' (first | ((refine Qa rfl ?_); (refine Q0 ?_); (refine QX rfl rfl ?_)) | refine Qa rfl ?_)
      refine st_sls (l := 0) (h := k) (ys := lsN mig k) (bnd_none) (bnd_some rfl rfl) (by omega) (by omega) (by rw [List.drop_zero, htk]) rfl rfl rfl rfl rfl ?_
      first | refine nx rfl rfl ?_ | refine nx0 ?_
      repeat' (refine Qa rfl ?_)
      refine st_call (fun _ => rfl) rfl ?_
      refine ACalls.mono (e3 _) ?_
      rintro r H' ⟨rfl, rfl⟩
      first | refine nx rfl rfl ?_ | refine nx0 ?_
      repeat' (first | ((refine Qa rfl ?_); (first | refine Q1 ?_ | refine Q5 rfl ?_); (refine QX rfl rfl ?_)) | refine Qh ?_ | refine Qs ?_)
      refine awp_ret ?_
      exact ⟨_, rfl, rfl⟩
    · rw [h6] at hde
      repeat' (first | ((refine Qa rfl ?_); (first | refine Q0 ?_ | refine Q1 ?_); (refine QX rfl rfl ?_)) | refine Qa rfl ?_ | refine Qh ?_ | refine Ql ?_ | refine Qo rfl ?_)
      refine st_call (fun _ => rfl) rfl ?_
      refine ACalls.mono (hde _) ?_
      rintro r H' ⟨rfl, rfl⟩
      first | refine nx rfl rfl ?_ | refine nx0 ?_
      repeat' (first | ((refine Qa rfl ?_); (refine QD rfl ?_); (refine QX rfl rfl ?_)) | refine Qa rfl ?_ | refine Qh ?_ | refine Ql ?_ | refine Qm ?_ | refine Qo rfl ?_ | refine Qq rfl ?_)
      refine st_call (fun _ => rfl) rfl ?_
      refine ACalls.mono (acalls_pure (E := E0 X) (fun X => awake_c X) (by simp [IdsLtL, IdsLt]) _) ?_
      rintro r H' ⟨rfl, rfl⟩
      first | refine nx rfl rfl ?_ | refine nx0 ?_
      repeat' (first | ((refine Qa rfl ?_); (refine Q0 ?_); (refine QX rfl rfl ?_)) | refine Qa rfl ?_)
      refine st_call (fun _ => rfl) rfl ?_
      refine ACalls.mono (e1 _) ?_
      rintro r H' ⟨rfl, rfl⟩
      first | refine nx rfl rfl ?_ | refine nx0 ?_
      repeat' (first | ((refine Qa rfl ?_); (first | refine Q0 ?_ | refine Q1 ?_ | refine Q5 rfl ?_); (refine QX rfl rfl ?_)) | refine Qh ?_ | refine Qi rfl ?_ | refine Qs ?_)
      refine awp_ret ?_
      exact ⟨_, rfl, rfl⟩
end Go.Abs
namespace Go.Abs
section
open Go.RowKit Go.ChangeShapes Go.WideShapes
theorem arg_avS {E : Env} {H : Type} {enc : TypeId × Value → H} {W : World} (hok : E.Ok) (hX : ∀ b, ¬ E.X b) {f : Nat} {t : TypeId} {fs : List (Nat × TypeId)} {v : Value} {d : DataW H} {ps : List MemPlace} {base : Nat} (hp : plainT E f t = true) (hk : (E.ti t).k = .struct fs)
    (hval : Value.okWide E.P W .any base t v) (h : DataW.Trod enc E.P W 0 (fun _ => true) true t v d ps) : ∃ xs, E.Rel [] W (.agg xs) v ∧ hasC E f t xs := by
  obtain ⟨fuel, hf⟩ := h
  obtain ⟨xs, h1, h2, h3⟩ := trod_av hok hX f fuel t _ _ hp hf
  have ht : Nat.blt t E.n = true := by
    cases f with
    | zero => simp [plainT] at hp
    | succ f =>
      simp only [plainT, Bool.and_eq_true] at hp
      exact hp.1
  obtain ⟨F, hF, -⟩ := tk_struct hok ht hk
  obtain ⟨cs, rfl, -⟩ := okWide_struct hF hval
  exact ⟨xs, ⟨cs.toList, by simp, h1⟩, h2⟩
end
def lcrL (p : Int × Int × Int × Bool) : List AV := [.int .i64 p.1, .int .i64 p.2.1, .int .i64 p.2.2.1, .bool p.2.2.2]
theorem lcr_of {X : Nat → Prop} {xs : List AV} (h : hasC (E0 X) 2 92 xs) : ∃ p, xs = lcrL p ∧ True := by
  have h1 : hasF (E0 X) (hasC (E0 X) 1) [(0, 3), (1, 3), (2, 3), (3, 4)] xs := h
  obtain ⟨_, _, rfl, ⟨n0, rfl, _⟩, _, _, rfl, ⟨n1, rfl, _⟩, _, _, rfl, ⟨n2, rfl, _⟩, _, _, rfl, ⟨c, rfl⟩, rfl⟩ := h1
  exact ⟨(n0, n1, n2, c), rfl, trivial⟩
end Go.Abs
namespace Go.Proofs.YtlndakkehobnpaaDoor
open Go.Abs Go.RowKit Go.ChangeShapes Go.WideShapes
set_option maxRecDepth 100000 in
theorem logCrashLifted (os : Os) (started : os.Started) (H : Type) (enc : TypeId × Value → H) :
    ReturnsInHanded {} Tryd.checked os 12 .any (fun w args => (Rows.logCrashSpec.pre enc Tryd.prog Tryd.f12 [] false w args ∧ laidMetH Tryd.prog [("flashcache/crc.table", Rows.laid_flashcache_crc_table)] w) ∧ sizedMet enc Tryd.prog Tryd.f12 (OpenSpec.ofChange Rows.logCrashSpec) false w args)
      (Rows.logCrashSpec.post enc Tryd.prog Tryd.f12 false Rows.logCrashRow.fresh Rows.logCrashRow.handsOn Rows.logCrashRow.again) := by
  refine returnsInHanded_of_change_and (C := Tryd.checked) (X := fun w _ => laidMetH Tryd.prog [("flashcache/crc.table", Rows.laid_flashcache_crc_table)] w) (fun _ _ _ hh h => h.of_heap hh) own0 started (by kernel_rfl) Tryd.func12
    (ChangeSpec.witness_shaped (enc := enc) (C := Tryd.checked) (os := os) (X := fun w _ => laidMetH Tryd.prog [("flashcache/crc.table", Rows.laid_flashcache_crc_table)] w) false (World.doorLaid Tryd.prog 400 os) #[.agg #[.int .i64 0, .int .i64 0, .int .i64 0, .bool false]] 8 rfl (World.shaped_of_RefB (by kernel_rfl) (by kernel_rfl)) (by kernel_rfl) (by kernel_rfl) (by kernel_rfl) (door_met os _)) ?_
  intro W base args ds gs before hval0 hW _ _ hL _
  have hval : ∀ (j : Nat) t v, Tryd.f12.params[j]? = some t → args[j]? = some v → Value.okWide Tryd.prog W .any base t v := hval0
  have hW2 := hW
  obtain ⟨p, q, hA0, hV, _, _, _⟩ := hW2
  have hA : DataW.TrodAll enc Tryd.prog W 0 (fun _ => true) true [92] args.toList ds p := hA0
  obtain ⟨rfl, rfl⟩ := trodVars_none hV
  obtain ⟨v0, d0, rfl, rfl, t0⟩ := trodAll_one hA
  obtain ⟨x0, r0, c0⟩ := arg_avS (E := E0 fun _ => False) (E0_ok _) (fun _ h => h) (f := 2) rfl rfl (hval 0 92 v0 rfl rfl) t0
  obtain ⟨l0, rfl, h0⟩ := lcr_of c0
  exact law_trueG (E := E0 fun _ => False) (avs := [.agg (lcrL l0)]) (tb := 4) (E0_ok _) (glob_of_laid hL) (by kernel_rfl) rfl (by kernel_rfl) (by kernel_rfl) (by kernel_rfl) rfl rfl rfl hW (fun _ h => h)
    (RelL.cons r0 (by simp [Abs.RelL])) (logCrash_c _ l0.1 l0.2.1 l0.2.2.1 l0.2.2.2)
theorem logCrash_holds : Rows.LogCrashSaid :=
  OpenClaim.holds_of_wide 12 Tryd.f12 rfl rfl rfl rfl rfl rfl rfl ⟨rfl, rfl, rfl, rfl, rfl⟩ rfl rfl rfl rfl rfl (by kernel_rfl) Tryd.func12 (by kernel_rfl)
    (of_decide_eq_true (by kernel_rfl)) (by unfold Func.isWrapper; rw [if_neg (of_decide_eq_false (by kernel_rfl))]; exact ⟨rfl, rfl⟩)
    (fun os started H enc _ => logCrashLifted os started H enc)
theorem logCrash_card : Rows.LogCrashCardSaid :=
  Claim7.holds_tied_plain_at .later [] [.data] true (true, "ef1fa8f3014c6e3fe2b1907d4f734f2c932dc2d5fe76d3eb980f0835b0714608") false
    logCrash_holds (fun _ h => by cases h) (by kernel_rfl) (fun _ h => by cases h) logCrash_row_tie rfl ⟨rfl, rfl⟩ (by kernel_rfl) rfl
    (fun f fn hf hfn => by
      obtain rfl : f = 12 := Option.some.inj ((show Tryd.prog.funcNamed "flashcache/flashcachelaw11.LogCrash" = some 12 by kernel_rfl).symm.trans hf) |>.symm
      obtain rfl : fn = Tryd.f12 := (Option.some.inj (Tryd.func12.symm.trans hfn)).symm
      exact ⟨by kernel_rfl, fun j t ht => by
        have ht : (#[92] : Array TypeId)[j]? = some t := ht
        have hm : t ∈ [92] := by simpa using Array.mem_of_getElem? ht
        have hall : ([92].all fun u => !Tryd.prog.wantsStandIn u) = true := by kernel_rfl
        exact (show Tryd.prog.wantsStandIn t = false by simpa using List.all_eq_true.1 hall t hm)⟩)
    (by kernel_rfl)
end Go.Proofs.YtlndakkehobnpaaDoor
