/- Records: Decode, by the reference. Printed by a program. Joined texts, each with what its own name promises; no condition beyond those stated. -/
import Derived.Test.YtlndakkehobnpaaDoorPC
import Derived.Test.YtlndakkehobnpaaDoorPA
namespace Go.Abs
theorem num_get {b : List UInt8} {i : Nat} {x : UInt8} (h : b[i]? = some x) : numN ((b.drop i).take 1) = x.toNat := by
  rw [List.drop_eq_getElem?_toList_append, h]
  simp [numN]
theorem hok_r3 (a c : Int) (key val : List UInt8) : HOk 2 [some zR, some (.cells [.int .i64 a, .sl 1 (key.map u8A), .sl 1 (val.map u8A), .int .i64 c] 83)] := fun j o ho => by
  match j, ho with
  | 0, ho => cases ho; exact ⟨trivial, trivial, trivial, trivial, trivial⟩
  | 1, ho => cases ho; exact ⟨trivial, idsL_map fun _ => u8A_ids, idsL_map fun _ => u8A_ids, trivial, trivial⟩
attribute [local irreducible] AStep aops AWp Nx awM
set_option maxHeartbeats 0 in
set_option maxRecDepth 100000 in
theorem rrdec_c1 (X : Nat → Prop) (seq off : Nat) (b : List UInt8) (hs : seq < 9223372036854775808) (ho : off ≤ 2147483647) (hb : b.length ≤ 1000000) :
    ACalls (E0 X) 128 [.int .i64 1, .int .i64 (seq : Int), .int .i64 (off : Int), .sl 1 (b.map u8A)] [] (fun r H' => r = recO (decR 1 seq off b) ∧ H' = []) := by
  refine ACalls.cut0 ?_ (recO_ids _)
  have hbm : (b.map u8A).length = b.length := List.length_map _
  refine acalls_of Proofs.Tryd.func128 rfl Proofs.Tryd.ntmps128 (by kernel_rfl) rfl ?_
  intro hH hargs
  clear hH hargs
  repeat' (first | ((refine Qa rfl ?_); (first | refine Q0 ?_ | refine Q1 ?_ | refine Q2 rfl ?_ | refine Q5 rfl ?_ | refine QJ rfl rfl ?_); (refine QX rfl rfl ?_)) | refine Qh ?_ | refine Qi rfl ?_ | refine Ql ?_ | refine Qo rfl ?_)
  rw [decide_eq_false (show ¬ (seq : Int) < 0 by omega)]
  skip
  rw [decide_eq_false (show ¬ (off : Int) < 0 by omega)]
  skip
  rw [decide_eq_false (show ¬ (2147483647 : Int) < (off : Int) by omega)]
  repeat' (first | ((refine Qa rfl ?_); (first | refine Q0 ?_ | refine Q2 rfl ?_ | refine Q5 rfl ?_ | refine Q7 rfl rfl rfl ?_); (refine QX rfl rfl ?_)) | refine Qh ?_ | refine Qs ?_)
  by_cases h1 : b.length < 16
  · rw [decide_eq_true (show ((b.map u8A).length : Int) < 16 by omega)]
    have e : decR 1 seq off b = none := if_pos h1
    rw [e]
    repeat' (first | ((refine Qa rfl ?_); (first | refine Q1 ?_ | refine QP rfl rfl rfl rfl rfl rfl ?_); (refine QX rfl rfl ?_)) | (refine Qb rfl ?_; try (refine QS rfl rfl rfl rfl rfl rfl rfl ?_; (refine QX rfl rfl ?_))) | refine Qh ?_ | refine Ql ?_ | refine Qo rfl ?_ | refine Qp rfl ?_ | refine Qs ?_)
    refine awp_ret ?_
    exact ⟨_, rfl, rfl⟩
  rw [decide_eq_false (show ¬ ((b.map u8A).length : Int) < 16 by omega)]
  obtain ⟨x1, hx1⟩ : ∃ x, b[1]? = some x := ⟨_, List.getElem?_eq_getElem (by omega)⟩
  obtain ⟨x2, hx2⟩ : ∃ x, b[2]? = some x := ⟨_, List.getElem?_eq_getElem (by omega)⟩
  have g1 := num_get hx1
  have g2 := num_get hx2
  have l1 := x1.toNat_lt
  have l2 := x2.toNat_lt
  have wx1 : IntKind.i64.wrap (x1.toNat : Int) = (x1.toNat : Int) := wrap_in (by omega) (by omega)
  have wx2 : IntKind.i64.wrap (x2.toNat : Int) = (x2.toNat : Int) := wrap_in (by omega) (by omega)
  have q8 := fun X => rnum_c X ((b.drop 8).take 4) (by simp; omega)
  have q4 := fun X => rnum_c X ((b.drop 4).take 4) (by simp; omega)
  have q7 := fun X => rnum_c X ((b.drop 7).take 5) (by simp; omega)
  have q3 := fun X => rnum_c X ((b.drop 3).take 3) (by simp; omega)
  have s8 := num_small (bs := b) (lo := 8) (w := 4) (by decide)
  have s4 := num_small (bs := b) (lo := 4) (w := 4) (by decide)
  have s7 := num_small (bs := b) (lo := 7) (w := 5) (by decide)
  have s3 := num_small (bs := b) (lo := 3) (w := 3) (by decide)
  have hdec : decR 1 seq off b = decG 1 seq off b x1.toNat x2.toNat (numN ((b.drop 4).take 4)) (numN ((b.drop 8).take 4)) := by
    unfold decR; rw [if_neg h1, if_pos rfl, g1, g2]
  rw [hdec]
  clear hdec
  repeat' (first | refine Ql ?_ | refine Qm ?_ | refine Qq rfl ?_)
  refine awp_region_any [9, 10] [0, 1, 2, 3, 4, 5, 6, 7, 8] (by exact rfl) ?_
  refine any_lin (fuel := 0) [0, 1, 2, 3, 4, 5, 6, 7, 8, 9, 10] (by exact rfl) (by kernel_rfl) (by kernel_rfl) ?_
  repeat' ((apply Qe rfl rfl rfl rfl; intro H9); (refine Q0 ?_); (exact QY rfl ⟨rfl, rfl⟩))
  apply ds_soN rfl rfl rfl rfl
  · intro H9
    refine st_ixm hx1 rfl rfl rfl rfl rfl rfl rfl (by first | rfl | omega) rfl ?_
    first | exact nxs rfl ⟨rfl, rfl⟩ | exact nx0 ⟨rfl, rfl⟩
  repeat' ((apply Qe rfl rfl rfl rfl; intro H9); (first | refine Q0 ?_ | refine Q3 rfl rfl rfl ?_ | refine QG rfl rfl rfl rfl ?_); (exact QY rfl ⟨rfl, rfl⟩))
  apply ds_soN rfl rfl rfl rfl
  · intro H9
    refine st_sls (l := 8) (h := 12) (ys := (b.drop 8).take 4) (bnd_some rfl rfl) (bnd_some rfl rfl) (by omega) (by omega) (by rw [List.drop_take]) rfl rfl rfl rfl rfl ?_
    exact nx0 ⟨rfl, rfl⟩
  generalize (b.drop 8).take 4 = b8 at *
  skip
  apply ds_soN rfl rfl rfl rfl
  · intro H9
    refine st_call (fun _ => rfl) rfl ?_
    refine ACalls.mono (acalls_pure (E := E0 X) (fun X => q8 X) (by simp [IdsLtL, IdsLt]) _) ?_
    rintro r H' ⟨rfl, rfl⟩
    first | exact nxs rfl ⟨rfl, rfl⟩ | exact nx0 ⟨rfl, rfl⟩
  repeat' (first | ((first | refine Qc rfl rfl rfl ?_ | (apply Qe rfl rfl rfl rfl; intro H9)); (first | refine QG rfl rfl rfl rfl ?_ | refine QJ rfl rfl ?_ | refine QP rfl rfl rfl rfl rfl rfl ?_); (first | exact QY rfl ⟨rfl, rfl⟩ | refine QX rfl rfl ?_)) | (refine Qf rfl rfl rfl ?_; refine QS rfl rfl rfl rfl rfl rfl rfl ?_; (refine QX rfl rfl ?_)) | refine Qk ?_ | refine Qw (by kernel_rfl) ?_)
  rw [wx1, wrapI s8]
  repeat' (refine Ql ?_)
  refine awp_region_auto2 [] [] (by exact rfl) (by kernel_rfl) ?_
  repeat' ((apply Qd rfl rfl rfl rfl); (refine Q0 ?_); (exact QX rfl rfl ⟨rfl, rfl⟩))
  apply ds rfl rfl rfl rfl
  · refine st_ixm hx2 rfl rfl rfl rfl rfl rfl rfl (by first | rfl | omega) rfl ?_
    first | exact nx rfl rfl ⟨rfl, rfl⟩ | exact nx0 ⟨rfl, rfl⟩
  repeat' ((apply Qd rfl rfl rfl rfl); (first | refine Q0 ?_ | refine Q3 rfl rfl rfl ?_ | refine QG rfl rfl rfl rfl ?_); (exact QX rfl rfl ⟨rfl, rfl⟩))
  apply ds rfl rfl rfl rfl
  · refine st_sls (l := 4) (h := 8) (ys := (b.drop 4).take 4) (bnd_some rfl rfl) (bnd_some rfl rfl) (by omega) (by omega) (by rw [List.drop_take]) rfl rfl rfl rfl rfl ?_
    first | exact nx rfl rfl ⟨rfl, rfl⟩ | exact nx0 ⟨rfl, rfl⟩
  generalize (b.drop 4).take 4 = b4 at *
  skip
  apply ds rfl rfl rfl rfl
  · refine st_call (fun _ => rfl) rfl ?_
    refine ACalls.mono (acalls_pure (E := E0 X) (fun X => q4 X) (by simp [IdsLtL, IdsLt]) _) ?_
    rintro r H' ⟨rfl, rfl⟩
    first
    | exact nx rfl rfl ⟨rfl, rfl⟩
    | exact nx0 ⟨rfl, rfl⟩
  repeat' (first | ((first | refine Qa rfl ?_ | apply Qd rfl rfl rfl rfl); (first | refine Q0 ?_ | refine Q1 ?_ | refine Q2 rfl ?_ | refine QG rfl rfl rfl rfl ?_); (first | exact QX rfl rfl ⟨rfl, rfl⟩ | refine QX rfl rfl ?_)) | refine Qh ?_ | refine Qk ?_ | refine Ql ?_ | refine Qm ?_ | refine Qo rfl ?_ | refine Qq rfl ?_)
  rw [wx2, wrapI s4]
  skip
  have hkl : x2.toNat ≤ 255 := by omega
  generalize numN b4 = vl at *
  generalize numN b8 = ex at *
  generalize x1.toNat = kd at *
  generalize x2.toNat = kl at *
  have w1 : IntKind.i64.wrap (16 + (kl : Int)) = ((16 + kl : Nat) : Int) := wrap_eq (by omega) (by omega) (by omega)
  have w2 : IntKind.i64.wrap (((16 + kl : Nat) : Int) + (vl : Int)) = ((16 + kl + vl : Nat) : Int) := wrap_eq (by omega) (by omega) (by omega)
  skip
  by_cases h3 : 65536 < vl
  · rw [decide_eq_true (show (65536 : Int) < (vl : Int) by omega)]
    have e : decG 1 seq off b kd kl vl ex = none := if_pos (.inl h3)
    rw [e]
    repeat' (first | ((refine Qa rfl ?_); (first | refine Q1 ?_ | refine Q5 rfl ?_ | refine QP rfl rfl rfl rfl rfl rfl ?_); (refine QX rfl rfl ?_)) | (refine Qb rfl ?_; try (refine QS rfl rfl rfl rfl rfl rfl rfl ?_; (refine QX rfl rfl ?_))) | refine Qh ?_ | refine Qi rfl ?_ | refine Ql ?_ | refine Qo rfl ?_ | refine Qp rfl ?_ | refine Qs ?_)
    refine awp_ret ?_
    exact ⟨_, rfl, rfl⟩
  rw [decide_eq_false (show ¬ (65536 : Int) < (vl : Int) by omega)]
  repeat' (first | ((refine Qa rfl ?_); (first | refine Q0 ?_ | refine Q2 rfl ?_ | refine Q5 rfl ?_ | refine Q7 rfl rfl rfl ?_); (refine QX rfl rfl ?_)) | refine Qh ?_ | refine Qs ?_)
  rw [w1, w2]
  by_cases h4 : b.length < 16 + kl + vl
  · rw [decide_eq_true (show ((b.map u8A).length : Int) < ((16 + kl + vl : Nat) : Int) by omega)]
    have e : decG 1 seq off b kd kl vl ex = none := if_pos (.inr h4)
    rw [e]
    repeat' (first | ((refine Qa rfl ?_); (first | refine Q1 ?_ | refine QP rfl rfl rfl rfl rfl rfl ?_); (refine QX rfl rfl ?_)) | (refine Qb rfl ?_; try (refine QS rfl rfl rfl rfl rfl rfl rfl ?_; (refine QX rfl rfl ?_))) | refine Qh ?_ | refine Ql ?_ | refine Qo rfl ?_ | refine Qp rfl ?_ | refine Qs ?_)
    refine awp_ret ?_
    exact ⟨_, rfl, rfl⟩
  rw [decide_eq_false (show ¬ ((b.map u8A).length : Int) < ((16 + kl + vl : Nat) : Int) by omega)]
  have e : decG 1 seq off b kd kl vl ex = if chkR 1 ⟨(kd : Int), (b.drop 16).take kl, (b.drop (16 + kl)).take vl, (ex : Int)⟩ = 0 ∧ encR 1 seq off ⟨(kd : Int), (b.drop 16).take kl, (b.drop (16 + kl)).take vl, (ex : Int)⟩ = b.take (16 + kl + vl)
    then some ⟨(kd : Int), (b.drop 16).take kl, (b.drop (16 + kl)).take vl, (ex : Int)⟩ else none := if_neg (by omega)
  rw [e]
  clear e
  have hk1 : ((b.drop 16).take kl).length = kl := by simp; omega
  have hv1 : ((b.drop (16 + kl)).take vl).length = vl := by simp; omega
  repeat' (first | ((refine Qa rfl ?_); (first | refine Q0 ?_ | refine Q2 rfl ?_); (refine QX rfl rfl ?_)) | refine Qa rfl ?_ | refine Ql ?_ | refine Qm ?_ | refine Qo rfl ?_ | refine Qq rfl ?_)
  rw [w1]
  refine st_sls (l := 16) (h := 16 + kl) (ys := (b.drop 16).take kl) (bnd_some rfl rfl) (bnd_some rfl rfl) (by omega) (by omega) (by rw [List.drop_take]; congr 1; omega) rfl rfl rfl rfl rfl ?_
  first | refine nx rfl rfl ?_ | refine nx0 ?_
  have hlen : lenR ⟨(kd : Int), (b.drop 16).take kl, (b.drop (16 + kl)).take vl, (ex : Int)⟩ = 16 + kl + vl := by simp only [lenR, hk1, hv1]
  generalize (b.drop 16).take kl = key at *
  repeat' (refine Qa rfl ?_)
  refine st_app (oid := none) (es := []) (out := key.map u8A) (n := key.length) (rfl) (rfl) (oneEs_u8 _) (rfl) (by simp) (by show _ ≤ 9223372036854775807; omega) (by show _ * 1 ≤ _; omega) rfl rfl rfl rfl rfl rfl rfl rfl ?_
  first | refine nx rfl rfl ?_ | refine nx0 ?_
  repeat' (first | ((refine Qa rfl ?_); (refine Q4 rfl rfl rfl rfl rfl ?_); (refine QX rfl rfl ?_)) | (refine Qb rfl ?_; try (refine QS rfl rfl rfl rfl rfl rfl rfl ?_; (refine QX rfl rfl ?_))) | refine Qh ?_)
  refine then_i ?_
  repeat' (first | ((refine Qa rfl ?_); (first | refine Q0 ?_ | refine Q2 rfl ?_); (refine QX rfl rfl ?_)) | refine Qa rfl ?_ | refine Ql ?_ | refine Qo rfl ?_)
  rw [w1, w2]
  refine st_sls (l := 16 + kl) (h := 16 + kl + vl) (ys := (b.drop (16 + kl)).take vl) (bnd_some rfl rfl) (bnd_some rfl rfl) (by omega) (by omega) (by rw [List.drop_take]; congr 1; omega) rfl rfl rfl rfl rfl ?_
  first | refine nx rfl rfl ?_ | refine nx0 ?_
  generalize (b.drop (16 + kl)).take vl = val at *
  repeat' (refine Qa rfl ?_)
  refine st_app (oid := none) (es := []) (out := val.map u8A) (n := val.length) (rfl) (rfl) (oneEs_u8 _) (rfl) (by simp) (by show _ ≤ 9223372036854775807; omega) (by show _ * 1 ≤ _; omega) rfl rfl rfl rfl rfl rfl rfl rfl ?_
  first | refine nx rfl rfl ?_ | refine nx0 ?_
  repeat' (first | ((refine Qa rfl ?_); (refine Q4 rfl rfl rfl rfl rfl ?_); (refine QX rfl rfl ?_)) | (refine Qb rfl ?_; try (refine QS rfl rfl rfl rfl rfl rfl rfl ?_; (refine QX rfl rfl ?_))) | refine Qh ?_)
  refine then_i ?_
  refine awp_pre (Imp.trans (imp_freezeH (id := 3) (k := 1) (es := val.map u8A) (e := 5) rfl rfl rfl) (Imp.trans (imp_freezeH (id := 2) (k := 1) (es := key.map u8A) (e := 5) rfl rfl rfl) (imp_cutk 2 (Nat.zero_le _) (hok_r3 kd ex key val) ?_ (by simp) (sl' := [(0, .int .i64 1), (1, .int .i64 (seq : Int)), (2, .int .i64 (off : Int)), (3, .sl 1 (b.map u8A)), (8, .ptr 0 0), (11, .ptr 1 0)]) ?_))) ?_
  · simp [frzO, frz, zR, List.take_of_length_le]
  · repeat' (first | exact fa_nil | refine fa_cons ⟨?_, ?_⟩ ?_)
    all_goals (try first | exact rfl | exact trivial | (simp [IdsLt]; done) | (simp [get_cons]; done) | (simp [get_cons, *]; done) | (refine congrArg (AV.int .i64) (wrap_eq ?_ ?_ ?_) <;> (first | omega | (simp; omega))))
  have hck := fun X => rcheck_r X 1 ⟨(kd : Int), key, val, (ex : Int)⟩
  have hle := fun X => rlength_c X ⟨(kd : Int), key, val, (ex : Int)⟩ (by show key.length ≤ _; omega) (by show val.length ≤ _; omega)
  rw [hlen] at hle
  by_cases hc : chkR 1 ⟨(kd : Int), key, val, (ex : Int)⟩ = 0
  · have hen := fun X => rrenc_c X 1 seq off ⟨(kd : Int), key, val, (ex : Int)⟩ hc hs ho
    have hel := encR_len 1 seq off ⟨(kd : Int), key, val, (ex : Int)⟩
    rw [hc] at hck
    generalize encR 1 seq off ⟨(kd : Int), key, val, (ex : Int)⟩ = eb at *
    repeat' (first | ((refine Qa rfl ?_); (refine Q3 rfl rfl rfl ?_); (refine QX rfl rfl ?_)) | refine Qa rfl ?_ | refine Ql ?_ | refine Qo rfl ?_)
    refine st_call (fun _ => rfl) rfl ?_
    refine ACalls.mono (acalls_pure (E := E0 X) (fun X => hle X) (by simp [IdsLtL]) _) ?_
    rintro r H' ⟨rfl, rfl⟩
    first | refine nx rfl rfl ?_ | refine nx0 ?_
    repeat' (first | ((refine Qa rfl ?_); (refine Q1 ?_); (refine QX rfl rfl ?_)) | refine Qh ?_ | refine Ql ?_)
    refine awp_region_auto2 [] [] (by exact rfl) (by kernel_rfl) ?_
    repeat' ((apply Qd rfl rfl rfl rfl); (first | refine Q0 ?_ | refine Q3 rfl rfl rfl ?_); (exact QX rfl rfl ⟨rfl, rfl⟩))
    apply ds rfl rfl rfl rfl
    · refine st_call (fun _ => rfl) rfl ?_
      refine ACalls.mono (acalls_pure (E := E0 X) (fun X => hck X) (by simp [IdsLtL, IdsLt]) _) ?_
      rintro r H' ⟨rfl, rfl⟩
      first
      | exact nx rfl rfl ⟨rfl, rfl⟩
      | exact nx0 ⟨rfl, rfl⟩
    repeat' ((apply Qd rfl rfl rfl rfl); (first | refine Q0 ?_ | refine Q2 rfl ?_ | refine Q3 rfl rfl rfl ?_); (exact QX rfl rfl ⟨rfl, rfl⟩))
    apply ds rfl rfl rfl rfl
    · refine st_call (fun _ => rfl) rfl ?_
      refine ACalls.mono (acalls_pure (E := E0 X) (fun X => hen X) (by simp [IdsLtL, IdsLt]) _) ?_
      rintro r H' ⟨rfl, rfl⟩
      first
      | exact nx rfl rfl ⟨rfl, rfl⟩
      | exact nx0 ⟨rfl, rfl⟩
    repeat' ((apply Qd rfl rfl rfl rfl); (refine Q0 ?_); (exact QX rfl rfl ⟨rfl, rfl⟩))
    apply ds rfl rfl rfl rfl
    · refine st_sls (l := 0) (h := 16 + kl + vl) (ys := b.take (16 + kl + vl)) (bnd_none) (bnd_some rfl rfl) (by omega) (by omega) (rfl) rfl rfl rfl rfl rfl ?_
      first | exact nx rfl rfl ⟨rfl, rfl⟩ | exact nx0 ⟨rfl, rfl⟩
    generalize b.take (16 + kl + vl) = bt at *
    skip
    apply ds rfl rfl rfl rfl
    · refine st_call (fun _ => rfl) rfl ?_
      refine ACalls.mono (acalls_pure (E := E0 X) (fun X => eqb_c X eb bt (by omega)) (by simp [IdsLtL, IdsLt]) _) ?_
      rintro r H' ⟨rfl, rfl⟩
      first
      | exact nx rfl rfl ⟨rfl, rfl⟩
      | exact nx0 ⟨rfl, rfl⟩
    repeat' (first | ((apply Qd rfl rfl rfl rfl); (first | refine Q5 rfl ?_ | refine QD rfl ?_); (exact QX rfl rfl ⟨rfl, rfl⟩)) | refine Qk ?_ | refine Qs ?_)
    refine awp_cond rfl (fun h9 => ?_) (fun h9 => ?_)
    · have h8 : ¬ eb = bt := by simpa using h9
      rw [if_neg (fun h => h8 h.2)]
      repeat' (first | ((refine Qa rfl ?_); (first | refine Q1 ?_ | refine QP rfl rfl rfl rfl rfl rfl ?_); (refine QX rfl rfl ?_)) | (refine Qb rfl ?_; try (refine QS rfl rfl rfl rfl rfl rfl rfl ?_; (refine QX rfl rfl ?_))) | refine Qh ?_ | refine Ql ?_ | refine Qo rfl ?_ | refine Qs ?_)
      refine awp_ret ?_
      exact ⟨_, rfl, rfl⟩
    · have h8 : eb = bt := by simpa using h9
      rw [if_pos ⟨hc, h8⟩]
      repeat' (first | ((refine Qa rfl ?_); (first | refine Q0 ?_ | refine Q1 ?_ | refine Q3 rfl rfl rfl ?_); (refine QX rfl rfl ?_)) | (refine Qb rfl ?_; try (refine QS rfl rfl rfl rfl rfl rfl rfl ?_; (refine QX rfl rfl ?_))) | refine Qh ?_ | refine Ql ?_ | refine Qm ?_ | refine Qo rfl ?_ | refine Qs ?_)
      refine awp_ret ?_
      refine ⟨_, rfl, ?_⟩
      show _ = AV.tup [recA _, .int .i64 (lenR _ : Int), .bool true]
      rw [hlen]
      rfl
  · rw [if_neg (fun h => hc h.1)]
    generalize chkR 1 ⟨(kd : Int), key, val, (ex : Int)⟩ = e at *
    repeat' (first | ((refine Qa rfl ?_); (refine Q3 rfl rfl rfl ?_); (refine QX rfl rfl ?_)) | refine Qa rfl ?_ | refine Ql ?_ | refine Qo rfl ?_)
    refine st_call (fun _ => rfl) rfl ?_
    refine ACalls.mono (acalls_pure (E := E0 X) (fun X => hle X) (by simp [IdsLtL]) _) ?_
    rintro r H' ⟨rfl, rfl⟩
    first | refine nx rfl rfl ?_ | refine nx0 ?_
    repeat' (first | ((refine Qa rfl ?_); (refine Q1 ?_); (refine QX rfl rfl ?_)) | refine Qh ?_ | refine Ql ?_)
    refine awp_region_auto2 [] [] (by exact rfl) (by kernel_rfl) ?_
    repeat' ((apply Qd rfl rfl rfl rfl); (first | refine Q0 ?_ | refine Q3 rfl rfl rfl ?_); (exact QX rfl rfl ⟨rfl, rfl⟩))
    apply ds rfl rfl rfl rfl
    · refine st_call (fun _ => rfl) rfl ?_
      refine ACalls.mono (acalls_pure (E := E0 X) (fun X => hck X) (by simp [IdsLtL, IdsLt]) _) ?_
      rintro r H' ⟨rfl, rfl⟩
      first
      | exact nx rfl rfl ⟨rfl, rfl⟩
      | exact nx0 ⟨rfl, rfl⟩
    repeat' ((apply Qd rfl rfl rfl rfl); (first | refine Q0 ?_ | refine Q2 rfl ?_); (exact QX rfl rfl ⟨rfl, rfl⟩))
    rw [decide_eq_true hc]
    repeat' (first | ((first | refine Qa rfl ?_ | apply Qd rfl rfl rfl rfl); (first | refine Q1 ?_ | refine Q5 rfl ?_ | refine QP rfl rfl rfl rfl rfl rfl ?_); (first | exact QX rfl rfl ⟨rfl, rfl⟩ | refine QX rfl rfl ?_)) | (refine Qb rfl ?_; try (refine QS rfl rfl rfl rfl rfl rfl rfl ?_; (refine QX rfl rfl ?_))) | refine Qh ?_ | apply Qg rfl rfl | refine Qk ?_ | refine Ql ?_ | refine Qo rfl ?_ | refine Qp rfl ?_ | refine Qs ?_)
    refine awp_ret ?_
    exact ⟨_, rfl, rfl⟩
set_option maxHeartbeats 0 in
set_option maxRecDepth 100000 in
theorem rrdec_c2 (X : Nat → Prop) (seq off : Nat) (b : List UInt8) (hs : seq < 9223372036854775808) (ho : off ≤ 2147483647) (hb : b.length ≤ 1000000) :
    ACalls (E0 X) 128 [.int .i64 2, .int .i64 (seq : Int), .int .i64 (off : Int), .sl 1 (b.map u8A)] [] (fun r H' => r = recO (decR 2 seq off b) ∧ H' = []) := by
  refine ACalls.cut0 ?_ (recO_ids _)
  have hbm : (b.map u8A).length = b.length := List.length_map _
  refine acalls_of Proofs.Tryd.func128 rfl Proofs.Tryd.ntmps128 (by kernel_rfl) rfl ?_
  intro hH hargs
  clear hH hargs
  repeat' (first | ((refine Qa rfl ?_); (first | refine Q0 ?_ | refine Q1 ?_ | refine Q2 rfl ?_ | refine Q5 rfl ?_ | refine QJ rfl rfl ?_); (refine QX rfl rfl ?_)) | refine Qh ?_ | refine Ql ?_ | refine Qo rfl ?_)
  rw [decide_eq_false (show ¬ (seq : Int) < 0 by omega)]
  skip
  rw [decide_eq_false (show ¬ (off : Int) < 0 by omega)]
  skip
  rw [decide_eq_false (show ¬ (2147483647 : Int) < (off : Int) by omega)]
  repeat' (first | ((refine Qa rfl ?_); (first | refine Q0 ?_ | refine Q2 rfl ?_ | refine Q5 rfl ?_ | refine Q7 rfl rfl rfl ?_); (refine QX rfl rfl ?_)) | refine Qh ?_ | refine Qs ?_)
  by_cases h1 : b.length < 16
  · rw [decide_eq_true (show ((b.map u8A).length : Int) < 16 by omega)]
    have e : decR 2 seq off b = none := if_pos h1
    rw [e]
    repeat' (first | ((refine Qa rfl ?_); (first | refine Q1 ?_ | refine QP rfl rfl rfl rfl rfl rfl ?_); (refine QX rfl rfl ?_)) | (refine Qb rfl ?_; try (refine QS rfl rfl rfl rfl rfl rfl rfl ?_; (refine QX rfl rfl ?_))) | refine Qh ?_ | refine Ql ?_ | refine Qo rfl ?_ | refine Qp rfl ?_ | refine Qs ?_)
    refine awp_ret ?_
    exact ⟨_, rfl, rfl⟩
  rw [decide_eq_false (show ¬ ((b.map u8A).length : Int) < 16 by omega)]
  obtain ⟨x1, hx1⟩ : ∃ x, b[1]? = some x := ⟨_, List.getElem?_eq_getElem (by omega)⟩
  obtain ⟨x2, hx2⟩ : ∃ x, b[2]? = some x := ⟨_, List.getElem?_eq_getElem (by omega)⟩
  have g1 := num_get hx1
  have g2 := num_get hx2
  have l1 := x1.toNat_lt
  have l2 := x2.toNat_lt
  have wx1 : IntKind.i64.wrap (x1.toNat : Int) = (x1.toNat : Int) := wrap_in (by omega) (by omega)
  have wx2 : IntKind.i64.wrap (x2.toNat : Int) = (x2.toNat : Int) := wrap_in (by omega) (by omega)
  have q8 := fun X => rnum_c X ((b.drop 8).take 4) (by simp; omega)
  have q4 := fun X => rnum_c X ((b.drop 4).take 4) (by simp; omega)
  have q7 := fun X => rnum_c X ((b.drop 7).take 5) (by simp; omega)
  have q3 := fun X => rnum_c X ((b.drop 3).take 3) (by simp; omega)
  have s8 := num_small (bs := b) (lo := 8) (w := 4) (by decide)
  have s4 := num_small (bs := b) (lo := 4) (w := 4) (by decide)
  have s7 := num_small (bs := b) (lo := 7) (w := 5) (by decide)
  have s3 := num_small (bs := b) (lo := 3) (w := 3) (by decide)
  have hdec : decR 2 seq off b = decG 2 seq off b (x2.toNat / 16) x1.toNat (numN ((b.drop 3).take 3)) (numN ((b.drop 7).take 5)) := by
    unfold decR; rw [if_neg h1, if_neg (by decide), g1, g2]
  rw [hdec]
  clear hdec
  repeat' (first | refine Ql ?_ | refine Qm ?_ | refine Qq rfl ?_)
  refine awp_region_any [9, 10] [0, 1, 2, 3, 4, 5, 6, 7, 8] (by exact rfl) ?_
  refine any_lin (fuel := 0) [0, 1, 2, 3, 4, 5, 6, 7, 8, 9, 10] (by exact rfl) (by kernel_rfl) (by kernel_rfl) ?_
  repeat' ((apply Qe rfl rfl rfl rfl; intro H9); (refine Q0 ?_); (exact QY rfl ⟨rfl, rfl⟩))
  apply ds_soN rfl rfl rfl rfl
  · intro H9
    refine st_ixm hx1 rfl rfl rfl rfl rfl rfl rfl (by first | rfl | omega) rfl ?_
    first | exact nxs rfl ⟨rfl, rfl⟩ | exact nx0 ⟨rfl, rfl⟩
  repeat' ((apply Qe rfl rfl rfl rfl; intro H9); (first | refine Q0 ?_ | refine Q3 rfl rfl rfl ?_ | refine QG rfl rfl rfl rfl ?_); (exact QY rfl ⟨rfl, rfl⟩))
  apply ds_soN rfl rfl rfl rfl
  · intro H9
    refine st_sls (l := 8) (h := 12) (ys := (b.drop 8).take 4) (bnd_some rfl rfl) (bnd_some rfl rfl) (by omega) (by omega) (by rw [List.drop_take]) rfl rfl rfl rfl rfl ?_
    exact nx0 ⟨rfl, rfl⟩
  generalize (b.drop 8).take 4 = b8 at *
  skip
  apply ds_soN rfl rfl rfl rfl
  · intro H9
    refine st_call (fun _ => rfl) rfl ?_
    refine ACalls.mono (acalls_pure (E := E0 X) (fun X => q8 X) (by simp [IdsLtL, IdsLt]) _) ?_
    rintro r H' ⟨rfl, rfl⟩
    first | exact nxs rfl ⟨rfl, rfl⟩ | exact nx0 ⟨rfl, rfl⟩
  repeat' (first | ((first | refine Qc rfl rfl rfl ?_ | (apply Qe rfl rfl rfl rfl; intro H9)); (first | refine QG rfl rfl rfl rfl ?_ | refine QJ rfl rfl ?_ | refine QP rfl rfl rfl rfl rfl rfl ?_); (first | exact QY rfl ⟨rfl, rfl⟩ | refine QX rfl rfl ?_)) | (refine Qf rfl rfl rfl ?_; refine QS rfl rfl rfl rfl rfl rfl rfl ?_; (refine QX rfl rfl ?_)) | refine Qk ?_ | refine Qw (by kernel_rfl) ?_)
  rw [wx1, wrapI s8]
  repeat' (refine Ql ?_)
  refine awp_region_auto2 [] [] (by exact rfl) (by kernel_rfl) ?_
  repeat' ((apply Qd rfl rfl rfl rfl); (refine Q0 ?_); (exact QX rfl rfl ⟨rfl, rfl⟩))
  apply ds rfl rfl rfl rfl
  · refine st_ixm hx2 rfl rfl rfl rfl rfl rfl rfl (by first | rfl | omega) rfl ?_
    first | exact nx rfl rfl ⟨rfl, rfl⟩ | exact nx0 ⟨rfl, rfl⟩
  repeat' ((apply Qd rfl rfl rfl rfl); (first | refine Q0 ?_ | refine Q3 rfl rfl rfl ?_ | refine QG rfl rfl rfl rfl ?_); (exact QX rfl rfl ⟨rfl, rfl⟩))
  apply ds rfl rfl rfl rfl
  · refine st_sls (l := 4) (h := 8) (ys := (b.drop 4).take 4) (bnd_some rfl rfl) (bnd_some rfl rfl) (by omega) (by omega) (by rw [List.drop_take]) rfl rfl rfl rfl rfl ?_
    first | exact nx rfl rfl ⟨rfl, rfl⟩ | exact nx0 ⟨rfl, rfl⟩
  generalize (b.drop 4).take 4 = b4 at *
  skip
  apply ds rfl rfl rfl rfl
  · refine st_call (fun _ => rfl) rfl ?_
    refine ACalls.mono (acalls_pure (E := E0 X) (fun X => q4 X) (by simp [IdsLtL, IdsLt]) _) ?_
    rintro r H' ⟨rfl, rfl⟩
    first
    | exact nx rfl rfl ⟨rfl, rfl⟩
    | exact nx0 ⟨rfl, rfl⟩
  repeat' (first | ((first | refine Qa rfl ?_ | apply Qd rfl rfl rfl rfl); (first | refine Q0 ?_ | refine Q1 ?_ | refine Q2 rfl ?_ | refine QG rfl rfl rfl rfl ?_); (first | exact QX rfl rfl ⟨rfl, rfl⟩ | refine QX rfl rfl ?_)) | refine Qh ?_ | refine Qk ?_ | refine Ql ?_ | refine Qo rfl ?_ | refine Qp rfl ?_)
  rw [wx2, wrapI s4]
  skip
  refine awp_region_any [10] [0, 1, 2, 3, 4, 5, 6, 7, 8, 9] (by exact rfl) ?_
  refine any_lin (fuel := 0) [0, 1, 2, 3, 4, 5, 6, 7, 8, 9, 10] (by exact rfl) (by kernel_rfl) (by kernel_rfl) ?_
  repeat' ((apply Qe rfl rfl rfl rfl; intro H9); (refine Q0 ?_); (exact QY rfl ⟨rfl, rfl⟩))
  apply ds_soN rfl rfl rfl rfl
  · intro H9
    refine st_ixm hx2 rfl rfl rfl rfl rfl rfl rfl (by first | rfl | omega) rfl ?_
    first | exact nxs rfl ⟨rfl, rfl⟩ | exact nx0 ⟨rfl, rfl⟩
  repeat' ((apply Qe rfl rfl rfl rfl; intro H9); (first | refine Q0 ?_ | refine Q3 rfl rfl rfl ?_ | refine QA rfl rfl (by decide) ?_ | refine QG rfl rfl rfl rfl ?_); (exact QY rfl ⟨rfl, rfl⟩))
  apply ds_soN rfl rfl rfl rfl
  · intro H9
    refine st_sls (l := 7) (h := 12) (ys := (b.drop 7).take 5) (bnd_some rfl rfl) (bnd_some rfl rfl) (by omega) (by omega) (by rw [List.drop_take]) rfl rfl rfl rfl rfl ?_
    exact nx0 ⟨rfl, rfl⟩
  generalize (b.drop 7).take 5 = b7 at *
  skip
  apply ds_soN rfl rfl rfl rfl
  · intro H9
    refine st_call (fun _ => rfl) rfl ?_
    refine ACalls.mono (acalls_pure (E := E0 X) (fun X => q7 X) (by simp [IdsLtL, IdsLt]) _) ?_
    rintro r H' ⟨rfl, rfl⟩
    first | exact nxs rfl ⟨rfl, rfl⟩ | exact nx0 ⟨rfl, rfl⟩
  repeat' (first | ((apply Qe rfl rfl rfl rfl; intro H9); (first | refine QG rfl rfl rfl rfl ?_ | refine QP rfl rfl rfl rfl rfl rfl ?_); (exact QY rfl ⟨rfl, rfl⟩)) | (refine Qf rfl rfl rfl ?_; refine QS rfl rfl rfl rfl rfl rfl rfl ?_; (refine QX rfl rfl ?_)) | refine Qk ?_ | refine Qw (by kernel_rfl) ?_)
  rw [wx2, wrapI s7]
  have wq : IntKind.i64.wrap (Int.tdiv (x2.toNat : Int) 16) = ((x2.toNat / 16 : Nat) : Int) := by
    rw [show Int.tdiv (x2.toNat : Int) 16 = ((x2.toNat / 16 : Nat) : Int) from rfl]
    exact wrap_in (by omega) (by omega)
  rw [wq]
  repeat' (refine Qs ?_)
  refine awp_region_auto2 [] [] (by exact rfl) (by kernel_rfl) ?_
  repeat' ((apply Qd rfl rfl rfl rfl); (refine Q0 ?_); (exact QX rfl rfl ⟨rfl, rfl⟩))
  apply ds rfl rfl rfl rfl
  · refine st_ixm hx1 rfl rfl rfl rfl rfl rfl rfl (by first | rfl | omega) rfl ?_
    first | exact nx rfl rfl ⟨rfl, rfl⟩ | exact nx0 ⟨rfl, rfl⟩
  repeat' ((apply Qd rfl rfl rfl rfl); (first | refine Q0 ?_ | refine Q3 rfl rfl rfl ?_ | refine QG rfl rfl rfl rfl ?_); (exact QX rfl rfl ⟨rfl, rfl⟩))
  apply ds rfl rfl rfl rfl
  · refine st_sls (l := 3) (h := 6) (ys := (b.drop 3).take 3) (bnd_some rfl rfl) (bnd_some rfl rfl) (by omega) (by omega) (by rw [List.drop_take]) rfl rfl rfl rfl rfl ?_
    first | exact nx rfl rfl ⟨rfl, rfl⟩ | exact nx0 ⟨rfl, rfl⟩
  generalize (b.drop 3).take 3 = b3 at *
  skip
  apply ds rfl rfl rfl rfl
  · refine st_call (fun _ => rfl) rfl ?_
    refine ACalls.mono (acalls_pure (E := E0 X) (fun X => q3 X) (by simp [IdsLtL, IdsLt]) _) ?_
    rintro r H' ⟨rfl, rfl⟩
    first
    | exact nx rfl rfl ⟨rfl, rfl⟩
    | exact nx0 ⟨rfl, rfl⟩
  repeat' (first | ((first | refine Qa rfl ?_ | apply Qd rfl rfl rfl rfl); (first | refine Q0 ?_ | refine Q1 ?_ | refine Q2 rfl ?_ | refine QG rfl rfl rfl rfl ?_); (first | exact QX rfl rfl ⟨rfl, rfl⟩ | refine QX rfl rfl ?_)) | refine Qk ?_ | refine Ql ?_ | refine Qo rfl ?_)
  rw [wx1, wrapI s3]
  have hkl : x1.toNat ≤ 255 := by omega
  generalize numN b3 = vl at *
  generalize numN b7 = ex at *
  generalize x2.toNat / 16 = kd at *
  generalize x1.toNat = kl at *
  have w1 : IntKind.i64.wrap (16 + (kl : Int)) = ((16 + kl : Nat) : Int) := wrap_eq (by omega) (by omega) (by omega)
  have w2 : IntKind.i64.wrap (((16 + kl : Nat) : Int) + (vl : Int)) = ((16 + kl + vl : Nat) : Int) := wrap_eq (by omega) (by omega) (by omega)
  skip
  by_cases h3 : 65536 < vl
  · rw [decide_eq_true (show (65536 : Int) < (vl : Int) by omega)]
    have e : decG 2 seq off b kd kl vl ex = none := if_pos (.inl h3)
    rw [e]
    repeat' (first | ((refine Qa rfl ?_); (first | refine Q1 ?_ | refine Q5 rfl ?_ | refine QP rfl rfl rfl rfl rfl rfl ?_); (refine QX rfl rfl ?_)) | (refine Qb rfl ?_; try (refine QS rfl rfl rfl rfl rfl rfl rfl ?_; (refine QX rfl rfl ?_))) | refine Qh ?_ | refine Qi rfl ?_ | refine Ql ?_ | refine Qo rfl ?_ | refine Qp rfl ?_ | refine Qs ?_)
    refine awp_ret ?_
    exact ⟨_, rfl, rfl⟩
  rw [decide_eq_false (show ¬ (65536 : Int) < (vl : Int) by omega)]
  repeat' (first | ((refine Qa rfl ?_); (first | refine Q0 ?_ | refine Q2 rfl ?_ | refine Q5 rfl ?_ | refine Q7 rfl rfl rfl ?_); (refine QX rfl rfl ?_)) | refine Qh ?_ | refine Qs ?_)
  rw [w1, w2]
  by_cases h4 : b.length < 16 + kl + vl
  · rw [decide_eq_true (show ((b.map u8A).length : Int) < ((16 + kl + vl : Nat) : Int) by omega)]
    have e : decG 2 seq off b kd kl vl ex = none := if_pos (.inr h4)
    rw [e]
    repeat' (first | ((refine Qa rfl ?_); (first | refine Q1 ?_ | refine QP rfl rfl rfl rfl rfl rfl ?_); (refine QX rfl rfl ?_)) | (refine Qb rfl ?_; try (refine QS rfl rfl rfl rfl rfl rfl rfl ?_; (refine QX rfl rfl ?_))) | refine Qh ?_ | refine Ql ?_ | refine Qo rfl ?_ | refine Qp rfl ?_ | refine Qs ?_)
    refine awp_ret ?_
    exact ⟨_, rfl, rfl⟩
  rw [decide_eq_false (show ¬ ((b.map u8A).length : Int) < ((16 + kl + vl : Nat) : Int) by omega)]
  have e : decG 2 seq off b kd kl vl ex = if chkR 2 ⟨(kd : Int), (b.drop 16).take kl, (b.drop (16 + kl)).take vl, (ex : Int)⟩ = 0 ∧ encR 2 seq off ⟨(kd : Int), (b.drop 16).take kl, (b.drop (16 + kl)).take vl, (ex : Int)⟩ = b.take (16 + kl + vl)
    then some ⟨(kd : Int), (b.drop 16).take kl, (b.drop (16 + kl)).take vl, (ex : Int)⟩ else none := if_neg (by omega)
  rw [e]
  clear e
  have hk1 : ((b.drop 16).take kl).length = kl := by simp; omega
  have hv1 : ((b.drop (16 + kl)).take vl).length = vl := by simp; omega
  repeat' (first | ((refine Qa rfl ?_); (first | refine Q0 ?_ | refine Q2 rfl ?_); (refine QX rfl rfl ?_)) | refine Qa rfl ?_ | refine Ql ?_ | refine Qm ?_ | refine Qo rfl ?_ | refine Qq rfl ?_)
  rw [w1]
  refine st_sls (l := 16) (h := 16 + kl) (ys := (b.drop 16).take kl) (bnd_some rfl rfl) (bnd_some rfl rfl) (by omega) (by omega) (by rw [List.drop_take]; congr 1; omega) rfl rfl rfl rfl rfl ?_
  first | refine nx rfl rfl ?_ | refine nx0 ?_
  have hlen : lenR ⟨(kd : Int), (b.drop 16).take kl, (b.drop (16 + kl)).take vl, (ex : Int)⟩ = 16 + kl + vl := by simp only [lenR, hk1, hv1]
  generalize (b.drop 16).take kl = key at *
  repeat' (refine Qa rfl ?_)
  refine st_app (oid := none) (es := []) (out := key.map u8A) (n := key.length) (rfl) (rfl) (oneEs_u8 _) (rfl) (by simp) (by show _ ≤ 9223372036854775807; omega) (by show _ * 1 ≤ _; omega) rfl rfl rfl rfl rfl rfl rfl rfl ?_
  first | refine nx rfl rfl ?_ | refine nx0 ?_
  repeat' (first | ((refine Qa rfl ?_); (refine Q4 rfl rfl rfl rfl rfl ?_); (refine QX rfl rfl ?_)) | (refine Qb rfl ?_; try (refine QS rfl rfl rfl rfl rfl rfl rfl ?_; (refine QX rfl rfl ?_))) | refine Qh ?_)
  refine then_i ?_
  repeat' (first | ((refine Qa rfl ?_); (first | refine Q0 ?_ | refine Q2 rfl ?_); (refine QX rfl rfl ?_)) | refine Qa rfl ?_ | refine Ql ?_ | refine Qo rfl ?_)
  rw [w1, w2]
  refine st_sls (l := 16 + kl) (h := 16 + kl + vl) (ys := (b.drop (16 + kl)).take vl) (bnd_some rfl rfl) (bnd_some rfl rfl) (by omega) (by omega) (by rw [List.drop_take]; congr 1; omega) rfl rfl rfl rfl rfl ?_
  first | refine nx rfl rfl ?_ | refine nx0 ?_
  generalize (b.drop (16 + kl)).take vl = val at *
  repeat' (refine Qa rfl ?_)
  refine st_app (oid := none) (es := []) (out := val.map u8A) (n := val.length) (rfl) (rfl) (oneEs_u8 _) (rfl) (by simp) (by show _ ≤ 9223372036854775807; omega) (by show _ * 1 ≤ _; omega) rfl rfl rfl rfl rfl rfl rfl rfl ?_
  first | refine nx rfl rfl ?_ | refine nx0 ?_
  repeat' (first | ((refine Qa rfl ?_); (refine Q4 rfl rfl rfl rfl rfl ?_); (refine QX rfl rfl ?_)) | (refine Qb rfl ?_; try (refine QS rfl rfl rfl rfl rfl rfl rfl ?_; (refine QX rfl rfl ?_))) | refine Qh ?_)
  refine then_i ?_
  refine awp_pre (Imp.trans (imp_freezeH (id := 3) (k := 1) (es := val.map u8A) (e := 5) rfl rfl rfl) (Imp.trans (imp_freezeH (id := 2) (k := 1) (es := key.map u8A) (e := 5) rfl rfl rfl) (imp_cutk 2 (Nat.zero_le _) (hok_r3 kd ex key val) ?_ (by simp) (sl' := [(0, .int .i64 2), (1, .int .i64 (seq : Int)), (2, .int .i64 (off : Int)), (3, .sl 1 (b.map u8A)), (8, .ptr 0 0), (11, .ptr 1 0)]) ?_))) ?_
  · simp [frzO, frz, zR, List.take_of_length_le]
  · repeat' (first | exact fa_nil | refine fa_cons ⟨?_, ?_⟩ ?_)
    all_goals (try first | exact rfl | exact trivial | (simp [IdsLt]; done) | (simp [get_cons]; done) | (simp [get_cons, *]; done) | (refine congrArg (AV.int .i64) (wrap_eq ?_ ?_ ?_) <;> (first | omega | (simp; omega))))
  have hck := fun X => rcheck_r X 2 ⟨(kd : Int), key, val, (ex : Int)⟩
  have hle := fun X => rlength_c X ⟨(kd : Int), key, val, (ex : Int)⟩ (by show key.length ≤ _; omega) (by show val.length ≤ _; omega)
  rw [hlen] at hle
  by_cases hc : chkR 2 ⟨(kd : Int), key, val, (ex : Int)⟩ = 0
  · have hen := fun X => rrenc_c X 2 seq off ⟨(kd : Int), key, val, (ex : Int)⟩ hc hs ho
    have hel := encR_len 2 seq off ⟨(kd : Int), key, val, (ex : Int)⟩
    rw [hc] at hck
    generalize encR 2 seq off ⟨(kd : Int), key, val, (ex : Int)⟩ = eb at *
    repeat' (first | ((refine Qa rfl ?_); (refine Q3 rfl rfl rfl ?_); (refine QX rfl rfl ?_)) | refine Qa rfl ?_ | refine Ql ?_ | refine Qo rfl ?_)
    refine st_call (fun _ => rfl) rfl ?_
    refine ACalls.mono (acalls_pure (E := E0 X) (fun X => hle X) (by simp [IdsLtL]) _) ?_
    rintro r H' ⟨rfl, rfl⟩
    first | refine nx rfl rfl ?_ | refine nx0 ?_
    repeat' (first | ((refine Qa rfl ?_); (refine Q1 ?_); (refine QX rfl rfl ?_)) | refine Qh ?_ | refine Ql ?_)
    refine awp_region_auto2 [] [] (by exact rfl) (by kernel_rfl) ?_
    repeat' ((apply Qd rfl rfl rfl rfl); (first | refine Q0 ?_ | refine Q3 rfl rfl rfl ?_); (exact QX rfl rfl ⟨rfl, rfl⟩))
    apply ds rfl rfl rfl rfl
    · refine st_call (fun _ => rfl) rfl ?_
      refine ACalls.mono (acalls_pure (E := E0 X) (fun X => hck X) (by simp [IdsLtL, IdsLt]) _) ?_
      rintro r H' ⟨rfl, rfl⟩
      first
      | exact nx rfl rfl ⟨rfl, rfl⟩
      | exact nx0 ⟨rfl, rfl⟩
    repeat' ((apply Qd rfl rfl rfl rfl); (first | refine Q0 ?_ | refine Q2 rfl ?_ | refine Q3 rfl rfl rfl ?_); (exact QX rfl rfl ⟨rfl, rfl⟩))
    apply ds rfl rfl rfl rfl
    · refine st_call (fun _ => rfl) rfl ?_
      refine ACalls.mono (acalls_pure (E := E0 X) (fun X => hen X) (by simp [IdsLtL, IdsLt]) _) ?_
      rintro r H' ⟨rfl, rfl⟩
      first
      | exact nx rfl rfl ⟨rfl, rfl⟩
      | exact nx0 ⟨rfl, rfl⟩
    repeat' ((apply Qd rfl rfl rfl rfl); (refine Q0 ?_); (exact QX rfl rfl ⟨rfl, rfl⟩))
    apply ds rfl rfl rfl rfl
    · refine st_sls (l := 0) (h := 16 + kl + vl) (ys := b.take (16 + kl + vl)) (bnd_none) (bnd_some rfl rfl) (by omega) (by omega) (rfl) rfl rfl rfl rfl rfl ?_
      first | exact nx rfl rfl ⟨rfl, rfl⟩ | exact nx0 ⟨rfl, rfl⟩
    generalize b.take (16 + kl + vl) = bt at *
    skip
    apply ds rfl rfl rfl rfl
    · refine st_call (fun _ => rfl) rfl ?_
      refine ACalls.mono (acalls_pure (E := E0 X) (fun X => eqb_c X eb bt (by omega)) (by simp [IdsLtL, IdsLt]) _) ?_
      rintro r H' ⟨rfl, rfl⟩
      first
      | exact nx rfl rfl ⟨rfl, rfl⟩
      | exact nx0 ⟨rfl, rfl⟩
    repeat' (first | ((apply Qd rfl rfl rfl rfl); (first | refine Q5 rfl ?_ | refine QD rfl ?_); (exact QX rfl rfl ⟨rfl, rfl⟩)) | refine Qk ?_ | refine Qs ?_)
    refine awp_cond rfl (fun h9 => ?_) (fun h9 => ?_)
    · have h8 : ¬ eb = bt := by simpa using h9
      rw [if_neg (fun h => h8 h.2)]
      repeat' (first | ((refine Qa rfl ?_); (first | refine Q1 ?_ | refine QP rfl rfl rfl rfl rfl rfl ?_); (refine QX rfl rfl ?_)) | (refine Qb rfl ?_; try (refine QS rfl rfl rfl rfl rfl rfl rfl ?_; (refine QX rfl rfl ?_))) | refine Qh ?_ | refine Ql ?_ | refine Qo rfl ?_ | refine Qs ?_)
      refine awp_ret ?_
      exact ⟨_, rfl, rfl⟩
    · have h8 : eb = bt := by simpa using h9
      rw [if_pos ⟨hc, h8⟩]
      repeat' (first | ((refine Qa rfl ?_); (first | refine Q0 ?_ | refine Q1 ?_ | refine Q3 rfl rfl rfl ?_); (refine QX rfl rfl ?_)) | (refine Qb rfl ?_; try (refine QS rfl rfl rfl rfl rfl rfl rfl ?_; (refine QX rfl rfl ?_))) | refine Qh ?_ | refine Ql ?_ | refine Qm ?_ | refine Qo rfl ?_ | refine Qs ?_)
      refine awp_ret ?_
      refine ⟨_, rfl, ?_⟩
      show _ = AV.tup [recA _, .int .i64 (lenR _ : Int), .bool true]
      rw [hlen]
      rfl
  · rw [if_neg (fun h => hc h.1)]
    generalize chkR 2 ⟨(kd : Int), key, val, (ex : Int)⟩ = e at *
    repeat' (first | ((refine Qa rfl ?_); (refine Q3 rfl rfl rfl ?_); (refine QX rfl rfl ?_)) | refine Qa rfl ?_ | refine Ql ?_ | refine Qo rfl ?_)
    refine st_call (fun _ => rfl) rfl ?_
    refine ACalls.mono (acalls_pure (E := E0 X) (fun X => hle X) (by simp [IdsLtL]) _) ?_
    rintro r H' ⟨rfl, rfl⟩
    first | refine nx rfl rfl ?_ | refine nx0 ?_
    repeat' (first | ((refine Qa rfl ?_); (refine Q1 ?_); (refine QX rfl rfl ?_)) | refine Qh ?_ | refine Ql ?_)
    refine awp_region_auto2 [] [] (by exact rfl) (by kernel_rfl) ?_
    repeat' ((apply Qd rfl rfl rfl rfl); (first | refine Q0 ?_ | refine Q3 rfl rfl rfl ?_); (exact QX rfl rfl ⟨rfl, rfl⟩))
    apply ds rfl rfl rfl rfl
    · refine st_call (fun _ => rfl) rfl ?_
      refine ACalls.mono (acalls_pure (E := E0 X) (fun X => hck X) (by simp [IdsLtL, IdsLt]) _) ?_
      rintro r H' ⟨rfl, rfl⟩
      first
      | exact nx rfl rfl ⟨rfl, rfl⟩
      | exact nx0 ⟨rfl, rfl⟩
    repeat' ((apply Qd rfl rfl rfl rfl); (first | refine Q0 ?_ | refine Q2 rfl ?_); (exact QX rfl rfl ⟨rfl, rfl⟩))
    rw [decide_eq_true hc]
    repeat' (first | ((first | refine Qa rfl ?_ | apply Qd rfl rfl rfl rfl); (first | refine Q1 ?_ | refine Q5 rfl ?_ | refine QP rfl rfl rfl rfl rfl rfl ?_); (first | exact QX rfl rfl ⟨rfl, rfl⟩ | refine QX rfl rfl ?_)) | (refine Qb rfl ?_; try (refine QS rfl rfl rfl rfl rfl rfl rfl ?_; (refine QX rfl rfl ?_))) | refine Qh ?_ | apply Qg rfl rfl | refine Qk ?_ | refine Ql ?_ | refine Qo rfl ?_ | refine Qp rfl ?_ | refine Qs ?_)
    refine awp_ret ?_
    exact ⟨_, rfl, rfl⟩
end Go.Abs
namespace Go.Abs
theorem strF_len (v : Dv) (seq : Nat) : ∀ n s, (strF v seq n s).length ≤ 59 * n
  | 0, _ => by simp [strF]
  | n + 1, s => by
    unfold strF
    split
    · simp
    split
    · simp
    · rename_i p hp
      have := (decF_len hp).1
      have := strF_len v seq n (s + 1)
      rw [List.length_append]
      omega
theorem oneEs_fo (l : List (Nat × Rec)) : OneEs (l.map foA) := fun y hy => by
  obtain ⟨b, _, rfl⟩ := List.mem_map.1 hy; exact ⟨rfl, rfl⟩
theorem pad_wrap {off : Nat} (h : off ≤ 2000000) : IntKind.i64.wrap ((off : Int) + IntKind.i64.wrap (59 - Int.tmod (off : Int) 59)) = (((off / 59 + 1) * 59 : Nat) : Int) := by
  have hr : Int.tmod (off : Int) 59 = ((off % 59 : Nat) : Int) := rfl
  have hs : IntKind.i64.wrap (59 - ((off % 59 : Nat) : Int)) = ((59 - off % 59 : Nat) : Int) := wrap_eq (by omega) (by omega) (by omega)
  rw [hr, hs]
  exact wrap_eq (by omega) (by omega) (by omega)
theorem recsF_off {ver : Int} {seq : Nat} {b : List UInt8} (n : Nat) {off : Nat} (h : off < b.length) : recsF ver seq b (n + 1) off = if b[off]? = some 0 then recsF ver seq b n ((off / 59 + 1) * 59) else match decR ver seq off (b.drop off) with
    | none => []
    | some r => (off, r) :: recsF ver seq b n (off + lenR r) := by
  have h' : ¬ b.length ≤ off := by omega
  conv => lhs; unfold recsF
  rw [if_neg h']
  split
  · rfl
  · cases decR ver seq off (b.drop off) <;> rfl
theorem recsF_end {ver : Int} {seq : Nat} {b : List UInt8} (n : Nat) {off : Nat} (h : b.length ≤ off) : recsF ver seq b n off = [] := by
  cases n with
  | zero => rfl
  | succ n => exact if_pos h
theorem hok_fo (v : Dv) (l : List (Nat × Rec)) : HOk 4 (devH v ++ [some (.arr (l.map foA) 88)]) := fun j o ho => by
  match j, ho with
  | 0, ho => cases ho; exact ⟨by simp [IdsLt], by simp [IdsLt], trivial, trivial, trivial, trivial⟩
  | 1, ho => cases ho; exact idsL_map fun _ => u8A_ids
  | 2, ho => cases ho; exact ⟨by rw [List.map_map]; exact idsL_map fun _ => trivial, by rw [List.map_map]; exact idsL_map fun p => (idsL_map (f := u8A) fun _ => u8A_ids : IdsLtL _ (p.2.map u8A))⟩
  | 3, ho => cases ho; exact idsL_map fun _ => foA_ids
attribute [local irreducible] AStep aops AWp Nx awM
set_option maxHeartbeats 0 in
set_option maxRecDepth 100000 in
theorem sregion_c (X : Nat → Prop) (v : Dv) (hv : v.Inv) (l : La) (slot : Int) (seq : Nat) (h : slotOk l slot) (hs1 : 1 ≤ seq) (hs2 : seq ≤ 281474976710655) :
    ACalls (E0 X) 45 [.ptr 0 0, laA l, .int .i64 slot, .int .i64 (seq : Int)] (devH v) (fun r H' => r = .sl 6 ((recs l.ver seq (strF v seq (l.rs.toNat - 1) ((74 + slot * l.rs).toNat + 1))).map foA) ∧ H' = devH v) := by
  refine ACalls.frzD (e := 88) 6 ?_ rfl rfl (idsL_map fun _ => foA_ids)
  have hcap := fun X => capacity_c X l
  have hst := stream_c X v hv l slot seq h hs1 hs2
  have hsl := strF_len v seq (l.rs.toNat - 1) ((74 + slot * l.rs).toNat + 1)
  have hrs := form_rs h.1
  have hbl : (strF v seq (l.rs.toNat - 1) ((74 + slot * l.rs).toNat + 1)).length ≤ 130000 := by omega
  generalize strF v seq (l.rs.toNat - 1) ((74 + slot * l.rs).toNat + 1) = b at *
  clear hsl
  have hbm : (b.map u8A).length = b.length := List.length_map _
  generalize htot : recs l.ver seq b = tot
  show ACalls (E0 X) 45 [.ptr 0 0, .agg [.int .i64 l.id, .int .i64 l.ver, .int .i64 l.rs, .int .i64 l.regs], .int .i64 slot, .int .i64 (seq : Int)] (devH v) _
  refine acalls_of Proofs.Tryd.func45 rfl Proofs.Tryd.ntmps45 (by kernel_rfl) rfl ?_
  intro hH hargs
  clear hH hargs
  repeat' (first | ((refine Qa rfl ?_); (first | refine Q1 ?_ | refine QK rfl ?_); (refine QX rfl rfl ?_)) | refine Qh ?_ | refine Ql ?_ | refine Qo rfl ?_)
  refine awp_pre (Imp.trans (imp_freezeP (id := 3) (cs := [.int .i64 l.id, .int .i64 l.ver, .int .i64 l.rs, .int .i64 l.regs]) rfl) (imp_cutk 3 (Nat.le_refl _) (hok_dev v) rfl (by simp) (sl' := [(0, .ptr 0 0), (2, .int .i64 slot), (3, .int .i64 (seq : Int)), (5, .fp [.int .i64 l.id, .int .i64 l.ver, .int .i64 l.rs, .int .i64 l.regs]), (8, .nils)]) ?_)) ?_
  · repeat' (first | exact fa_nil | refine fa_cons ⟨?_, ?_⟩ ?_)
    all_goals (try first | exact rfl | exact trivial | (simp [IdsLt, IdsLtL]; done) | (simp [get_cons]; done) | (simp [get_cons, *]; done) | (refine congrArg (AV.int .i64) (wrap_eq ?_ ?_ ?_) <;> (first | omega | (simp; omega))))
  refine awp_region_auto2 [] [] (by exact rfl) (by kernel_rfl) ?_
  repeat' ((apply Qd rfl rfl rfl rfl); (first | refine Q0 ?_ | refine Q3 rfl rfl rfl ?_); (exact QX rfl rfl ⟨rfl, rfl⟩))
  apply ds rfl rfl rfl rfl
  · refine st_call (fun _ => rfl) rfl ?_
    refine ACalls.mono (acalls_pure (E := E0 X) hcap (by simp [IdsLtL]) _) ?_
    rintro r H' ⟨rfl, rfl⟩
    first
    | exact nx rfl rfl ⟨rfl, rfl⟩
    | exact nx0 ⟨rfl, rfl⟩
  skip
  apply ds rfl rfl rfl rfl
  · refine st_call (fun _ => rfl) rfl ?_
    refine ACalls.mono (hst) ?_
    rintro r H' ⟨rfl, rfl⟩
    first
    | exact nx rfl rfl ⟨rfl, rfl⟩
    | exact nx0 ⟨rfl, rfl⟩
  repeat' (first | ((first | refine Qa rfl ?_ | apply Qd rfl rfl rfl rfl); (first | refine Q0 ?_ | refine Q1 ?_ | refine QC rfl rfl ?_); (first | exact QX rfl rfl ⟨rfl, rfl⟩ | refine QX rfl rfl ?_)) | refine Qh ?_ | refine Qk ?_ | refine Ql ?_ | refine Qn ?_ | refine Qo rfl ?_)
  refine awp_loop2 (fun p : Nat × Nat × List (Nat × Rec) => ⟨[(0, .ptr 0 0), (3, .int .i64 (seq : Int)), (5, .fp [.int .i64 l.id, .int .i64 l.ver, .int .i64 l.rs, .int .i64 l.regs]), (9, .sl 1 (b.map u8A)), (11, .own 3 0 p.2.2.length), (12, .int .i64 (p.2.1 : Int))], devH v ++ [some (.arr (p.2.2.map foA) 88)]⟩)
    (fun p => p.2.1 ≤ b.length + 59 ∧ p.2.2.length ≤ p.2.1 ∧ b.length ≤ p.1 + p.2.1 ∧ p.2.2 ++ recsF l.ver seq b p.1 p.2.1 = tot) (fun p => p.1) (b.length, 0, []) ⟨Nat.zero_le _, Nat.le_refl _, by show b.length ≤ b.length + 0; omega, htot⟩ ?_ ?_
  · refine Imp.trans (imp_nil 11 88 rfl) (imp_cutk 4 (by simp [devH]) (hok_fo v []) rfl (by simp) ?_)
    repeat' (first | exact fa_nil | refine fa_cons ⟨?_, ?_⟩ ?_)
    all_goals (try first | exact rfl | exact trivial | (simp [IdsLt, IdsLtL]; done) | (simp [get_cons]; done) | (simp [get_cons, *]; done) | (refine congrArg (AV.int .i64) (wrap_eq ?_ ?_ ?_) <;> (first | omega | (simp; omega))))
  rintro ⟨n, off, out⟩ ⟨ho0, hl0, hf0, ht0⟩
  have ho : off ≤ b.length + 59 := ho0
  have hol : out.length ≤ off := hl0
  have hfu : b.length ≤ n + off := hf0
  have ht : out ++ recsF l.ver seq b n off = tot := ht0
  clear ho0 hl0 hf0 ht0
  show AWp _ _ _ _ _ ⟨[(0, .ptr 0 0), (3, .int .i64 (seq : Int)), (5, .fp [.int .i64 l.id, .int .i64 l.ver, .int .i64 l.rs, .int .i64 l.regs]), (9, .sl 1 (b.map u8A)), (11, .own 3 0 out.length), (12, .int .i64 (off : Int))], devH v ++ [some (.arr (out.map foA) 88)]⟩
  have hpw := pad_wrap (off := off) (by omega)
  repeat' (first | ((refine Qa rfl ?_); (first | refine Q0 ?_ | refine Q2 rfl ?_ | refine Q7 rfl rfl rfl ?_); (refine QX rfl rfl ?_)) | refine Qh ?_ | refine Ql ?_ | refine Qo rfl ?_ | refine Qs ?_)
  by_cases hlt : off < b.length
  · rw [decide_eq_true (show (off : Int) < ((b.map u8A).length : Int) by omega)]
    obtain ⟨n, rfl⟩ : ∃ k, n = k + 1 := ⟨n - 1, by omega⟩
    rw [recsF_off n hlt] at ht
    obtain ⟨x, hx⟩ : ∃ x, b[off]? = some x := ⟨_, List.getElem?_eq_getElem hlt⟩
    rw [hx] at ht
    repeat' (first | ((refine Qa rfl ?_); (refine Q0 ?_); (refine QX rfl rfl ?_)) | refine Qa rfl ?_ | refine Ql ?_ | refine Qm ?_ | refine Qn ?_ | refine Qo rfl ?_ | refine Qp rfl ?_)
    refine st_ixm hx rfl rfl rfl rfl rfl rfl rfl (by first | rfl | omega) rfl ?_
    first | refine nx rfl rfl ?_ | refine nx0 ?_
    repeat' (first | ((refine Qa rfl ?_); (first | refine Q2 rfl ?_ | refine Q3 rfl rfl rfl ?_); (refine QX rfl rfl ?_)) | refine Qh ?_ | refine Qs ?_)
    by_cases hx0 : x = 0
    · rw [if_pos (by rw [hx0])] at ht
      rw [decide_eq_true (show (x.toNat : Int) = 0 by rw [hx0]; rfl)]
      repeat' (first | ((refine Qa rfl ?_); (first | refine Q0 ?_ | refine Q1 ?_ | refine Q2 rfl ?_ | refine QB rfl rfl (by decide) ?_); (refine QX rfl rfl ?_)) | refine Qh ?_ | refine Ql ?_ | refine Qo rfl ?_ | refine Qp rfl ?_ | refine Qr ?_ | refine Qs ?_ | refine Qt ?_ | refine Qv ?_)
      rw [hpw]
      refine ⟨(n, (off / 59 + 1) * 59, out), ⟨by show (off / 59 + 1) * 59 ≤ b.length + 59; omega, by show out.length ≤ (off / 59 + 1) * 59; omega, by show b.length ≤ n + (off / 59 + 1) * 59; omega, ht⟩, Nat.lt_succ_self n, ?_⟩
      refine imp_cutk 4 (by simp [devH]) (hok_fo v out) rfl (by simp) ?_
      repeat' (first | exact fa_nil | refine fa_cons ⟨?_, ?_⟩ ?_)
      all_goals (try first | exact rfl | exact trivial | (simp [IdsLt, IdsLtL]; done) | (simp [get_cons]; done) | (simp [get_cons, *]; done) | (refine congrArg (AV.int .i64) (wrap_eq ?_ ?_ ?_) <;> (first | omega | (simp; omega))))
    rw [if_neg (fun e => hx0 (Option.some.inj e))] at ht
    rw [decide_eq_false (show ¬ (x.toNat : Int) = 0 from fun e => hx0 (UInt8.toNat_inj.1 (by simpa using e)))]
    have hde := fun X => rdec_c X l.ver seq off (b.drop off) (by omega) (by omega) (by rw [List.length_drop]; omega)
    have hlr : ∀ r, decR l.ver seq off (b.drop off) = some r → off + lenR r ≤ b.length := fun r hr => by
      have := (decR_len hr).1
      rw [List.length_drop] at this
      omega
    repeat' (first | refine Ql ?_ | refine Qm ?_ | refine Qq rfl ?_)
    cases hd : decR l.ver seq off (b.drop off) with
    | none =>
      rw [hd] at ht hde
      have ho2 : out = tot := by rw [← ht, List.append_nil]
      have hde2 : ∀ X, ACalls (E0 X) 85 [.int .i64 l.ver, .int .i64 (seq : Int), .int .i64 (off : Int), .sl 1 ((b.drop off).map u8A)] [] (fun r H' => r = .tup [.agg [.int .i64 0, .nils, .nils, .int .i64 0], .int .i64 0, .bool false] ∧ H' = []) := hde
      refine awp_region_any [12, 13] [0, 1, 2, 3, 4, 5, 6, 7, 8, 9, 10, 11, 14, 15] (by exact rfl) ?_
      refine any_lin (fuel := 0) [0, 1, 2, 3, 4, 5, 6, 7, 8, 9, 10, 11, 12, 13, 14, 15] (by exact rfl) (by kernel_rfl) (by kernel_rfl) ?_
      repeat' ((apply Qe rfl rfl rfl rfl; intro H9); (first | refine Q0 ?_ | refine Q3 rfl rfl rfl ?_ | refine Q4 rfl rfl rfl rfl rfl ?_); (exact QY rfl ⟨rfl, rfl⟩))
      apply ds_soN rfl rfl rfl rfl
      · intro H9
        refine st_sls (l := off) (h := (b.map u8A).length) (ys := b.drop off) (bnd_some rfl rfl) (bnd_none) (by omega) (by omega) (by rw [hbm, List.take_length]) rfl rfl rfl rfl rfl ?_
        exact nx0 ⟨rfl, rfl⟩
      generalize b.drop off = bo at *
      skip
      apply ds_soN rfl rfl rfl rfl
      · intro H9
        refine st_call (fun _ => rfl) rfl ?_
        refine ACalls.mono (acalls_pure (E := E0 X) (fun X => hde2 X) (by simp [IdsLtL, IdsLt]) _) ?_
        rintro r H' ⟨rfl, rfl⟩
        first | exact nxs rfl ⟨rfl, rfl⟩ | exact nx0 ⟨rfl, rfl⟩
      repeat' (first | ((first | refine Qc rfl rfl rfl ?_ | (apply Qe rfl rfl rfl rfl; intro H9)); (first | refine Q0 ?_ | refine Q1 ?_ | refine QC rfl rfl ?_ | refine QJ rfl rfl ?_); (first | exact QY rfl ⟨rfl, rfl⟩ | refine QX rfl rfl ?_)) | (refine Qf rfl rfl rfl ?_; refine QS rfl rfl rfl rfl rfl rfl rfl ?_; (refine QX rfl rfl ?_)) | refine Qk ?_ | refine Qw (by kernel_rfl) ?_)
      repeat' (first | ((refine Qa rfl ?_); (first | refine Q0 ?_ | refine Q1 ?_ | refine QD rfl ?_); (refine QX rfl rfl ?_)) | refine Qh ?_ | refine Ql ?_ | refine Qo rfl ?_ | refine Qp rfl ?_ | refine Qr ?_ | refine Qs ?_)
      refine awp_ret ?_
      refine ⟨_, rfl, 3, _, rfl, ?_, Nat.le_refl _, ?_, rfl⟩
      · rw [← ho2, List.length_map]
      · rw [← ho2]; rfl
    | some r =>
      rw [hd] at ht hde
      have hl2 := hlr r hd
      have hl3 : 16 ≤ lenR r := by simp only [lenR]; omega
      have hde2 : ∀ X, ACalls (E0 X) 85 [.int .i64 l.ver, .int .i64 (seq : Int), .int .i64 (off : Int), .sl 1 ((b.drop off).map u8A)] [] (fun q H' => q = .tup [.agg [.int .i64 r.kind, .sl 1 (r.key.map u8A), .sl 1 (r.val.map u8A), .int .i64 r.exp], .int .i64 (lenR r : Int), .bool true] ∧ H' = []) := hde
      have hwo : IntKind.i64.wrap ((off : Int) + (lenR r : Int)) = ((off + lenR r : Nat) : Int) := wrap_eq (by omega) (by omega) (by omega)
      have htt : (out ++ [(off, r)]) ++ recsF l.ver seq b n (off + lenR r) = tot := by rw [← ht, List.append_assoc]; rfl
      have hol2 : (out ++ [(off, r)]).length ≤ off + lenR r := by rw [List.length_append]; show out.length + 1 ≤ _; omega
      have hfu2 : b.length ≤ n + (off + lenR r) := by omega
      have hoff2 : off + lenR r ≤ b.length + 59 := by omega
      generalize hL : lenR r = L at *
      refine awp_region_any [12, 13] [0, 1, 2, 3, 4, 5, 6, 7, 8, 9, 10, 11, 14, 15] (by exact rfl) ?_
      refine any_lin (fuel := 0) [0, 1, 2, 3, 4, 5, 6, 7, 8, 9, 10, 11, 12, 13, 14, 15] (by exact rfl) (by kernel_rfl) (by kernel_rfl) ?_
      repeat' ((apply Qe rfl rfl rfl rfl; intro H9); (first | refine Q0 ?_ | refine Q3 rfl rfl rfl ?_ | refine Q4 rfl rfl rfl rfl rfl ?_); (exact QY rfl ⟨rfl, rfl⟩))
      apply ds_soN rfl rfl rfl rfl
      · intro H9
        refine st_sls (l := off) (h := (b.map u8A).length) (ys := b.drop off) (bnd_some rfl rfl) (bnd_none) (by omega) (by omega) (by rw [hbm, List.take_length]) rfl rfl rfl rfl rfl ?_
        exact nx0 ⟨rfl, rfl⟩
      generalize b.drop off = bo at *
      skip
      apply ds_soN rfl rfl rfl rfl
      · intro H9
        refine st_call (fun _ => rfl) rfl ?_
        refine ACalls.mono (acalls_pure (E := E0 X) (fun X => hde2 X) (by simp [IdsLtL, IdsLt]) _) ?_
        rintro r H' ⟨rfl, rfl⟩
        first | exact nxs rfl ⟨rfl, rfl⟩ | exact nx0 ⟨rfl, rfl⟩
      repeat' (first | ((first | refine Qc rfl rfl rfl ?_ | (apply Qe rfl rfl rfl rfl; intro H9)); (first | refine Q0 ?_ | refine Q1 ?_ | refine QC rfl rfl ?_ | refine QJ rfl rfl ?_); (first | exact QY rfl ⟨rfl, rfl⟩ | refine QX rfl rfl ?_)) | (refine Qf rfl rfl rfl ?_; refine QS rfl rfl rfl rfl rfl rfl rfl ?_; (refine QX rfl rfl ?_)) | refine Qk ?_ | refine Qw (by kernel_rfl) ?_)
      repeat' (first | ((refine Qa rfl ?_); (first | refine Q0 ?_ | refine Q3 rfl rfl rfl ?_ | refine QD rfl ?_ | refine QP rfl rfl rfl rfl rfl rfl ?_ | refine QQ rfl rfl rfl rfl rfl rfl rfl rfl rfl rfl rfl ?_); (refine QX rfl rfl ?_)) | refine Qa rfl ?_ | refine Qh ?_ | refine Ql ?_ | refine Qm ?_ | refine Qo rfl ?_ | refine Qq rfl ?_)
      refine st_app (oid := some 3) (es := out.map foA) (out := (out ++ [(off, r)]).map foA) (n := out.length + 1) (dst_own rfl (List.length_map _).symm) (rfl) ((by have h9 := oneEs_fo [(off, r)]; simp only [List.map, foA, recL, hL] at h9; exact h9)) (by rw [List.map_append, ← hL]; rfl) (by rw [List.length_map]; rfl) (by show _ ≤ 9223372036854775807; omega) (by show _ * 80 ≤ _; omega) rfl rfl rfl rfl rfl rfl rfl rfl ?_
      first | refine nx rfl rfl ?_ | refine nx0 ?_
      repeat' (first | ((refine Qa rfl ?_); (first | refine Q0 ?_ | refine Q1 ?_ | refine Q2 rfl ?_); (refine QX rfl rfl ?_)) | refine Qh ?_ | refine Qo rfl ?_ | refine Qs ?_ | refine Qu ?_)
      rw [hwo]
      refine ⟨(n, off + L, out ++ [(off, r)]), ⟨hoff2, hol2, hfu2, htt⟩, Nat.lt_succ_self n, ?_⟩
      refine imp_tid 3 [5] (H' := devH v ++ [some (.arr ((out ++ [(off, r)]).map foA) 88)]) (os := [.arr ((out ++ [(off, r)]).map foA) 88]) (Nat.le_refl _) ?_ ?_ ?_ ?_ rfl ?_ ?_ ?_
      · simp
      · simp
      · simp
      · exact hok_dev v
      · rfl
      · refine fa_cons (ren_lt rfl (by simp [IdsLt])) (fa_cons (ren_lt rfl trivial) (fa_cons (ren_lt rfl ⟨trivial, trivial, trivial, trivial, trivial⟩) (fa_cons (ren_lt rfl (idsL_map fun _ => u8A_ids)) (fa_cons ?_ (fa_cons (ren_lt rfl trivial) fa_nil)))))
        rw [List.length_append]; exact ren_own rfl
      · exact os_cons rfl (renO_old 3 gcF_lt (idsL_map fun _ => foA_ids)) os_nil
  · rw [decide_eq_false (show ¬ (off : Int) < ((b.map u8A).length : Int) by omega)]
    rw [recsF_end n (by omega), List.append_nil] at ht
    repeat' (first | ((refine Qa rfl ?_); (first | refine Q0 ?_ | refine Q1 ?_); (refine QX rfl rfl ?_)) | refine Qh ?_ | refine Ql ?_ | refine Qo rfl ?_ | refine Qq rfl ?_ | refine Qr ?_ | refine Qs ?_)
    refine awp_ret ?_
    refine ⟨_, rfl, 3, _, rfl, ?_, Nat.le_refl _, ?_, rfl⟩
    · rw [← ht, List.length_map]
    · rw [← ht]; rfl
end Go.Abs
namespace Go.Abs
def strR (img : List UInt8) (seq : Nat) : Nat → Nat → List UInt8
  | 0, _ => []
  | n + 1, s => match decF 2 seq s (secB img (s : Int)) with
    | none => []
    | some p => p ++ strR img seq n (s + 1)
theorem strR_len (img : List UInt8) (seq : Nat) : ∀ n s, (strR img seq n s).length ≤ 59 * n
  | 0, _ => Nat.zero_le _
  | n + 1, s => by
    have e : strR img seq (n + 1) s = match decF 2 seq s (secB img (s : Int)) with
        | none => []
        | some p => p ++ strR img seq n (s + 1) := rfl
    have h := strR_len img seq n (s + 1)
    rw [e]
    cases hd : decF 2 seq s (secB img (s : Int)) with
    | none => exact Nat.zero_le _
    | some p =>
      have := (decF_len hd).1
      show (p ++ strR img seq n (s + 1)).length ≤ _
      rw [List.length_append]
      omega
theorem hok_sr (l : La) (o : List UInt8) : HOk 2 [some (.cells [.int .i64 l.id, .int .i64 l.ver, .int .i64 l.rs, .int .i64 l.regs] 29), some (.arr (o.map u8A) 5)] := fun j o' ho => by
  match j, ho with
  | 0, ho => cases ho; exact ⟨trivial, trivial, trivial, trivial, trivial⟩
  | 1, ho => cases ho; exact idsL_map fun _ => u8A_ids
attribute [local irreducible] AStep aops AWp Nx awM
set_option maxHeartbeats 0 in
set_option maxRecDepth 100000 in
theorem rstream_c (X : Nat → Prop) (img : List UInt8) (hi : img.length ≤ 1073741824) (l : La) (slot : Int) (seq : Nat) (h : slotOk l slot) (hs1 : 1 ≤ seq) (hs2 : seq ≤ 281474976710655) :
    ACalls (E0 X) 87 [.sl 1 (img.map u8A), laA l, .int .i64 slot, .int .i64 (seq : Int)] [] (fun r H' => r = .sl 1 ((strR img seq (l.rs.toNat - 1) ((74 + slot * l.rs).toNat + 1)).map u8A) ∧ H' = []) := by
  refine ACalls.frz0 (e := 5) 1 ?_ rfl rfl (idsL_map fun _ => u8A_ids)
  have hsy := fun X => sectors_yes X l slot h
  obtain ⟨hf, h0, h1⟩ := h
  have hm := slot_mul hf h0 h1
  have hr := form_rs hf
  obtain ⟨F, hF⟩ := Int.eq_ofNat_of_zero_le (show 0 ≤ 74 + slot * l.rs by omega)
  have hF2 : F ≤ 32842 := by omega
  have hxs : ∀ i : Nat, i < l.rs.toNat → (secsN l slot l.rs.toNat)[i]? = some ((F + i : Nat) : Int) := fun i hi => by
    rw [secsN_get l slot hi]; congr 1; omega
  have hxl := secsN_len l slot l.rs.toNat
  rw [hF, Int.toNat_natCast]
  generalize secsN l slot l.rs.toNat = xs at *
  have hxm : (xs.map iA).length = l.rs.toNat := by rw [List.length_map, hxl]
  generalize htot : strR img seq (l.rs.toNat - 1) (F + 1) = tot
  show ACalls (E0 X) 87 [.sl 1 (img.map u8A), .agg [.int .i64 l.id, .int .i64 l.ver, .int .i64 l.rs, .int .i64 l.regs], .int .i64 slot, .int .i64 (seq : Int)] [] _
  refine acalls_of Proofs.Tryd.func87 rfl Proofs.Tryd.ntmps87 (by kernel_rfl) rfl ?_
  intro hH hargs
  clear hH hargs
  repeat' (first | ((refine Qa rfl ?_); (first | refine Q0 ?_ | refine Q1 ?_ | refine Q3 rfl rfl rfl ?_ | refine QK rfl ?_); (refine QX rfl rfl ?_)) | refine Qa rfl ?_ | refine Qh ?_ | refine Ql ?_ | refine Qo rfl ?_)
  refine st_call (fun _ => rfl) rfl ?_
  refine ACalls.mono (acalls_pure (E := E0 X) (fun X => hsy X) (by simp [IdsLtL, IdsLt]) _) ?_
  rintro r H' ⟨rfl, rfl⟩
  first | refine nx rfl rfl ?_ | refine nx0 ?_
  repeat' (first | ((refine Qa rfl ?_); (refine Q1 ?_); (refine QX rfl rfl ?_)) | refine Qh ?_ | refine Ql ?_ | refine Qn ?_ | refine Qo rfl ?_)
  refine awp_loop2 (fun p : Nat × List UInt8 => ⟨[(0, .sl 1 (img.map u8A)), (3, .int .i64 (seq : Int)), (9, .own 1 0 p.2.length), (10, .sl 1 (xs.map iA)), (11, .int .i64 (p.1 : Int))], [some (.cells [.int .i64 l.id, .int .i64 l.ver, .int .i64 l.rs, .int .i64 l.regs] 29), some (.arr (p.2.map u8A) 5)]⟩)
    (fun p => (1 ≤ p.1 ∧ p.1 ≤ l.rs.toNat) ∧ p.2.length ≤ 59 * p.1 ∧ p.2 ++ strR img seq (l.rs.toNat - p.1) (F + p.1) = tot) (fun p => l.rs.toNat - p.1) (1, []) ⟨⟨Nat.le_refl _, by show 1 ≤ l.rs.toNat; omega⟩, Nat.zero_le _, htot⟩ ?_ ?_
  · refine Imp.trans (imp_nil 9 5 rfl) (imp_cutk 2 (Nat.zero_le _) (hok_sr l []) rfl (by simp) ?_)
    repeat' (first | exact fa_nil | refine fa_cons ⟨?_, ?_⟩ ?_)
    all_goals (try first | exact rfl | exact trivial | (simp [IdsLt]; done) | (simp; done) | (simp [*]; done) | (refine congrArg (AV.int .i64) (wrap_eq ?_ ?_ ?_) <;> (first | omega | (simp; omega))))
    exact ids_i _
  rintro ⟨i, out⟩ ⟨⟨hi1, hi2⟩, hol0, ht0⟩
  have hi1 : 1 ≤ i := hi1
  have hi2 : i ≤ l.rs.toNat := hi2
  have hol : out.length ≤ 59 * i := hol0
  have ht : out ++ strR img seq (l.rs.toNat - i) (F + i) = tot := ht0
  clear hol0 ht0
  show AWp _ _ _ _ _ ⟨[(0, .sl 1 (img.map u8A)), (3, .int .i64 (seq : Int)), (9, .own 1 0 out.length), (10, .sl 1 (xs.map iA)), (11, .int .i64 (i : Int))], [some (.cells [.int .i64 l.id, .int .i64 l.ver, .int .i64 l.rs, .int .i64 l.regs] 29), some (.arr (out.map u8A) 5)]⟩
  repeat' (first | ((refine Qa rfl ?_); (first | refine Q0 ?_ | refine Q2 rfl ?_ | refine Q7 rfl rfl rfl ?_); (refine QX rfl rfl ?_)) | refine Qh ?_ | refine Ql ?_ | refine Qo rfl ?_ | refine Qs ?_)
  by_cases hlt : i < l.rs.toNat
  · rw [decide_eq_true (show (i : Int) < ((xs.map iA).length : Int) by rw [hxm]; omega)]
    have hst : strR img seq (l.rs.toNat - i) (F + i) = match decF 2 seq (F + i) (secB img ((F + i : Nat) : Int)) with
        | none => []
        | some p => p ++ strR img seq (l.rs.toNat - (i + 1)) (F + (i + 1)) := by
      have e : l.rs.toNat - i = (l.rs.toNat - (i + 1)) + 1 := by omega
      rw [e]; rfl
    have hx := hxs i hlt
    have hSb : F + i < 1048576 := by omega
    have hse := fun X => sector_c15 X img ((F + i : Nat) : Int) (by omega) hi
    have hbl := secB_len img ((F + i : Nat) : Int)
    have hmeas : l.rs.toNat - (i + 1) < l.rs.toNat - i := Nat.sub_lt_sub_left hlt (Nat.lt_succ_self i)
    have hiw : IntKind.i64.wrap ((i : Int) + 1) = ((i + 1 : Nat) : Int) := wrap_eq (by omega) (by omega) (by omega)
    generalize secB img ((F + i : Nat) : Int) = bb at *
    have hde := fun X => rfdec_c X 2 seq (F + i) bb ⟨by decide, by decide, hSb⟩ (by omega) (by omega)
    repeat' (first | refine Ql ?_ | refine Qm ?_ | refine Qn ?_ | refine Qp rfl ?_)
    refine awp_region_auto2 [] [] (by exact rfl) (by kernel_rfl) ?_
    repeat' ((apply Qd rfl rfl rfl rfl); (refine Q0 ?_); (exact QX rfl rfl ⟨rfl, rfl⟩))
    apply ds rfl rfl rfl rfl
    · refine st_ixm hx rfl rfl rfl rfl rfl rfl rfl (by first | rfl | omega) rfl ?_
      first | exact nx rfl rfl ⟨rfl, rfl⟩ | exact nx0 ⟨rfl, rfl⟩
    repeat' ((apply Qd rfl rfl rfl rfl); (first | refine Q0 ?_ | refine Q3 rfl rfl rfl ?_); (exact QX rfl rfl ⟨rfl, rfl⟩))
    apply ds rfl rfl rfl rfl
    · refine st_ixm hx rfl rfl rfl rfl rfl rfl rfl (by first | rfl | omega) rfl ?_
      first | exact nx rfl rfl ⟨rfl, rfl⟩ | exact nx0 ⟨rfl, rfl⟩
    repeat' ((apply Qd rfl rfl rfl rfl); (refine Q3 rfl rfl rfl ?_); (exact QX rfl rfl ⟨rfl, rfl⟩))
    apply ds rfl rfl rfl rfl
    · refine st_call (fun _ => rfl) rfl ?_
      refine ACalls.mono (acalls_pure (E := E0 X) hse (by simp [IdsLtL, IdsLt]) _) ?_
      rintro r H' ⟨rfl, rfl⟩
      first
      | exact nx rfl rfl ⟨rfl, rfl⟩
      | exact nx0 ⟨rfl, rfl⟩
    skip
    cases hd : decF 2 seq (F + i) bb with
    | none =>
      rw [hd] at hst hde
      have ho : out = tot := by rw [← ht, hst, List.append_nil]
      have hde2 : ∀ X, ACalls (E0 X) 99 [.int .i64 2, .int .i64 (seq : Int), .int .i64 ((F + i : Nat) : Int), .sl 1 (bb.map u8A)] [] (fun r H' => r = .tup [.nils, .bool false] ∧ H' = []) := hde
      apply ds rfl rfl rfl rfl
      · refine st_call (fun _ => rfl) rfl ?_
        refine ACalls.mono (acalls_pure (E := E0 X) hde2 (by simp [IdsLtL, IdsLt]) _) ?_
        rintro r H' ⟨rfl, rfl⟩
        first
        | exact nx rfl rfl ⟨rfl, rfl⟩
        | exact nx0 ⟨rfl, rfl⟩
      repeat' (first | ((first | refine Qa rfl ?_ | apply Qd rfl rfl rfl rfl); (first | refine Q0 ?_ | refine Q1 ?_ | refine QC rfl rfl ?_ | refine QD rfl ?_); (first | exact QX rfl rfl ⟨rfl, rfl⟩ | refine QX rfl rfl ?_)) | refine Qh ?_ | refine Qk ?_ | refine Ql ?_ | refine Qo rfl ?_ | refine Qp rfl ?_ | refine Qs ?_)
      refine awp_ret ?_
      refine ⟨_, rfl, 1, _, rfl, ?_, ?_⟩
      · rw [← ho, List.length_map]
      · rw [← ho]; rfl
    | some p =>
      have hpl := (decF_len hd).1
      rw [hd] at hst hde
      have hde2 : ∀ X, ACalls (E0 X) 99 [.int .i64 2, .int .i64 (seq : Int), .int .i64 ((F + i : Nat) : Int), .sl 1 (bb.map u8A)] [] (fun r H' => r = .tup [.sl 1 (p.map u8A), .bool true] ∧ H' = []) := hde
      apply ds rfl rfl rfl rfl
      · refine st_call (fun _ => rfl) rfl ?_
        refine ACalls.mono (acalls_pure (E := E0 X) hde2 (by simp [IdsLtL, IdsLt]) _) ?_
        rintro r H' ⟨rfl, rfl⟩
        first
        | exact nx rfl rfl ⟨rfl, rfl⟩
        | exact nx0 ⟨rfl, rfl⟩
      repeat' (first | ((first | refine Qa rfl ?_ | apply Qd rfl rfl rfl rfl); (first | refine Q0 ?_ | refine Q1 ?_ | refine QC rfl rfl ?_ | refine QD rfl ?_); (first | exact QX rfl rfl ⟨rfl, rfl⟩ | refine QX rfl rfl ?_)) | refine Qa rfl ?_ | refine Qh ?_ | refine Qk ?_ | refine Ql ?_ | refine Qm ?_ | refine Qo rfl ?_ | refine Qq rfl ?_)
      refine st_app (oid := some 1) (es := out.map u8A) (out := (out ++ p).map u8A) (n := out.length + 59) (dst_own rfl (List.length_map _).symm) (rfl) (oneEs_u8 _) (by rw [List.map_append]) (by rw [List.length_map, List.length_map, hpl]) (by show _ ≤ 9223372036854775807; omega) (by show _ * 1 ≤ _; omega) rfl rfl rfl rfl rfl rfl rfl rfl ?_
      first | refine nx rfl rfl ?_ | refine nx0 ?_
      repeat' (first | ((refine Qa rfl ?_); (first | refine Q0 ?_ | refine Q1 ?_ | refine Q2 rfl ?_); (refine QX rfl rfl ?_)) | refine Qh ?_ | refine Qo rfl ?_ | refine Qs ?_)
      rw [hiw]
      refine ⟨(i + 1, out ++ p), ⟨⟨by show 1 ≤ i + 1; omega, hlt⟩, by show (out ++ p).length ≤ 59 * (i + 1); rw [List.length_append, hpl]; omega, by show (out ++ p) ++ strR img seq (l.rs.toNat - (i + 1)) (F + (i + 1)) = tot; rw [← ht, hst, List.append_assoc]⟩, hmeas, ?_⟩
      refine imp_tid 1 [2] (H' := [some (.cells [.int .i64 l.id, .int .i64 l.ver, .int .i64 l.rs, .int .i64 l.regs] 29), some (.arr ((out ++ p).map u8A) 5)]) (os := [.arr ((out ++ p).map u8A) 5]) (Nat.zero_le _) ?_ ?_ ?_ ?_ rfl ?_ ?_ ?_
      · simp
      · simp
      · simp
      · intro j o ho
        match j, ho with
        | 0, ho => cases ho; exact ⟨trivial, trivial, trivial, trivial, trivial⟩
      · rfl
      · refine fa_cons (ren_lt rfl (idsL_map fun _ => u8A_ids)) (fa_cons (ren_lt rfl trivial) (fa_cons ?_ (fa_cons (ren_lt rfl (ids_i _)) (fa_cons (ren_lt rfl trivial) fa_nil))))
        rw [show (out ++ p).length = out.length + 59 by rw [List.length_append, hpl]]
        exact ren_own rfl
      · exact os_cons rfl (renO_old 1 gcF_lt (idsL_map fun _ => u8A_ids)) os_nil
  · rw [decide_eq_false (show ¬ (i : Int) < ((xs.map iA).length : Int) by rw [hxm]; omega)]
    have hz : strR img seq (l.rs.toNat - i) (F + i) = [] := by rw [show l.rs.toNat - i = 0 by omega]; rfl
    have ho : out = tot := by rw [← ht, hz, List.append_nil]
    repeat' (first | ((refine Qa rfl ?_); (first | refine Q0 ?_ | refine Q1 ?_); (refine QX rfl rfl ?_)) | refine Qh ?_ | refine Ql ?_ | refine Qo rfl ?_ | refine Qq rfl ?_ | refine Qr ?_ | refine Qs ?_)
    refine awp_ret ?_
    refine ⟨_, rfl, 1, _, rfl, ?_, ?_⟩
    · rw [← ho, List.length_map]
    · rw [← ho]; rfl
theorem rpad_wrap {off : Nat} (h : off ≤ 2000000) : IntKind.i64.wrap (IntKind.i64.wrap (IntKind.i64.wrap (Int.tdiv (off : Int) 59) + 1) * 59) = (((off / 59 + 1) * 59 : Nat) : Int) := by
  have hr : IntKind.i64.wrap (Int.tdiv (off : Int) 59) = ((off / 59 : Nat) : Int) := by
    rw [show Int.tdiv (off : Int) 59 = ((off / 59 : Nat) : Int) from rfl]
    exact wrap_in (by omega) (by omega)
  have hs : IntKind.i64.wrap (((off / 59 : Nat) : Int) + 1) = ((off / 59 + 1 : Nat) : Int) := wrap_eq (by omega) (by omega) (by omega)
  rw [hr, hs]
  exact wrap_eq (by omega) (by omega) (by omega)
theorem hok_fo0 (l : List (Nat × Rec)) : HOk 1 [some (.arr (l.map foA) 88)] := fun j o ho => by
  match j, ho with
  | 0, ho => cases ho; exact idsL_map fun _ => foA_ids
theorem rrdec_c (X : Nat → Prop) (ver : Int) (hv : ver = 1 ∨ ver = 2) (seq off : Nat) (b : List UInt8) (hs : seq < 9223372036854775808) (ho : off ≤ 2147483647) (hb : b.length ≤ 1000000) :
    ACalls (E0 X) 128 [.int .i64 ver, .int .i64 (seq : Int), .int .i64 (off : Int), .sl 1 (b.map u8A)] [] (fun r H' => r = recO (decR ver seq off b) ∧ H' = []) := by
  rcases hv with rfl | rfl
  · exact rrdec_c1 X seq off b hs ho hb
  · exact rrdec_c2 X seq off b hs ho hb
set_option maxHeartbeats 0 in
set_option maxRecDepth 100000 in
theorem rrecords_c (X : Nat → Prop) (ver : Int) (hv : ver = 1 ∨ ver = 2) (seq : Nat) (b : List UInt8) (hs : seq < 9223372036854775808) (hbl : b.length ≤ 130000) :
    ACalls (E0 X) 86 [.sl 1 (b.map u8A), .int .i64 ver, .int .i64 (seq : Int)] [] (fun r H' => r = .sl 6 ((recs ver seq b).map foA) ∧ H' = []) := by
  refine ACalls.frz0 (e := 88) 6 ?_ rfl rfl (idsL_map fun _ => foA_ids)
  have hbm : (b.map u8A).length = b.length := List.length_map _
  generalize htot : recs ver seq b = tot
  refine acalls_of Proofs.Tryd.func86 rfl Proofs.Tryd.ntmps86 (by kernel_rfl) rfl ?_
  intro hH hargs
  clear hH hargs
  repeat' (first | ((refine Qa rfl ?_); (refine Q1 ?_); (refine QX rfl rfl ?_)) | refine Qh ?_ | refine Ql ?_ | refine Qn ?_ | refine Qo rfl ?_)
  refine awp_loop2 (fun p : Nat × Nat × List (Nat × Rec) => ⟨[(0, .sl 1 (b.map u8A)), (1, .int .i64 ver), (2, .int .i64 (seq : Int)), (7, .own 0 0 p.2.2.length), (8, .int .i64 (p.2.1 : Int))], [some (.arr (p.2.2.map foA) 88)]⟩)
    (fun p => p.2.1 ≤ b.length + 59 ∧ p.2.2.length ≤ p.2.1 ∧ b.length ≤ p.1 + p.2.1 ∧ p.2.2 ++ recsF ver seq b p.1 p.2.1 = tot) (fun p => p.1) (b.length, 0, []) ⟨Nat.zero_le _, Nat.le_refl _, by show b.length ≤ b.length + 0; omega, htot⟩ ?_ ?_
  · refine Imp.trans (imp_nil 7 88 rfl) (imp_cutk 1 (Nat.zero_le _) (hok_fo0 []) rfl (by simp) ?_)
    repeat' (first | exact fa_nil | refine fa_cons ⟨?_, ?_⟩ ?_)
    all_goals (try first | exact rfl | exact trivial | (simp [IdsLt]; done) | (simp [get_cons]; done) | (simp [get_cons, *]; done) | (refine congrArg (AV.int .i64) (wrap_eq ?_ ?_ ?_) <;> (first | omega | (simp; omega))))
  rintro ⟨n, off, out⟩ ⟨ho0, hl0, hf0, ht0⟩
  have ho : off ≤ b.length + 59 := ho0
  have hol : out.length ≤ off := hl0
  have hfu : b.length ≤ n + off := hf0
  have ht : out ++ recsF ver seq b n off = tot := ht0
  clear ho0 hl0 hf0 ht0
  show AWp _ _ _ _ _ ⟨[(0, .sl 1 (b.map u8A)), (1, .int .i64 ver), (2, .int .i64 (seq : Int)), (7, .own 0 0 out.length), (8, .int .i64 (off : Int))], [some (.arr (out.map foA) 88)]⟩
  have hpw := rpad_wrap (off := off) (by omega)
  repeat' (first | ((refine Qa rfl ?_); (first | refine Q0 ?_ | refine Q2 rfl ?_ | refine Q7 rfl rfl rfl ?_); (refine QX rfl rfl ?_)) | refine Qh ?_ | refine Ql ?_ | refine Qo rfl ?_ | refine Qs ?_)
  by_cases hlt : off < b.length
  · rw [decide_eq_true (show (off : Int) < ((b.map u8A).length : Int) by omega)]
    obtain ⟨n, rfl⟩ : ∃ k, n = k + 1 := ⟨n - 1, by omega⟩
    rw [recsF_off n hlt] at ht
    obtain ⟨x, hx⟩ : ∃ x, b[off]? = some x := ⟨_, List.getElem?_eq_getElem hlt⟩
    rw [hx] at ht
    repeat' (first | ((refine Qa rfl ?_); (refine Q0 ?_); (refine QX rfl rfl ?_)) | refine Qa rfl ?_ | refine Ql ?_ | refine Qm ?_ | refine Qn ?_ | refine Qo rfl ?_ | refine Qp rfl ?_)
    refine st_ixm hx rfl rfl rfl rfl rfl rfl rfl (by first | rfl | omega) rfl ?_
    first | refine nx rfl rfl ?_ | refine nx0 ?_
    repeat' (first | ((refine Qa rfl ?_); (first | refine Q2 rfl ?_ | refine Q3 rfl rfl rfl ?_); (refine QX rfl rfl ?_)) | refine Qh ?_ | refine Qs ?_)
    by_cases hx0 : x = 0
    · rw [if_pos (by rw [hx0])] at ht
      rw [decide_eq_true (show (x.toNat : Int) = 0 by rw [hx0]; rfl)]
      repeat' (first | ((refine Qa rfl ?_); (first | refine Q0 ?_ | refine Q1 ?_ | refine Q2 rfl ?_ | refine QA rfl rfl (by decide) ?_); (refine QX rfl rfl ?_)) | refine Qh ?_ | refine Ql ?_ | refine Qo rfl ?_ | refine Qp rfl ?_ | refine Qr ?_ | refine Qs ?_ | refine Qt ?_ | refine Qv ?_)
      rw [hpw]
      refine ⟨(n, (off / 59 + 1) * 59, out), ⟨by show (off / 59 + 1) * 59 ≤ b.length + 59; omega, by show out.length ≤ (off / 59 + 1) * 59; omega, by show b.length ≤ n + (off / 59 + 1) * 59; omega, ht⟩, Nat.lt_succ_self n, ?_⟩
      refine imp_cutk 1 (Nat.zero_le _) (hok_fo0 out) rfl (by simp) ?_
      repeat' (first | exact fa_nil | refine fa_cons ⟨?_, ?_⟩ ?_)
      all_goals (try first | exact rfl | exact trivial | (simp [IdsLt]; done) | (simp [get_cons]; done) | (simp [get_cons, *]; done) | (refine congrArg (AV.int .i64) (wrap_eq ?_ ?_ ?_) <;> (first | omega | (simp; omega))))
    rw [if_neg (fun e => hx0 (Option.some.inj e))] at ht
    rw [decide_eq_false (show ¬ (x.toNat : Int) = 0 from fun e => hx0 (UInt8.toNat_inj.1 (by simpa using e)))]
    have hde := fun X => rrdec_c X ver hv seq off (b.drop off) (by omega) (by omega) (by rw [List.length_drop]; omega)
    have hlr : ∀ r, decR ver seq off (b.drop off) = some r → off + lenR r ≤ b.length := fun r hr => by
      have := (decR_len hr).1
      rw [List.length_drop] at this
      omega
    repeat' (first | ((refine Qa rfl ?_); (refine Q0 ?_); (refine QX rfl rfl ?_)) | refine Qa rfl ?_ | refine Ql ?_ | refine Qm ?_ | refine Qo rfl ?_ | refine Qq rfl ?_)
    refine st_sls (l := off) (h := (b.map u8A).length) (ys := b.drop off) (bnd_some rfl rfl) (bnd_none) (by omega) (by omega) (by rw [hbm, List.take_length]) rfl rfl rfl rfl rfl ?_
    first | refine nx rfl rfl ?_ | refine nx0 ?_
    cases hd : decR ver seq off (b.drop off) with
    | none =>
      rw [hd] at ht hde
      have ho2 : out = tot := by rw [← ht, List.append_nil]
      have hde2 : ∀ X, ACalls (E0 X) 128 [.int .i64 ver, .int .i64 (seq : Int), .int .i64 (off : Int), .sl 1 ((b.drop off).map u8A)] [] (fun r H' => r = .tup [.agg [.int .i64 0, .nils, .nils, .int .i64 0], .int .i64 0, .bool false] ∧ H' = []) := hde
      generalize b.drop off = bo at *
      repeat' (refine Qa rfl ?_)
      refine st_call (fun _ => rfl) rfl ?_
      refine ACalls.mono (acalls_pure (E := E0 X) (fun X => hde2 X) (by simp [IdsLtL, IdsLt]) _) ?_
      rintro r H' ⟨rfl, rfl⟩
      first | refine nx rfl rfl ?_ | refine nx0 ?_
      repeat' (first | ((refine Qa rfl ?_); (first | refine Q0 ?_ | refine Q1 ?_ | refine QC rfl rfl ?_ | refine QD rfl ?_ | refine QJ rfl rfl ?_); (refine QX rfl rfl ?_)) | (refine Qb rfl ?_; try (refine QS rfl rfl rfl rfl rfl rfl rfl ?_; (refine QX rfl rfl ?_))) | refine Qh ?_ | refine Ql ?_ | refine Qo rfl ?_ | refine Qp rfl ?_ | refine Qs ?_)
      refine awp_ret ?_
      refine ⟨_, rfl, 0, _, rfl, ?_, ?_⟩
      · rw [← ho2, List.length_map]
      · rw [← ho2]; rfl
    | some r =>
      rw [hd] at ht hde
      have hl2 := hlr r hd
      have hl3 : 16 ≤ lenR r := by simp only [lenR]; omega
      have hde2 : ∀ X, ACalls (E0 X) 128 [.int .i64 ver, .int .i64 (seq : Int), .int .i64 (off : Int), .sl 1 ((b.drop off).map u8A)] [] (fun q H' => q = .tup [.agg [.int .i64 r.kind, .sl 1 (r.key.map u8A), .sl 1 (r.val.map u8A), .int .i64 r.exp], .int .i64 (lenR r : Int), .bool true] ∧ H' = []) := hde
      have hwo : IntKind.i64.wrap ((off : Int) + (lenR r : Int)) = ((off + lenR r : Nat) : Int) := wrap_eq (by omega) (by omega) (by omega)
      have htt : (out ++ [(off, r)]) ++ recsF ver seq b n (off + lenR r) = tot := by rw [← ht, List.append_assoc]; rfl
      have hol2 : (out ++ [(off, r)]).length ≤ off + lenR r := by rw [List.length_append]; show out.length + 1 ≤ _; omega
      have hfu2 : b.length ≤ n + (off + lenR r) := by omega
      have hoff2 : off + lenR r ≤ b.length + 59 := by omega
      generalize hL : lenR r = L at *
      generalize b.drop off = bo at *
      repeat' (refine Qa rfl ?_)
      refine st_call (fun _ => rfl) rfl ?_
      refine ACalls.mono (acalls_pure (E := E0 X) (fun X => hde2 X) (by simp [IdsLtL, IdsLt]) _) ?_
      rintro r H' ⟨rfl, rfl⟩
      first | refine nx rfl rfl ?_ | refine nx0 ?_
      repeat' (first | ((refine Qa rfl ?_); (first | refine Q0 ?_ | refine Q1 ?_ | refine Q3 rfl rfl rfl ?_ | refine QC rfl rfl ?_ | refine QD rfl ?_ | refine QJ rfl rfl ?_ | refine QP rfl rfl rfl rfl rfl rfl ?_ | refine QQ rfl rfl rfl rfl rfl rfl rfl rfl rfl rfl rfl ?_); (refine QX rfl rfl ?_)) | refine Qa rfl ?_ | (refine Qb rfl ?_; try (refine QS rfl rfl rfl rfl rfl rfl rfl ?_; (refine QX rfl rfl ?_))) | refine Qh ?_ | refine Ql ?_ | refine Qm ?_ | refine Qo rfl ?_ | refine Qq rfl ?_)
      refine st_app (oid := some 0) (es := out.map foA) (out := (out ++ [(off, r)]).map foA) (n := out.length + 1) (dst_own rfl (List.length_map _).symm) (rfl) ((by have h9 := oneEs_fo [(off, r)]; simp only [List.map, foA, recL, hL] at h9; exact h9)) (by rw [List.map_append, ← hL]; rfl) (by rw [List.length_map]; rfl) (by show _ ≤ 9223372036854775807; omega) (by show _ * 80 ≤ _; omega) rfl rfl rfl rfl rfl rfl rfl rfl ?_
      first | refine nx rfl rfl ?_ | refine nx0 ?_
      repeat' (first | ((refine Qa rfl ?_); (first | refine Q0 ?_ | refine Q1 ?_ | refine Q2 rfl ?_); (refine QX rfl rfl ?_)) | refine Qh ?_ | refine Qo rfl ?_ | refine Qs ?_ | refine Qu ?_)
      rw [hwo]
      refine ⟨(n, off + L, out ++ [(off, r)]), ⟨hoff2, hol2, hfu2, htt⟩, Nat.lt_succ_self n, ?_⟩
      refine imp_tid 0 [2] (H' := [some (.arr ((out ++ [(off, r)]).map foA) 88)]) (os := [.arr ((out ++ [(off, r)]).map foA) 88]) (Nat.le_refl _) ?_ ?_ ?_ ?_ rfl ?_ ?_ ?_
      · simp
      · simp
      · simp
      · exact hok_nil
      · rfl
      · refine fa_cons (ren_lt rfl (idsL_map fun _ => u8A_ids)) (fa_cons (ren_lt rfl trivial) (fa_cons (ren_lt rfl trivial) (fa_cons ?_ (fa_cons (ren_lt rfl trivial) fa_nil))))
        rw [List.length_append]; exact ren_own rfl
      · exact os_cons rfl (renO_old 0 gcF_lt (idsL_map fun _ => foA_ids)) os_nil
  · rw [decide_eq_false (show ¬ (off : Int) < ((b.map u8A).length : Int) by omega)]
    rw [recsF_end n (by omega), List.append_nil] at ht
    repeat' (first | ((refine Qa rfl ?_); (first | refine Q0 ?_ | refine Q1 ?_); (refine QX rfl rfl ?_)) | refine Qh ?_ | refine Ql ?_ | refine Qo rfl ?_ | refine Qq rfl ?_ | refine Qr ?_ | refine Qs ?_)
    refine awp_ret ?_
    refine ⟨_, rfl, 0, _, rfl, ?_, ?_⟩
    · rw [← ht, List.length_map]
    · rw [← ht]; rfl
set_option maxHeartbeats 0 in
set_option maxRecDepth 100000 in
theorem rregion_c (X : Nat → Prop) (img : List UInt8) (hi : img.length ≤ 1073741824) (l : La) (slot : Int) (seq : Nat) (h : slotOk l slot) (hver : l.ver = 1 ∨ l.ver = 2) (hs1 : 1 ≤ seq) (hs2 : seq ≤ 281474976710655) :
    ACalls (E0 X) 46 [.sl 1 (img.map u8A), laA l, .int .i64 slot, .int .i64 (seq : Int)] [] (fun r H' => r = .sl 6 ((recs l.ver seq (strR img seq (l.rs.toNat - 1) ((74 + slot * l.rs).toNat + 1))).map foA) ∧ H' = []) := by
  refine ACalls.cut0 ?_ (idsL_map fun _ => foA_ids)
  have hst := fun X => rstream_c X img hi l slot seq h hs1 hs2
  have hsl := strR_len img seq (l.rs.toNat - 1) ((74 + slot * l.rs).toNat + 1)
  have hrs := form_rs h.1
  have hbl : (strR img seq (l.rs.toNat - 1) ((74 + slot * l.rs).toNat + 1)).length ≤ 130000 := by omega
  generalize strR img seq (l.rs.toNat - 1) ((74 + slot * l.rs).toNat + 1) = b at *
  have hre := fun X => rrecords_c X l.ver hver seq b (by omega) hbl
  have hn2 : ¬ (seq : Int) < 1 := by omega
  have hn3 : ¬ (281474976710655 : Int) < (seq : Int) := by omega
  show ACalls (E0 X) 46 [.sl 1 (img.map u8A), .agg [.int .i64 l.id, .int .i64 l.ver, .int .i64 l.rs, .int .i64 l.regs], .int .i64 slot, .int .i64 (seq : Int)] [] _
  refine acalls_of Proofs.Tryd.func46 rfl Proofs.Tryd.ntmps46 (by kernel_rfl) rfl ?_
  intro hH hargs
  clear hH hargs
  repeat' (first | ((refine Qa rfl ?_); (first | refine Q0 ?_ | refine Q1 ?_ | refine Q2 rfl ?_ | refine QK rfl ?_); (refine QX rfl rfl ?_)) | refine Qh ?_ | refine Ql ?_ | refine Qo rfl ?_)
  rw [decide_eq_false hn2]
  repeat' (first | ((refine Qa rfl ?_); (first | refine Q0 ?_ | refine Q2 rfl ?_ | refine Q5 rfl ?_); (refine QX rfl rfl ?_)) | refine Qh ?_ | refine Qs ?_)
  rw [decide_eq_false hn3]
  repeat' (first | refine Ql ?_ | refine Qm ?_ | refine Qq rfl ?_)
  refine awp_region_auto2 [] [] (by exact rfl) (by kernel_rfl) ?_
  repeat' ((apply Qd rfl rfl rfl rfl); (first | refine Q0 ?_ | refine Q3 rfl rfl rfl ?_); (exact QX rfl rfl ⟨rfl, rfl⟩))
  apply ds rfl rfl rfl rfl
  · refine st_call (fun _ => rfl) rfl ?_
    refine ACalls.mono (acalls_pure (E := E0 X) hst (by simp [IdsLtL, IdsLt]) _) ?_
    rintro r H' ⟨rfl, rfl⟩
    first
    | exact nx rfl rfl ⟨rfl, rfl⟩
    | exact nx0 ⟨rfl, rfl⟩
  repeat' ((apply Qd rfl rfl rfl rfl); (first | refine Q0 ?_ | refine Q3 rfl rfl rfl ?_ | refine Q4 rfl rfl rfl rfl rfl ?_); (exact QX rfl rfl ⟨rfl, rfl⟩))
  apply ds rfl rfl rfl rfl
  · refine st_call (fun _ => rfl) rfl ?_
    refine ACalls.mono (acalls_pure (E := E0 X) hre (by simp [IdsLtL, IdsLt]) _) ?_
    rintro r H' ⟨rfl, rfl⟩
    first
    | exact nx rfl rfl ⟨rfl, rfl⟩
    | exact nx0 ⟨rfl, rfl⟩
  repeat' (first | ((apply Qd rfl rfl rfl rfl); (refine Q1 ?_); (exact QX rfl rfl ⟨rfl, rfl⟩)) | refine Qk ?_ | refine Qs ?_)
  refine awp_ret ?_
  exact ⟨_, rfl, rfl⟩
end Go.Abs
namespace Go.Abs
attribute [local irreducible] AStep aops AWp Nx awM
set_option maxHeartbeats 0 in
set_option maxRecDepth 100000 in
theorem feq_c (X : Nat → Prop) (a : List (Nat × Rec)) (hl : a.length ≤ 1073741824) (hk : ∀ p ∈ a, p.2.key.length ≤ 1073741824 ∧ p.2.val.length ≤ 1073741824) :
    ACalls (E0 X) 44 [.sl 6 (a.map foA), .sl 6 (a.map foA)] [] (fun r H' => r = .bool true ∧ H' = []) := by
  have ham : (a.map foA).length = a.length := List.length_map _
  refine acalls_of Proofs.Tryd.func44 rfl Proofs.Tryd.ntmps44 (by kernel_rfl) rfl ?_
  intro hH hargs
  clear hH hargs
  repeat' (first | ((refine Qa rfl ?_); (first | refine Q0 ?_ | refine Q1 ?_ | refine Q2 rfl ?_ | refine Q7 rfl rfl rfl ?_); (refine QX rfl rfl ?_)) | refine Qh ?_ | refine Ql ?_ | refine Qo rfl ?_ | refine Qs ?_)
  rw [decide_eq_false (show ¬ ¬ ((a.map foA).length : Int) = ((a.map foA).length : Int) from fun h => h rfl)]
  repeat' (first | ((refine Qa rfl ?_); (first | refine Q0 ?_ | refine Q7 rfl rfl rfl ?_); (refine QX rfl rfl ?_)) | refine Qh ?_ | refine Ql ?_ | refine Qm ?_ | refine Qn ?_ | refine Qo rfl ?_ | refine Qq rfl ?_)
  refine awp_loop2 (fun k : Nat => ⟨[(0, .sl 6 (a.map foA)), (1, .sl 6 (a.map foA)), (12, .int .i64 (a.length : Int)), (13, .int .i64 (k : Int))], []⟩) (fun k => k ≤ a.length) (fun k => a.length - k) 0 (Nat.zero_le _) ?_ ?_
  · refine imp_cutk 0 (Nat.zero_le _) hok_nil rfl (by simp) ?_
    repeat' (first | exact fa_nil | refine fa_cons ⟨?_, ?_⟩ ?_)
    all_goals (try first | exact rfl | exact trivial | (simp [IdsLt]; done) | (simp [get_cons]; done) | (simp [get_cons, *]; done) | (refine congrArg (AV.int .i64) (wrap_eq ?_ ?_ ?_) <;> (first | omega | (simp; omega))))
    all_goals exact idsL_map fun _ => foA_ids
  rintro k hka
  repeat' (first | ((refine Qa rfl ?_); (refine Q2 rfl ?_); (refine QX rfl rfl ?_)) | refine Qh ?_ | refine Ql ?_ | refine Qo rfl ?_)
  refine awp_cond_dec rfl (fun h3 => ?_) (fun h3 => ?_)
  · have hlt : k < a.length := by omega
    obtain ⟨p, hp⟩ : ∃ p, a[k]? = some p := ⟨_, List.getElem?_eq_getElem hlt⟩
    obtain ⟨hk1, hk2⟩ := hk p (List.mem_of_getElem? hp)
    have heq := fun X => req_c X p.2 p.2 (by omega) (by omega)
    rw [decide_eq_true (rfl : p.2 = p.2)] at heq
    obtain ⟨off, r⟩ := p
    repeat' (first | ((refine Qa rfl ?_); (first | refine Q0 ?_ | refine Q1 ?_); (refine QX rfl rfl ?_)) | refine Qh ?_ | refine Ql ?_ | refine Qm ?_ | refine Qn ?_ | refine Qo rfl ?_)
    refine awp_region_auto2 [] [] (by exact rfl) (by kernel_rfl) ?_
    repeat' ((apply Qd rfl rfl rfl rfl); (refine Q0 ?_); (exact QX rfl rfl ⟨rfl, rfl⟩))
    apply ds rfl rfl rfl rfl
    · refine st_ixm hp rfl rfl rfl rfl rfl rfl rfl (by first | rfl | omega) rfl ?_
      first | exact nx rfl rfl ⟨rfl, rfl⟩ | exact nx0 ⟨rfl, rfl⟩
    repeat' ((apply Qd rfl rfl rfl rfl); (first | refine Q0 ?_ | refine Q3 rfl rfl rfl ?_ | refine Q4 rfl rfl rfl rfl rfl ?_); (exact QX rfl rfl ⟨rfl, rfl⟩))
    apply ds rfl rfl rfl rfl
    · refine st_ixm hp rfl rfl rfl rfl rfl rfl rfl (by first | rfl | omega) rfl ?_
      first | exact nx rfl rfl ⟨rfl, rfl⟩ | exact nx0 ⟨rfl, rfl⟩
    repeat' ((apply Qd rfl rfl rfl rfl); (first | refine Q0 ?_ | refine Q2 rfl ?_ | refine Q3 rfl rfl rfl ?_ | refine Q4 rfl rfl rfl rfl rfl ?_); (exact QX rfl rfl ⟨rfl, rfl⟩))
    rw [decide_eq_false (show ¬ ¬ (off : Int) = (off : Int) from fun h => h rfl)]
    repeat' ((apply Qd rfl rfl rfl rfl); (refine Q0 ?_); (exact QX rfl rfl ⟨rfl, rfl⟩))
    apply ds rfl rfl rfl rfl
    · refine st_ixm hp rfl rfl rfl rfl rfl rfl rfl (by first | rfl | omega) rfl ?_
      first | exact nx rfl rfl ⟨rfl, rfl⟩ | exact nx0 ⟨rfl, rfl⟩
    repeat' ((apply Qd rfl rfl rfl rfl); (first | refine Q0 ?_ | refine Q3 rfl rfl rfl ?_ | refine Q4 rfl rfl rfl rfl rfl ?_); (exact QX rfl rfl ⟨rfl, rfl⟩))
    apply ds rfl rfl rfl rfl
    · refine st_ixm hp rfl rfl rfl rfl rfl rfl rfl (by first | rfl | omega) rfl ?_
      first | exact nx rfl rfl ⟨rfl, rfl⟩ | exact nx0 ⟨rfl, rfl⟩
    repeat' ((apply Qd rfl rfl rfl rfl); (first | refine Q0 ?_ | refine Q2 rfl ?_ | refine Q3 rfl rfl rfl ?_ | refine Q4 rfl rfl rfl rfl rfl ?_ | refine Q5 rfl ?_); (exact QX rfl rfl ⟨rfl, rfl⟩))
    rw [decide_eq_false (show ¬ ¬ (lenR r : Int) = (lenR r : Int) from fun h => h rfl)]
    repeat' ((apply Qd rfl rfl rfl rfl); (refine Q0 ?_); (exact QX rfl rfl ⟨rfl, rfl⟩))
    apply ds rfl rfl rfl rfl
    · refine st_ixm hp rfl rfl rfl rfl rfl rfl rfl (by first | rfl | omega) rfl ?_
      first | exact nx rfl rfl ⟨rfl, rfl⟩ | exact nx0 ⟨rfl, rfl⟩
    repeat' ((apply Qd rfl rfl rfl rfl); (first | refine Q0 ?_ | refine Q3 rfl rfl rfl ?_ | refine Q4 rfl rfl rfl rfl rfl ?_); (exact QX rfl rfl ⟨rfl, rfl⟩))
    apply ds rfl rfl rfl rfl
    · refine st_ixm hp rfl rfl rfl rfl rfl rfl rfl (by first | rfl | omega) rfl ?_
      first | exact nx rfl rfl ⟨rfl, rfl⟩ | exact nx0 ⟨rfl, rfl⟩
    repeat' ((apply Qd rfl rfl rfl rfl); (first | refine Q3 rfl rfl rfl ?_ | refine Q4 rfl rfl rfl rfl rfl ?_); (exact QX rfl rfl ⟨rfl, rfl⟩))
    apply ds rfl rfl rfl rfl
    · refine st_call (fun _ => rfl) rfl ?_
      refine ACalls.mono (acalls_pure (E := E0 X) heq (by simp [IdsLtL]) _) ?_
      rintro r H' ⟨rfl, rfl⟩
      first
      | exact nx rfl rfl ⟨rfl, rfl⟩
      | exact nx0 ⟨rfl, rfl⟩
    repeat' (first | ((first | refine Qa rfl ?_ | apply Qd rfl rfl rfl rfl); (first | refine Q0 ?_ | refine Q2 rfl ?_ | refine Q5 rfl ?_ | refine QD rfl ?_); (first | exact QX rfl rfl ⟨rfl, rfl⟩ | refine QX rfl rfl ?_)) | refine Qh ?_ | refine Qk ?_ | refine Qm ?_ | refine Qo rfl ?_ | refine Qq rfl ?_ | refine Qs ?_)
    refine ⟨k + 1, hlt, by omega, imp_cutk 0 (Nat.zero_le _) hok_nil rfl (by simp) ?_⟩
    repeat' (first | exact fa_nil | refine fa_cons ⟨?_, ?_⟩ ?_)
    all_goals (try first | exact rfl | exact trivial | (simp [IdsLt]; done) | (simp [get_cons]; done) | (simp [get_cons, *]; done) | (refine congrArg (AV.int .i64) (wrap_eq ?_ ?_ ?_) <;> (first | omega | (simp; omega))))
    all_goals exact idsL_map fun _ => foA_ids
  · repeat' (first | ((refine Qa rfl ?_); (refine Q1 ?_); (refine QX rfl rfl ?_)) | refine Qh ?_ | refine Ql ?_ | refine Qo rfl ?_ | refine Qr ?_ | refine Qs ?_)
    refine awp_ret ?_
    refine ⟨_, rfl, ?_, ?_⟩
    · rfl
    · rfl
end Go.Abs
namespace Go.Abs
theorem decF_short {k s n : Nat} {b : List UInt8} (h : b.length ≠ 64) : decF k s n b = none := by
  unfold decF
  rw [if_neg fun hh => h hh.1]
theorem strF_strR {L : Nat} {v : Dv} (hv : Lv L v) (seq : Nat) : ∀ n s, strF v seq n s = strR v.image seq n s
  | 0, _ => rfl
  | n + 1, s => by
    have ih := strF_strR hv seq n (s + 1)
    have e1 : strF v seq (n + 1) s = if v.check (s : Int) ≠ 0 then [] else match decF 2 seq s ((v.image.drop (s * 64)).take 64) with
        | none => []
        | some p => p ++ strF v seq n (s + 1) := rfl
    have e2 : strR v.image seq (n + 1) s = match decF 2 seq s (secB v.image (s : Int)) with
        | none => []
        | some p => p ++ strR v.image seq n (s + 1) := rfl
    have h64 := hv.inv.load.1
    rw [e1, e2, check_eq hv.inv, hv.dead, ih]
    simp only [Bool.false_eq_true, if_false]
    by_cases hin : s * 64 + 64 ≤ v.image.length
    · rw [if_neg (show ¬ ((s : Int) < 0 ∨ ((v.image.length / 64 : Nat) : Int) ≤ (s : Int)) by omega)]
      simp only [ne_eq, not_true_eq_false, if_false]
      have e3 : secB v.image (s : Int) = (v.image.drop (s * 64)).take 64 := by
        unfold secB
        rw [if_neg (by omega), Int.toNat_natCast]
      rw [e3]
    · rw [if_pos (show ((s : Int) < 0 ∨ ((v.image.length / 64 : Nat) : Int) ≤ (s : Int)) by omega)]
      have e3 : secB v.image (s : Int) = [] := by
        unfold secB
        rw [if_pos (by omega)]
      rw [if_pos (by decide), e3, decF_short (by decide)]
attribute [local irreducible] AStep aops AWp Nx awM
set_option maxHeartbeats 0 in
set_option maxRecDepth 100000 in
theorem fenc_own (X : Nat → Prop) (kind salt sector : Nat) (p : List UInt8) (hm : 1 ≤ kind ∧ kind ≤ 4 ∧ sector < 1048576) (hs : salt < 9223372036854775808) (hp : p.length ≤ 59) :
    ACalls (E0 X) 103 [.int .i64 (kind : Int), .int .i64 (salt : Int), .int .i64 (sector : Int), .sl 1 (p.map u8A)] [] (fun r H' => r = .tup [.own 0 0 64, .int .i64 0] ∧ H' = [some (.arr ((encF kind salt sector p).map u8A) 5)]) := by
  have hmay : mayB (kind : Int) (salt : Int) (sector : Int) = true := by simp [mayB]; omega
  have hpos := possible_c X kind salt sector
  rw [hmay] at hpos
  have hcc := concat_c X [[UInt8.ofNat (kind % 256)], p, List.replicate (59 - p.length) 0] (by simp) (by simp; omega) (by simp)
  rw [show [[UInt8.ofNat (kind % 256)], p, List.replicate (59 - p.length) 0].flatten = frB kind p by simp [frB]] at hcc
  have hmk : IntKind.i64.wrap (59 - ((p.map u8A).length : Int)) = ((59 - p.length : Nat) : Int) := by rw [List.length_map]; exact wrap_eq (by omega) (by omega) (by omega)
  have hbl := frB_len (kind := kind) hp
  refine acalls_of Proofs.Tryd.func103 rfl Proofs.Tryd.ntmps103 (by kernel_rfl) rfl ?_
  intro hH hargs
  clear hH hargs
  repeat' (first | ((refine Qa rfl ?_); (first | refine Q0 ?_ | refine Q1 ?_); (refine QX rfl rfl ?_)) | refine Qa rfl ?_ | refine Qh ?_ | refine Ql ?_ | refine Qn ?_ | refine Qo rfl ?_)
  refine st_call (fun _ => rfl) rfl ?_
  refine ACalls.mono (hpos) ?_
  rintro r H' ⟨rfl, rfl⟩
  first | refine nx rfl rfl ?_ | refine nx0 ?_
  repeat' (first | ((refine Qa rfl ?_); (first | refine Q0 ?_ | refine Q1 ?_ | refine Q2 rfl ?_ | refine Q7 rfl rfl rfl ?_ | refine QD rfl ?_); (refine QX rfl rfl ?_)) | refine Qh ?_ | refine Ql ?_ | refine Qo rfl ?_ | refine Qq rfl ?_ | refine Qs ?_)
  refine awp_cond_dec rfl (fun h9 => ?_) (fun h9 => ?_)
  · exfalso; simp at h9; omega
  repeat' (first | ((refine Qa rfl ?_); (first | refine Q0 ?_ | refine Q2 rfl ?_ | refine Q7 rfl rfl rfl ?_ | refine QG rfl rfl rfl rfl ?_ | refine QR rfl rfl rfl rfl rfl rfl rfl rfl rfl rfl rfl rfl ?_); (refine QX rfl rfl ?_)) | refine Qa rfl ?_ | refine Ql ?_ | refine Qm ?_ | refine Qo rfl ?_)
  rw [byte_of]
  refine st_mks (n := 59 - p.length) (el := u8A 0) rfl rfl (hmk) (hmk) ?_ ?_ rfl rfl rfl rfl rfl rfl (.inr rfl) (.inr rfl) rfl rfl ?_
  · show 1 * _ ≤ 281474976710656
    first
    | omega
    | (simp; omega)
  · show _ ≤ 9223372036854775807
    omega
  first | refine nx rfl rfl ?_ | refine nx0 ?_
  rw [show List.replicate (59 - p.length) (u8A 0) = (List.replicate (59 - p.length) (0 : UInt8)).map u8A by simp]
  repeat' (first | ((refine Qa rfl ?_); (refine QR rfl rfl rfl rfl rfl rfl rfl rfl rfl rfl rfl rfl ?_); (refine QX rfl rfl ?_)) | refine Qa rfl ?_)
  refine st_call (fun _ => rfl) rfl ?_
  refine ACalls.mono (hcc) ?_
  rintro r H' ⟨rfl, rfl⟩
  first | refine nx rfl rfl ?_ | refine nx0 ?_
  generalize hfb : frB kind p = b at *
  repeat' (first | ((refine Qa rfl ?_); (first | refine Q0 ?_ | refine Q1 ?_ | refine QG rfl rfl rfl rfl ?_); (refine QX rfl rfl ?_)) | refine Qa rfl ?_ | refine Qh ?_ | refine Ql ?_ | refine Qo rfl ?_)
  rw [wrap64 (by omega)]
  refine st_call (fun _ => rfl) rfl ?_
  refine ACalls.mono (putnil_c X salt 8 (by decide) (by decide)) ?_
  rintro r H' ⟨rfl, rfl⟩
  first | refine nx rfl rfl ?_ | refine nx0 ?_
  repeat' (first | ((refine Qa rfl ?_); (first | refine Q0 ?_ | refine QG rfl rfl rfl rfl ?_); (refine QX rfl rfl ?_)) | refine Qa rfl ?_)
  rw [wrap64 (by omega)]
  refine st_call (fun _ => rfl) rfl ?_
  refine ACalls.mono (put_c X (putN [] salt 8) sector 4 (by decide) (by decide) (by rw [putN_len]; simp)) ?_
  rintro r H' ⟨rfl, rfl⟩
  first | refine nx rfl rfl ?_ | refine nx0 ?_
  repeat' (first | ((refine Qa rfl ?_); (first | refine Q0 ?_ | refine Q1 ?_); (refine QX rfl rfl ?_)) | refine Qa rfl ?_ | refine Qh ?_ | refine Ql ?_ | refine Qo rfl ?_)
  refine st_call (fun _ => rfl) rfl ?_
  refine ACalls.mono (crcSum_c X (putN (putN [] salt 8) sector 4) (by rw [putN_len, putN_len]; simp)) ?_
  rintro r H' ⟨rfl, rfl⟩
  first | refine nx rfl rfl ?_ | refine nx0 ?_
  repeat' (first | ((refine Qa rfl ?_); (refine Q0 ?_); (refine QX rfl rfl ?_)) | refine Qa rfl ?_)
  refine st_call (fun _ => rfl) rfl ?_
  refine ACalls.mono (crcUpd_c X (updN 0 (putN (putN [] salt 8) sector 4)) (updN_lt (by decide) _) b (by omega)) ?_
  rintro r H' ⟨rfl, rfl⟩
  first | refine nx rfl rfl ?_ | refine nx0 ?_
  have hlt : updN (updN 0 (putN (putN [] salt 8) sector 4)) b < 4294967296 := updN_lt (updN_lt (by decide) _) _
  repeat' (first | ((refine Qa rfl ?_); (first | refine Q0 ?_ | refine Q1 ?_ | refine QG rfl rfl rfl rfl ?_); (refine QX rfl rfl ?_)) | refine Qa rfl ?_ | refine Qh ?_ | refine Ql ?_ | refine Qo rfl ?_)
  rw [wrap64 (by omega)]
  refine st_call (fun _ => rfl) rfl ?_
  refine ACalls.mono (put_own X b (updN (updN 0 (putN (putN [] salt 8) sector 4)) b) 4 (by decide) (by decide) (by omega)) ?_
  rintro r H' ⟨rfl, rfl⟩
  first | refine nx rfl rfl ?_ | refine nx0 ?_
  repeat' (first | ((refine Qa rfl ?_); (refine Q1 ?_); (refine QX rfl rfl ?_)) | refine Qh ?_ | refine Qs ?_)
  refine awp_ret ?_
  refine ⟨_, rfl, ?_, ?_⟩
  · rw [hbl]; rfl
  · rw [encF, hfb]; rfl
theorem fenc_at (X : Nat → Prop) (H : Hp) (x : AV) (kind salt sector : Nat) (p : List UInt8) (hm : 1 ≤ kind ∧ kind ≤ 4 ∧ sector < 1048576) (hs : salt < 9223372036854775808) (hp : p.length ≤ 59) (hx : srcA (E0 X) H 1 x = some (p.map u8A)) :
    ACalls (E0 X) 103 [.int .i64 (kind : Int), .int .i64 (salt : Int), .int .i64 (sector : Int), x] H (fun r H' => r = .tup [.own H.length 0 64, .int .i64 0] ∧ H' = H ++ [some (.arr ((encF kind salt sector p).map u8A) 5)]) := by
  refine (acalls_make (E := E0 X) (P := fun v H' => v = .tup [.own 0 0 64, .int .i64 0] ∧ H' = [some (.arr ((encF kind salt sector p).map u8A) 5)]) (fun X => fenc_own X kind salt sector p hm hs hp) (fun r h' h => by
    obtain ⟨h1, h2⟩ := h; subst h1; subst h2; exact ⟨rfl, by simp [noFzH, noFzO, noFz_map (f := u8A) (fun _ => rfl)]⟩) (Bor.same trivial (Bor.same trivial (Bor.same trivial (Bor.sl (u8_ids _) hx .nil))))).mono ?_
  rintro r H' ⟨r0, h', ⟨rfl, rfl⟩, rfl, rfl⟩
  refine ⟨by simp [rnA, rnL], ?_⟩
  show H ++ [some (AO.arr (rnL _ (List.map u8A _)) _)] = _
  rw [rnL_map (fun _ => rfl)]
end Go.Abs

