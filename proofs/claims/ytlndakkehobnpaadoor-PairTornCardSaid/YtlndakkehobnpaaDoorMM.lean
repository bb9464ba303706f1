/- Superblocks: what Decode reads; weaker results. Joined texts, each with what its own name promises; no condition beyond those stated. -/
import Derived.Test.YtlndakkehobnpaaDoorML
import Derived.Test.YtlndakkehobnpaaDoorME
import Derived.Test.YtlndakkehobnpaaDoorMJ
import Derived.Test.YtlndakkehobnpaaDoorMC
namespace Go.Abs
theorem imp_weakR {E : Env} {N n0 : Nat} {H : Hp} {r r' : AV} (h : ∀ m w v, E.Rel m w r v → E.Rel m w r' v) : Imp E N n0 ⟨[(0, r)], H⟩ ⟨[(0, r')], H⟩ := fun _ _ _ m w a he hs => by
  refine ⟨m, he, ⟨hs.ok, fun k => ?_, hs.size, hs.defers, hs.sim, hs.glob⟩⟩
  have h1 := hs.slots k
  by_cases hk : k = 0
  · subst hk; exact h _ _ _ h1
  · have e : ∀ x : AV, get [(0, x)] k = .any := fun x => by
      match k, hk with
      | 0, hk => exact absurd rfl hk
      | _ + 1, _ => rfl
    show Abs.Rel E.cx m w (get [(0, r')] k) _
    rw [e]
    simp [Abs.Rel]
theorem ACalls.weakR {E : Env} {f : FuncId} {args : List AV} {H : Hp} {R R' : AV → Hp → Prop} (h : ACalls E f args H R) (k : ∀ r H', R r H' → ∃ r', R' r' H' ∧ ∀ m w v, E.Rel m w r v → E.Rel m w r' v) : ACalls E f args H R' :=
  h.imp fun r H' hr => by
    obtain ⟨r', h1, h2⟩ := k r H' hr
    exact ⟨r', H', h1, imp_weakR h2⟩
theorem relL_last {E : Env} {m : Mu} {w : World} {a b : AV} (h : ∀ v, E.Rel m w a v → E.Rel m w b v) : ∀ {xs : List AV} {us : List Value}, E.RelL m w (xs ++ [a]) us → E.RelL m w (xs ++ [b]) us
  | [], us, h1 => by
    obtain ⟨u, r, rfl, h2, h3⟩ := relL_cons.1 h1
    exact RelL.cons (h _ h2) h3
  | x :: xs, us, h1 => by
    obtain ⟨u, r, rfl, h2, h3⟩ := relL_cons.1 h1
    exact RelL.cons h2 (relL_last h h3)
/-- A superblock whose list of foreign layouts is the value fv. -/
def sbF (s : Sb) (fv : AV) : List AV := [.int .i64 s.gen, .int .i64 s.phase, .int .i64 s.mig, .int .i64 s.tail, .int .i64 s.now, .int .i64 s.t.id, .int .i64 s.t.ver, .int .i64 s.t.rs, .int .i64 s.t.regs, .int .i64 s.h.id, .int .i64 s.h.ver, .int .i64 s.h.rs, .int .i64 s.h.regs, fv]
theorem rel_sbF {E : Env} {m : Mu} {w : World} {s : Sb} {fv : AV} {v : Value} (h : ∀ v, E.Rel m w fv v → E.Rel m w (.sl 4 (s.fo.map laA)) v) (hr : E.Rel m w (.agg (sbF s fv)) v) : E.Rel m w (sbA s) v := by
  simp only [Env.Rel, Abs.Rel, sbA] at hr ⊢
  obtain ⟨us, rfl, h1⟩ := hr
  refine ⟨us, rfl, ?_⟩
  exact relL_last (E := E) (xs := [.int .i64 s.gen, .int .i64 s.phase, .int .i64 s.mig, .int .i64 s.tail, .int .i64 s.now, .int .i64 s.t.id, .int .i64 s.t.ver, .int .i64 s.t.rs, .int .i64 s.t.regs, .int .i64 s.h.id, .int .i64 s.h.ver, .int .i64 s.h.rs, .int .i64 s.h.regs]) h h1
theorem rel_tup2 {E : Env} {m : Mu} {w : World} {a b c : AV} (h : ∀ v, E.Rel m w a v → E.Rel m w b v) (v : Value) (hr : E.Rel m w (.tup [a, c]) v) : E.Rel m w (.tup [b, c]) v := by
  simp only [Env.Rel, Abs.Rel] at hr ⊢
  obtain ⟨us, rfl, h1⟩ := hr
  obtain ⟨u, r, rfl, h2, h3⟩ := relL_cons.1 h1
  exact ⟨_, rfl, RelL.cons (h _ h2) h3⟩
def parS (bs : List UInt8) : Sb :=
  ⟨(numN ((bs.drop 0).take 5) : Nat), (numN ((bs.drop 5).take 1) : Nat), (numN ((bs.drop 6).take 4) : Nat), (numN ((bs.drop 10).take 6) : Nat), (numN ((bs.drop 16).take 5) : Nat), parL bs 21, parL bs 28,
   if numN ((bs.drop 35).take 1) = 1 then [parL bs 28] else if numN ((bs.drop 35).take 1) = 2 then [parL bs 28, parL bs 36] else []⟩
def zeroS : Sb := ⟨0, 0, 0, 0, 0, ⟨0, 0, 0, 0⟩, ⟨0, 0, 0, 0⟩, []⟩
def optS (o : Option Sb) : AV := match o with
  | some p => .tup [sbA p, .bool true]
  | none => .tup [sbA zeroS, .bool false]
def decS (b : List UInt8) (sector : Nat) : Option Sb := match decF 3 0 sector b with
  | none => none
  | some pay => if encSO (parS pay) sector = some b then some (parS pay) else none
theorem rel_nil4 {E : Env} (m : Mu) (w : World) (v : Value) (h : E.Rel m w .nils v) : E.Rel m w (.sl 4 (([] : List La).map laA)) v := rel_nils 4 h
theorem none_w {E : Env} {m : Mu} {w : World} (v : Value) (h : E.Rel m w (.tup [.agg (sbF zeroS .nils), .bool false]) v) : E.Rel m w (optS none) v :=
  rel_tup2 (fun _v h => rel_sbF (s := zeroS) (rel_nil4 m w) h) v h
attribute [local irreducible] AStep aops AWp Nx awM
set_option maxHeartbeats 0 in
theorem sclo_c (X : Nat → Prop) (bs : List UInt8) (lo w : Nat) (hw : 1 ≤ w) (hw6 : w ≤ 6) (h : lo + w ≤ bs.length) (hb : bs.length ≤ 1000) :
    ACalls (E0 X) 115 [.int .i64 (w : Int), .fp [.ptr 1 0]] (rdrH bs lo) (fun r H' => r = .int .i64 (numN ((bs.drop lo).take w) : Int) ∧ H' = rdrH bs (lo + w)) := by
  have s1 := num_small (bs := bs) (lo := lo) (w := w) hw6
  have c1 := num_c X bs lo w hw (by omega) h hb
  generalize numN ((bs.drop lo).take w) = n at *
  refine acalls_of Proofs.Tryd.func115 rfl Proofs.Tryd.ntmps115 (by kernel_rfl) rfl ?_
  intro hH hargs
  clear hH hargs
  repeat' (first | ((refine Qa rfl ?_); (first | refine Q0 ?_ | refine Q1 ?_ | refine Q3 rfl rfl rfl ?_); (refine QX rfl rfl ?_)) | refine Qa rfl ?_ | refine Qh ?_ | refine Ql ?_ | refine Qo rfl ?_)
  refine st_call (fun _ => rfl) rfl ?_
  refine ACalls.mono (c1) ?_
  rintro r H' ⟨rfl, rfl⟩
  first | refine nx rfl rfl ?_ | refine nx0 ?_
  repeat' (first | ((refine Qa rfl ?_); (first | refine Q1 ?_ | refine QG rfl rfl rfl rfl ?_); (refine QX rfl rfl ?_)) | refine Qh ?_ | refine Qs ?_)
  refine awp_ret ?_
  refine ⟨_, rfl, ?_, ?_⟩
  · exact congrArg (AV.int .i64) (wrapI s1)
  · rfl
theorem sclo_at (X : Nat → Prop) (bs : List UInt8) (lo w : Nat) (hw : 1 ≤ w) (hw6 : w ≤ 6) (h : lo + w ≤ bs.length) (hb : bs.length ≤ 1000) (L R : Hp) (s : Nat) (hs : L.length = s) :
    ACalls (E0 X) 115 [.int .i64 (w : Int), .fp [.ptr (1 + s) 0]] (L ++ rdrS bs s lo ++ R) (fun r H' => r = .int .i64 (numN ((bs.drop lo).take w) : Int) ∧ H' = L ++ rdrS bs s (lo + w) ++ R) := by
  subst hs
  have hm : ∀ lo, mapH (sh L.length R.length 2) (rdrH bs lo) = rdrS bs L.length lo := fun lo => mapH_rdrG _ 0 L.length bs lo (by simp [sh])
  refine ACalls.conv (ACalls.frameLR (E := E0 X) (fun X => sclo_c X bs lo w hw hw6 h hb) L R (some_rdr bs lo) ⟨trivial, ⟨by simp [IdsLt, rdrH], trivial⟩, trivial⟩ (hok_rdr bs lo)) ?_ (by rw [show (rdrH bs lo).length = 2 from rfl, hm]) ?_
  · simp [rnL, rnA, sh, rdrH]
  · rintro q H' ⟨r1, h', ⟨rfl, rfl⟩, -, rfl, rfl⟩
    refine ⟨rfl, ?_⟩
    show L ++ mapH (sh L.length R.length 2) (rdrH bs (lo + w)) ++ R ++ [] = _
    rw [hm, List.append_nil]
theorem senc_w (X : Nat → Prop) (s : Sb) (fv : AV) (hfv : ∀ m w v, (E0 X).Rel m w fv v → (E0 X).Rel m w (.sl 4 (s.fo.map laA)) v) (sector : Nat) (hs : sector < 1048576) (hfl : s.fo.length ≤ 4611686018427387904) :
    ACalls (E0 X) 71 [.agg (sbF s fv), .int .i64 (sector : Int)] [] (fun r H' => r = (match encSO s sector with | some e => .tup [.sl 1 (e.map u8A), .int .i64 0] | none => .tup [.nils, .int .i64 4]) ∧ H' = []) :=
  ACalls.weak (senc_o X s sector hs hfl) fun m w vs h => by
    obtain ⟨u1, r1, rfl, h1, h⟩ := relL_cons.1 h
    exact RelL.cons (rel_sbF (hfv m w) h1) h
end Go.Abs
namespace Go.Abs
def zOs : AO := .cells (sbF zeroS .nils) 50
def sdH (bs : List UInt8) (lo : Nat) (s : Sb) (fv : AV) : Hp := [some zOs, some (.arr (bs.map u8A) 5), some (rdrC bs 1 lo), some (.cells (sbF s fv) 50)]
theorem hok_sd (bs : List UInt8) (lo : Nat) (s : Sb) (l : List La) : HOk 4 (sdH bs lo s (.sl 4 (l.map laA))) := fun j o ho => by
  match j, ho with
  | 0, ho => cases ho; exact ⟨trivial, trivial, trivial, trivial, trivial, trivial, trivial, trivial, trivial, trivial, trivial, trivial, trivial, trivial, trivial⟩
  | 1, ho => cases ho; exact idsL_map fun _ => u8A_ids
  | 2, ho => cases ho; exact ⟨by simp [IdsLt], trivial, trivial⟩
  | 3, ho => cases ho; exact ⟨trivial, trivial, trivial, trivial, trivial, trivial, trivial, trivial, trivial, trivial, trivial, trivial, trivial, la_ids _, trivial⟩
theorem hok_sdn (bs : List UInt8) (lo : Nat) (s : Sb) : HOk 4 (sdH bs lo s .nils) := fun j o ho => by
  match j, ho with
  | 0, ho => cases ho; exact ⟨trivial, trivial, trivial, trivial, trivial, trivial, trivial, trivial, trivial, trivial, trivial, trivial, trivial, trivial, trivial⟩
  | 1, ho => cases ho; exact idsL_map fun _ => u8A_ids
  | 2, ho => cases ho; exact ⟨by simp [IdsLt], trivial, trivial⟩
  | 3, ho => cases ho; exact ⟨trivial, trivial, trivial, trivial, trivial, trivial, trivial, trivial, trivial, trivial, trivial, trivial, trivial, trivial, trivial⟩
theorem hok_sd3 (bs : List UInt8) (lo : Nat) : HOk 3 [some zOs, some (.arr (bs.map u8A) 5), some (rdrC bs 1 lo)] := fun j o ho => by
  match j, ho with
  | 0, ho => cases ho; exact ⟨trivial, trivial, trivial, trivial, trivial, trivial, trivial, trivial, trivial, trivial, trivial, trivial, trivial, trivial, trivial⟩
  | 1, ho => cases ho; exact idsL_map fun _ => u8A_ids
  | 2, ho => cases ho; exact ⟨by simp [IdsLt], trivial, trivial⟩
theorem awp_midB {E : Env} {N n0 i : Nat} {Q2 Q : Exit → St → Prop} {s s1 : St} {c c2 : Code} (h1 : AWp E N n0 c (fun e s => e = .normal ∧ Imp E N n0 s s1) s) (h2 : AWp E N n0 c2 Q2 s1) : AWp E N n0 c (InBlk i (Then (AWp E N n0 c2 Q2) Q)) s :=
  awp_mono h1 fun e s h => by obtain ⟨rfl, hi⟩ := h; exact awp_pre hi h2
attribute [local irreducible] AStep aops AWp Nx awM
set_option maxHeartbeats 0 in
set_option maxRecDepth 100000 in
theorem sdec_c (X : Nat → Prop) (b : List UInt8) (sector : Nat) (hs : sector < 1048576) (hb : b.length ≤ 1000) :
    ACalls (E0 X) 68 [.sl 1 (b.map u8A), .int .i64 (sector : Int)] [] (fun r H' => r = optS (decS b sector) ∧ H' = []) := by
  refine ACalls.cut0 ?_ (by unfold optS; split <;> exact ⟨sbA_ids, trivial, trivial⟩)
  refine ACalls.weakR (R := fun r _ => (r = .tup [.agg (sbF zeroS .nils), .bool false] ∧ decS b sector = none) ∨ (∃ s fv, r = .tup [.agg (sbF s fv), .bool true] ∧ decS b sector = some s ∧ ∀ m w v, (E0 X).Rel m w fv v → (E0 X).Rel m w (.sl 4 (s.fo.map laA)) v)) ?_ ?_
  rotate_left
  · rintro r H' (⟨rfl, h2⟩ | ⟨s, fv, rfl, h2, h3⟩)
    · exact ⟨_, rfl, fun m w v h => by rw [h2]; exact none_w v h⟩
    · exact ⟨_, rfl, fun m w v h => by rw [h2]; exact rel_tup2 (fun v h => rel_sbF (h3 m w) h) v h⟩
  have hdec := fun X => fdec_c X 3 0 sector b ⟨by decide, by decide, hs⟩ (by decide) (by omega)
  refine acalls_of Proofs.Tryd.func68 rfl Proofs.Tryd.ntmps68 (by kernel_rfl) rfl ?_
  intro hH hargs
  clear hH hargs
  repeat' (first | ((refine Qa rfl ?_); (first | refine Q0 ?_ | refine Q1 ?_ | refine QJ rfl rfl ?_); (refine QX rfl rfl ?_)) | refine Qa rfl ?_ | refine Qh ?_ | refine Ql ?_ | refine Qo rfl ?_)
  refine st_call (fun _ => rfl) rfl ?_
  refine ACalls.mono (acalls_pure (E := E0 X) hdec (by simp [IdsLtL, IdsLt]) _) ?_
  rintro r H' ⟨rfl, rfl⟩
  cases hd : decF 3 0 sector b with
  | none =>
    have e : decS b sector = none := by simp only [decS, hd]
    rw [e]
    show Nx _ (.tup [.nils, .bool false]) _
    first | refine nx rfl rfl ?_ | refine nx0 ?_
    repeat' (first | ((refine Qa rfl ?_); (first | refine Q0 ?_ | refine Q1 ?_ | refine QC rfl rfl ?_ | refine QD rfl ?_ | refine QP rfl rfl rfl rfl rfl rfl ?_); (refine QX rfl rfl ?_)) | (refine Qb rfl ?_; try (refine QS rfl rfl rfl rfl rfl rfl rfl ?_; (refine QX rfl rfl ?_))) | refine Qh ?_ | refine Ql ?_ | refine Qo rfl ?_ | refine Qp rfl ?_ | refine Qs ?_)
    refine awp_ret ?_
    exact ⟨_, rfl, .inl ⟨rfl, rfl⟩⟩
  | some bs =>
    obtain ⟨hbl, -⟩ : bs.length = 59 ∧ b.length = 64 := by
      unfold decF at hd
      split at hd
      · rename_i h1
        simp only [Option.some.injEq] at hd
        subst hd
        simp; omega
      · cases hd
    have e : decS b sector = if encSO (parS bs) sector = some b then some (parS bs) else none := by simp only [decS, hd]
    rw [e]
    show Nx _ (.tup [.sl 1 (bs.map u8A), .bool true]) _
    first | refine nx rfl rfl ?_ | refine nx0 ?_
    repeat' (first | ((refine Qa rfl ?_); (first | refine Q0 ?_ | refine Q1 ?_ | refine QC rfl rfl ?_ | refine QD rfl ?_); (refine QX rfl rfl ?_)) | refine Qa rfl ?_ | refine Qh ?_ | refine Ql ?_ | refine Qm ?_ | refine Qo rfl ?_ | refine Qq rfl ?_)
    refine st_call (fun _ => rfl) rfl ?_
    refine ACalls.mono (newr_at X bs (by omega) _ _ rfl) ?_
    rintro r H' ⟨rfl, rfl⟩
    first | refine nx rfl rfl ?_ | refine nx0 ?_
    repeat' (first | ((refine Qa rfl ?_); (refine QJ rfl rfl ?_); (refine QX rfl rfl ?_)) | (refine Qb rfl ?_; try (refine QS rfl rfl rfl rfl rfl rfl rfl ?_; (refine QX rfl rfl ?_))) | refine Qh ?_)
    refine then_i ?_
    refine awp_pre (imp_freezeP (id := 3) (cs := [.ptr 2 0]) rfl) ?_
    refine awp_pre (imp_cutk 3 (Nat.zero_le _) (hok_sd3 bs 0) rfl (by simp) (sl' := [(0, .sl 1 (b.map u8A)), (1, .int .i64 (sector : Int)), (4, .ptr 0 0), (8, .fp [.ptr 2 0])]) ?_) ?_
    · repeat' (first | exact fa_nil | refine fa_cons ⟨?_, ?_⟩ ?_)
      all_goals (try first | exact rfl | exact trivial | (simp [IdsLt, IdsLtL]; done) | (simp [get_cons]; done) | (simp [get_cons, *]; done) | (refine congrArg (AV.int .i64) (wrap_eq ?_ ?_ ?_) <;> (first | omega | (simp; omega))))
    have q1 := fun R => sclo_at X bs 0 5 (by decide) (by decide) (by omega) (by omega) [some zOs] R 1 rfl
    have q2 := fun R => sclo_at X bs 5 1 (by decide) (by decide) (by omega) (by omega) [some zOs] R 1 rfl
    have q3 := fun R => sclo_at X bs 6 4 (by decide) (by decide) (by omega) (by omega) [some zOs] R 1 rfl
    have q4 := fun R => sclo_at X bs 10 6 (by decide) (by decide) (by omega) (by omega) [some zOs] R 1 rfl
    have q5 := fun R => sclo_at X bs 16 5 (by decide) (by decide) (by omega) (by omega) [some zOs] R 1 rfl
    have q6 := fun R => rlay_at X bs 21 (by omega) (by omega) [some zOs] R 1 rfl
    have q7 := fun R => rlay_at X bs 28 (by omega) (by omega) [some zOs] R 1 rfl
    have q8 := fun R => sclo_at X bs 35 1 (by decide) (by decide) (by omega) (by omega) [some zOs] R 1 rfl
    have q9 := fun R => rlay_at X bs 36 (by omega) (by omega) [some zOs] R 1 rfl
    have hp : parS bs = ⟨(numN ((bs.drop 0).take 5) : Nat), (numN ((bs.drop 5).take 1) : Nat), (numN ((bs.drop 6).take 4) : Nat), (numN ((bs.drop 10).take 6) : Nat), (numN ((bs.drop 16).take 5) : Nat), parL bs 21, parL bs 28,
      if numN ((bs.drop 35).take 1) = 1 then [parL bs 28] else if numN ((bs.drop 35).take 1) = 2 then [parL bs 28, parL bs 36] else []⟩ := rfl
    have s8 := num_small (bs := bs) (lo := 35) (w := 1) (by decide)
    rw [hp]
    generalize numN ((bs.drop 0).take 5) = n1 at *
    generalize numN ((bs.drop 5).take 1) = n2 at *
    generalize numN ((bs.drop 6).take 4) = n3 at *
    generalize numN ((bs.drop 10).take 6) = n4 at *
    generalize numN ((bs.drop 16).take 5) = n5 at *
    generalize numN ((bs.drop 35).take 1) = n8 at *
    generalize parL bs 21 = la at *
    generalize parL bs 28 = lh at *
    generalize parL bs 36 = lf at *
    repeat' (first | ((refine Qa rfl ?_); (first | refine Q1 ?_ | refine QN ?_); (refine QX rfl rfl ?_)) | refine Qh ?_ | refine Ql ?_ | refine Qo rfl ?_)
    refine awp_mid (s1 := ⟨[(0, .sl 1 (b.map u8A)), (1, .int .i64 (sector : Int)), (4, .ptr 0 0), (8, .fp [.ptr 2 0]), (9, (.clo (.func 115) [] [.fp [.ptr 2 0]])), (10, .ptr 3 0)], sdH bs 35 ⟨n1, n2, n3, n4, n5, la, lh, []⟩ .nils⟩) ?_ ?_
    rotate_left
    · skip
      repeat' (first | ((refine Qa rfl ?_); (refine Q0 ?_); (refine QX rfl rfl ?_)) | refine Qa rfl ?_ | refine Ql ?_ | refine Qo rfl ?_)
      refine st_call (fun _ => rfl) rfl ?_
      refine ACalls.mono (q8 _) ?_
      rintro r H' ⟨rfl, rfl⟩
      first | refine nx rfl rfl ?_ | refine nx0 ?_
      repeat' (first | ((refine Qa rfl ?_); (first | refine Q1 ?_ | refine Q2 rfl ?_); (refine QX rfl rfl ?_)) | refine Qh ?_ | refine Ql ?_ | refine Qn ?_ | refine Qo rfl ?_ | refine Qs ?_)
      refine awp_cond_dec rfl (fun h1 => ?_) (fun h1 => ?_)
      · have h1' : n8 = 1 := by omega
        rw [if_pos h1']
        repeat' (first | ((refine Qa rfl ?_); (first | refine Q0 ?_ | refine Q3 rfl rfl rfl ?_ | refine Q4 rfl rfl rfl rfl rfl ?_ | refine QQ rfl rfl rfl rfl rfl rfl rfl rfl rfl rfl rfl ?_); (refine QX rfl rfl ?_)) | refine Qa rfl ?_ | (refine Qb rfl ?_; try (refine QS rfl rfl rfl rfl rfl rfl rfl ?_; (refine QX rfl rfl ?_))) | refine Qh ?_ | refine Ql ?_ | refine Qo rfl ?_)
        refine st_call (fun _ => rfl) rfl ?_
        refine ACalls.mono (acalls_pure (E := E0 X) (fun X => senc_w X ⟨n1, n2, n3, n4, n5, la, lh, [lh]⟩ (.sl 4 ([lh].map laA)) (fun _ _ _ h => h) sector hs (by simp)) ⟨⟨trivial, trivial, trivial, trivial, trivial, trivial, trivial, trivial, trivial, trivial, trivial, trivial, trivial, la_ids [lh], trivial⟩, trivial, trivial⟩ _) ?_
        rintro r H' ⟨rfl, rfl⟩
        cases he : encSO ⟨n1, n2, n3, n4, n5, la, lh, [lh]⟩ sector with
        | none =>
          show Nx _ (.tup [.nils, .int .i64 4]) _
          first | refine nx rfl rfl ?_ | refine nx0 ?_
          repeat' (first | ((refine Qa rfl ?_); (first | refine Q0 ?_ | refine Q1 ?_ | refine Q2 rfl ?_ | refine Q5 rfl ?_ | refine QC rfl rfl ?_ | refine QP rfl rfl rfl rfl rfl rfl ?_); (refine QX rfl rfl ?_)) | (refine Qb rfl ?_; try (refine QS rfl rfl rfl rfl rfl rfl rfl ?_; (refine QX rfl rfl ?_))) | refine Qh ?_ | refine Qi rfl ?_ | refine Ql ?_ | refine Qo rfl ?_ | refine Qp rfl ?_ | refine Qs ?_)
          refine awp_ret ?_
          exact ⟨_, rfl, .inl ⟨rfl, if_neg (by simp)⟩⟩
        | some eb =>
          show Nx _ (.tup [.sl 1 (eb.map u8A), .int .i64 0]) _
          first | refine nx rfl rfl ?_ | refine nx0 ?_
          repeat' (first | ((refine Qa rfl ?_); (first | refine Q0 ?_ | refine Q1 ?_ | refine Q2 rfl ?_ | refine QC rfl rfl ?_); (refine QX rfl rfl ?_)) | refine Qa rfl ?_ | refine Qh ?_ | refine Ql ?_ | refine Qo rfl ?_)
          refine st_call (fun _ => rfl) rfl ?_
          refine ACalls.mono (acalls_pure (E := E0 X) (fun X => beq_c X eb b) (by simp [IdsLtL, IdsLt]) _) ?_
          rintro r H' ⟨rfl, rfl⟩
          first | refine nx rfl rfl ?_ | refine nx0 ?_
          repeat' (first | ((refine Qa rfl ?_); (first | refine Q5 rfl ?_ | refine QD rfl ?_); (refine QX rfl rfl ?_)) | refine Qh ?_ | refine Qs ?_)
          refine awp_cond rfl (fun h9 => ?_) (fun h9 => ?_)
          · have h8 : ¬ eb = b := by simpa using h9
            repeat' (first | ((refine Qa rfl ?_); (first | refine Q1 ?_ | refine QP rfl rfl rfl rfl rfl rfl ?_); (refine QX rfl rfl ?_)) | (refine Qb rfl ?_; try (refine QS rfl rfl rfl rfl rfl rfl rfl ?_; (refine QX rfl rfl ?_))) | refine Qh ?_ | refine Ql ?_ | refine Qo rfl ?_ | refine Qs ?_)
            refine awp_ret ?_
            exact ⟨_, rfl, .inl ⟨rfl, if_neg (by simpa using h8)⟩⟩
          · have h8 : eb = b := by simpa using h9
            repeat' (first | ((refine Qa rfl ?_); (first | refine Q1 ?_ | refine Q3 rfl rfl rfl ?_); (refine QX rfl rfl ?_)) | (refine Qb rfl ?_; try (refine QS rfl rfl rfl rfl rfl rfl rfl ?_; (refine QX rfl rfl ?_))) | refine Qh ?_ | refine Ql ?_ | refine Qm ?_ | refine Qo rfl ?_ | refine Qs ?_)
            refine awp_ret ?_
            exact ⟨_, rfl, .inr ⟨⟨n1, n2, n3, n4, n5, la, lh, [lh]⟩, (.sl 4 ([lh].map laA)), rfl, if_pos (by rw [h8]), fun _ _ _ h => h⟩⟩
      · have h1' : ¬ n8 = 1 := by omega
        rw [if_neg h1']
        repeat' (first | ((refine Qa rfl ?_); (first | refine Q1 ?_ | refine Q2 rfl ?_); (refine QX rfl rfl ?_)) | refine Qh ?_ | refine Ql ?_ | refine Qo rfl ?_ | refine Qs ?_)
        refine awp_cond_dec rfl (fun h2 => ?_) (fun h2 => ?_)
        · have h2' : n8 = 2 := by omega
          rw [if_pos h2']
          skip
          refine awp_midB (s1 := ⟨[(0, .sl 1 (b.map u8A)), (1, .int .i64 (sector : Int)), (4, .ptr 0 0), (10, .ptr 3 0)], sdH bs 43 ⟨n1, n2, n3, n4, n5, la, lh, [lh, lf]⟩ (.sl 4 ([lh, lf].map laA))⟩) ?_ ?_
          rotate_left
          · skip
            repeat' (first | ((refine Qa rfl ?_); (first | refine Q0 ?_ | refine Q3 rfl rfl rfl ?_); (refine QX rfl rfl ?_)) | refine Qa rfl ?_ | refine Ql ?_ | refine Qo rfl ?_)
            refine st_call (fun _ => rfl) rfl ?_
            refine ACalls.mono (acalls_pure (E := E0 X) (fun X => senc_w X ⟨n1, n2, n3, n4, n5, la, lh, [lh, lf]⟩ (.sl 4 ([lh, lf].map laA)) (fun _ _ _ h => h) sector hs (by simp)) ⟨⟨trivial, trivial, trivial, trivial, trivial, trivial, trivial, trivial, trivial, trivial, trivial, trivial, trivial, la_ids [lh, lf], trivial⟩, trivial, trivial⟩ _) ?_
            rintro r H' ⟨rfl, rfl⟩
            cases he : encSO ⟨n1, n2, n3, n4, n5, la, lh, [lh, lf]⟩ sector with
            | none =>
              show Nx _ (.tup [.nils, .int .i64 4]) _
              first | refine nx rfl rfl ?_ | refine nx0 ?_
              repeat' (first | ((refine Qa rfl ?_); (first | refine Q0 ?_ | refine Q1 ?_ | refine Q2 rfl ?_ | refine Q5 rfl ?_ | refine QC rfl rfl ?_ | refine QP rfl rfl rfl rfl rfl rfl ?_); (refine QX rfl rfl ?_)) | (refine Qb rfl ?_; try (refine QS rfl rfl rfl rfl rfl rfl rfl ?_; (refine QX rfl rfl ?_))) | refine Qh ?_ | refine Qi rfl ?_ | refine Ql ?_ | refine Qo rfl ?_ | refine Qp rfl ?_ | refine Qs ?_)
              refine awp_ret ?_
              exact ⟨_, rfl, .inl ⟨rfl, if_neg (by simp)⟩⟩
            | some eb =>
              show Nx _ (.tup [.sl 1 (eb.map u8A), .int .i64 0]) _
              first | refine nx rfl rfl ?_ | refine nx0 ?_
              repeat' (first | ((refine Qa rfl ?_); (first | refine Q0 ?_ | refine Q1 ?_ | refine Q2 rfl ?_ | refine QC rfl rfl ?_); (refine QX rfl rfl ?_)) | refine Qa rfl ?_ | refine Qh ?_ | refine Ql ?_ | refine Qo rfl ?_)
              refine st_call (fun _ => rfl) rfl ?_
              refine ACalls.mono (acalls_pure (E := E0 X) (fun X => beq_c X eb b) (by simp [IdsLtL, IdsLt]) _) ?_
              rintro r H' ⟨rfl, rfl⟩
              first | refine nx rfl rfl ?_ | refine nx0 ?_
              repeat' (first | ((refine Qa rfl ?_); (first | refine Q5 rfl ?_ | refine QD rfl ?_); (refine QX rfl rfl ?_)) | refine Qh ?_ | refine Qs ?_)
              refine awp_cond rfl (fun h9 => ?_) (fun h9 => ?_)
              · have h8 : ¬ eb = b := by simpa using h9
                repeat' (first | ((refine Qa rfl ?_); (first | refine Q1 ?_ | refine QP rfl rfl rfl rfl rfl rfl ?_); (refine QX rfl rfl ?_)) | (refine Qb rfl ?_; try (refine QS rfl rfl rfl rfl rfl rfl rfl ?_; (refine QX rfl rfl ?_))) | refine Qh ?_ | refine Ql ?_ | refine Qo rfl ?_ | refine Qs ?_)
                refine awp_ret ?_
                exact ⟨_, rfl, .inl ⟨rfl, if_neg (by simpa using h8)⟩⟩
              · have h8 : eb = b := by simpa using h9
                repeat' (first | ((refine Qa rfl ?_); (first | refine Q1 ?_ | refine Q3 rfl rfl rfl ?_); (refine QX rfl rfl ?_)) | (refine Qb rfl ?_; try (refine QS rfl rfl rfl rfl rfl rfl rfl ?_; (refine QX rfl rfl ?_))) | refine Qh ?_ | refine Ql ?_ | refine Qm ?_ | refine Qo rfl ?_ | refine Qs ?_)
                refine awp_ret ?_
                exact ⟨_, rfl, .inr ⟨⟨n1, n2, n3, n4, n5, la, lh, [lh, lf]⟩, (.sl 4 ([lh, lf].map laA)), rfl, if_pos (by rw [h8]), fun _ _ _ h => h⟩⟩
          refine awp_region_any [1, 3, 6] [0, 2, 4, 5] (by exact rfl) ?_
          refine any_lin (fuel := 5) [0, 2] (by exact rfl) (by kernel_rfl) (by kernel_rfl) ?_
          repeat' (first | ((apply Qe rfl rfl rfl rfl; intro H9); (first | refine Q3 rfl rfl rfl ?_ | refine Q4 rfl rfl rfl rfl rfl ?_); (exact QY rfl ⟨rfl, rfl⟩)) | refine Qk ?_)
          refine any_br [1, 3] (by kernel_rfl) (br2 ?_ ?_)
          · refine mop_ef rfl rfl rfl ?_
            refine st_load rfl rfl rfl ?_
            first | refine nx rfl rfl ?_ | refine nx0 ?_
            refine any_lin (fuel := 0) [3, 4, 5, 6] (by exact rfl) (by kernel_rfl) (by kernel_rfl) ?_
            refine ds_ef rfl rfl rfl ?_
            refine st_call (fun _ => rfl) rfl ?_
            refine ACalls.mono (q9 _) ?_
            rintro r H' ⟨rfl, rfl⟩
            first | refine nx rfl rfl ?_ | refine nx0 ?_
            repeat' (first | ((apply Qe rfl rfl rfl rfl; intro H9); (first | refine Q4 rfl rfl rfl rfl rfl ?_ | refine QQ rfl rfl rfl rfl rfl rfl rfl rfl rfl rfl rfl ?_); (exact QY rfl ⟨rfl, rfl⟩)) | (refine Qf rfl rfl rfl ?_; refine QS rfl rfl rfl rfl rfl rfl rfl ?_; (refine QX rfl rfl ?_)) | refine Qk ?_ | refine Qw (by kernel_rfl) ?_)
            refine ⟨rfl, imp_cutk 4 (Nat.zero_le _) (hok_sd bs 43 ⟨n1, n2, n3, n4, n5, la, lh, [lh, lf]⟩ [lh, lf]) rfl (by simp) ?_⟩
            repeat' (first | exact fa_nil | refine fa_cons ⟨?_, ?_⟩ ?_)
            all_goals (try first | exact rfl | exact trivial | (simp [IdsLt]; done) | (simp [get_cons]; done) | (simp [get_cons, *]; done) | (refine congrArg (AV.int .i64) (wrap_eq ?_ ?_ ?_) <;> (first | omega | (simp; omega))))
          · refine mop_ef rfl rfl rfl ?_
            refine st_call (fun _ => rfl) rfl ?_
            refine ACalls.mono (q9 _) ?_
            rintro r H' ⟨rfl, rfl⟩
            first | refine nx rfl rfl ?_ | refine nx0 ?_
            refine any_lin (fuel := 0) [1, 4, 5, 6] (by exact rfl) (by kernel_rfl) (by kernel_rfl) ?_
            refine ds_ef rfl rfl rfl ?_
            refine st_load rfl rfl rfl ?_
            first | refine nx rfl rfl ?_ | refine nx0 ?_
            repeat' (first | ((apply Qe rfl rfl rfl rfl; intro H9); (first | refine Q4 rfl rfl rfl rfl rfl ?_ | refine QQ rfl rfl rfl rfl rfl rfl rfl rfl rfl rfl rfl ?_); (exact QY rfl ⟨rfl, rfl⟩)) | (refine Qf rfl rfl rfl ?_; refine QS rfl rfl rfl rfl rfl rfl rfl ?_; (refine QX rfl rfl ?_)) | refine Qk ?_ | refine Qw (by kernel_rfl) ?_)
            refine ⟨rfl, imp_cutk 4 (Nat.zero_le _) (hok_sd bs 43 ⟨n1, n2, n3, n4, n5, la, lh, [lh, lf]⟩ [lh, lf]) rfl (by simp) ?_⟩
            repeat' (first | exact fa_nil | refine fa_cons ⟨?_, ?_⟩ ?_)
            all_goals (try first | exact rfl | exact trivial | (simp [IdsLt]; done) | (simp [get_cons]; done) | (simp [get_cons, *]; done) | (refine congrArg (AV.int .i64) (wrap_eq ?_ ?_ ?_) <;> (first | omega | (simp; omega))))
        · have h2' : ¬ n8 = 2 := by omega
          rw [if_neg h2']
          repeat' (first | ((refine Qa rfl ?_); (first | refine Q0 ?_ | refine Q3 rfl rfl rfl ?_); (refine QX rfl rfl ?_)) | refine Qa rfl ?_ | refine Ql ?_ | refine Qm ?_ | refine Qo rfl ?_)
          refine st_call (fun _ => rfl) rfl ?_
          refine ACalls.mono (acalls_pure (E := E0 X) (fun X => senc_w X ⟨n1, n2, n3, n4, n5, la, lh, []⟩ .nils (rel_nil4) sector hs (by simp)) ⟨⟨trivial, trivial, trivial, trivial, trivial, trivial, trivial, trivial, trivial, trivial, trivial, trivial, trivial, trivial, trivial⟩, trivial, trivial⟩ _) ?_
          rintro r H' ⟨rfl, rfl⟩
          cases he : encSO ⟨n1, n2, n3, n4, n5, la, lh, []⟩ sector with
          | none =>
            show Nx _ (.tup [.nils, .int .i64 4]) _
            first | refine nx rfl rfl ?_ | refine nx0 ?_
            repeat' (first | ((refine Qa rfl ?_); (first | refine Q0 ?_ | refine Q1 ?_ | refine Q2 rfl ?_ | refine Q5 rfl ?_ | refine QC rfl rfl ?_ | refine QP rfl rfl rfl rfl rfl rfl ?_); (refine QX rfl rfl ?_)) | (refine Qb rfl ?_; try (refine QS rfl rfl rfl rfl rfl rfl rfl ?_; (refine QX rfl rfl ?_))) | refine Qh ?_ | refine Qi rfl ?_ | refine Ql ?_ | refine Qo rfl ?_ | refine Qp rfl ?_ | refine Qs ?_)
            refine awp_ret ?_
            exact ⟨_, rfl, .inl ⟨rfl, if_neg (by simp)⟩⟩
          | some eb =>
            show Nx _ (.tup [.sl 1 (eb.map u8A), .int .i64 0]) _
            first | refine nx rfl rfl ?_ | refine nx0 ?_
            repeat' (first | ((refine Qa rfl ?_); (first | refine Q0 ?_ | refine Q1 ?_ | refine Q2 rfl ?_ | refine QC rfl rfl ?_); (refine QX rfl rfl ?_)) | refine Qa rfl ?_ | refine Qh ?_ | refine Ql ?_ | refine Qo rfl ?_)
            refine st_call (fun _ => rfl) rfl ?_
            refine ACalls.mono (acalls_pure (E := E0 X) (fun X => beq_c X eb b) (by simp [IdsLtL, IdsLt]) _) ?_
            rintro r H' ⟨rfl, rfl⟩
            first | refine nx rfl rfl ?_ | refine nx0 ?_
            repeat' (first | ((refine Qa rfl ?_); (first | refine Q5 rfl ?_ | refine QD rfl ?_); (refine QX rfl rfl ?_)) | refine Qh ?_ | refine Qs ?_)
            refine awp_cond rfl (fun h9 => ?_) (fun h9 => ?_)
            · have h8 : ¬ eb = b := by simpa using h9
              repeat' (first | ((refine Qa rfl ?_); (first | refine Q1 ?_ | refine QP rfl rfl rfl rfl rfl rfl ?_); (refine QX rfl rfl ?_)) | (refine Qb rfl ?_; try (refine QS rfl rfl rfl rfl rfl rfl rfl ?_; (refine QX rfl rfl ?_))) | refine Qh ?_ | refine Ql ?_ | refine Qo rfl ?_ | refine Qs ?_)
              refine awp_ret ?_
              exact ⟨_, rfl, .inl ⟨rfl, if_neg (by simpa using h8)⟩⟩
            · have h8 : eb = b := by simpa using h9
              repeat' (first | ((refine Qa rfl ?_); (first | refine Q1 ?_ | refine Q3 rfl rfl rfl ?_); (refine QX rfl rfl ?_)) | (refine Qb rfl ?_; try (refine QS rfl rfl rfl rfl rfl rfl rfl ?_; (refine QX rfl rfl ?_))) | refine Qh ?_ | refine Ql ?_ | refine Qm ?_ | refine Qo rfl ?_ | refine Qs ?_)
              refine awp_ret ?_
              exact ⟨_, rfl, .inr ⟨⟨n1, n2, n3, n4, n5, la, lh, []⟩, .nils, rfl, if_pos (by rw [h8]), rel_nil4⟩⟩
    refine awp_region_any [1, 3, 5, 7, 9, 11, 13, 15, 16] [0, 2, 4, 6, 8, 10, 12, 14] (by exact rfl) ?_
    refine any_lin (fuel := 10) [0, 2, 4, 6, 8, 10, 12] (by exact rfl) (by kernel_rfl) (by kernel_rfl) ?_
    repeat' (first | ((apply Qe rfl rfl rfl rfl; intro H9); (first | refine Q0 ?_ | refine Q3 rfl rfl rfl ?_); (exact QY rfl ⟨rfl, rfl⟩)) | refine Qk ?_)
    refine any_br [1, 15] (by kernel_rfl) (br2 ?_ ?_)
    rotate_left
    · refine mop_ef rfl rfl rfl ?_
      refine st_alloc rfl rfl ?_
      first | refine nx rfl rfl ?_ | refine nx0 ?_
      refine any_lin (fuel := 0) [1, 3, 5, 7, 9, 11, 13, 14, 16] (by exact rfl) (by kernel_rfl) (by kernel_rfl) ?_
      refine ds_ef rfl rfl rfl ?_
      refine st_call (fun _ => rfl) rfl ?_
      refine ACalls.mono (q1 _) ?_
      rintro r H' ⟨rfl, rfl⟩
      first | refine nx rfl rfl ?_ | refine nx0 ?_
      refine ds_ef rfl rfl rfl ?_
      refine st_call (fun _ => rfl) rfl ?_
      refine ACalls.mono (q2 _) ?_
      rintro r H' ⟨rfl, rfl⟩
      first | refine nx rfl rfl ?_ | refine nx0 ?_
      refine ds_ef rfl rfl rfl ?_
      refine st_call (fun _ => rfl) rfl ?_
      refine ACalls.mono (q3 _) ?_
      rintro r H' ⟨rfl, rfl⟩
      first | refine nx rfl rfl ?_ | refine nx0 ?_
      refine ds_ef rfl rfl rfl ?_
      refine st_call (fun _ => rfl) rfl ?_
      refine ACalls.mono (q4 _) ?_
      rintro r H' ⟨rfl, rfl⟩
      first | refine nx rfl rfl ?_ | refine nx0 ?_
      refine ds_ef rfl rfl rfl ?_
      refine st_call (fun _ => rfl) rfl ?_
      refine ACalls.mono (q5 _) ?_
      rintro r H' ⟨rfl, rfl⟩
      first | refine nx rfl rfl ?_ | refine nx0 ?_
      refine ds_ef rfl rfl rfl ?_
      refine st_call (fun _ => rfl) rfl ?_
      refine ACalls.mono (q6 _) ?_
      rintro r H' ⟨rfl, rfl⟩
      first | refine nx rfl rfl ?_ | refine nx0 ?_
      refine ds_ef rfl rfl rfl ?_
      refine st_call (fun _ => rfl) rfl ?_
      refine ACalls.mono (q7 _) ?_
      rintro r H' ⟨rfl, rfl⟩
      first | refine nx rfl rfl ?_ | refine nx0 ?_
      repeat' (first | ((apply Qe rfl rfl rfl rfl; intro H9); (refine QP rfl rfl rfl rfl rfl rfl ?_); (exact QY rfl ⟨rfl, rfl⟩)) | (refine Qf rfl rfl rfl ?_; refine QS rfl rfl rfl rfl rfl rfl rfl ?_; (refine QX rfl rfl ?_)) | refine Qk ?_ | refine Qw (by kernel_rfl) ?_)
      refine ⟨rfl, imp_cutk 4 (Nat.zero_le _) (hok_sdn _ _ _) rfl (by simp) ?_⟩
      repeat' (first | exact fa_nil | refine fa_cons ⟨?_, ?_⟩ ?_)
      all_goals (try first | exact rfl | exact trivial | (simp [IdsLt, IdsLtL]; done) | (simp [get_cons]; done) | (simp [get_cons, *]; done) | (refine congrArg (AV.int .i64) (wrap_eq ?_ ?_ ?_) <;> (first | omega | (simp; omega))))
    refine mop_ef rfl rfl rfl ?_
    refine st_call (fun _ => rfl) rfl ?_
    refine ACalls.mono (q1 _) ?_
    rintro r H' ⟨rfl, rfl⟩
    first | refine nx rfl rfl ?_ | refine nx0 ?_
    refine any_br [3, 15] (by kernel_rfl) (br2 ?_ ?_)
    rotate_left
    · refine mop_ef rfl rfl rfl ?_
      refine st_alloc rfl rfl ?_
      first | refine nx rfl rfl ?_ | refine nx0 ?_
      refine any_lin (fuel := 0) [3, 5, 7, 9, 11, 13, 14, 16] (by exact rfl) (by kernel_rfl) (by kernel_rfl) ?_
      refine ds_ef rfl rfl rfl ?_
      refine st_call (fun _ => rfl) rfl ?_
      refine ACalls.mono (q2 _) ?_
      rintro r H' ⟨rfl, rfl⟩
      first | refine nx rfl rfl ?_ | refine nx0 ?_
      refine ds_ef rfl rfl rfl ?_
      refine st_call (fun _ => rfl) rfl ?_
      refine ACalls.mono (q3 _) ?_
      rintro r H' ⟨rfl, rfl⟩
      first | refine nx rfl rfl ?_ | refine nx0 ?_
      refine ds_ef rfl rfl rfl ?_
      refine st_call (fun _ => rfl) rfl ?_
      refine ACalls.mono (q4 _) ?_
      rintro r H' ⟨rfl, rfl⟩
      first | refine nx rfl rfl ?_ | refine nx0 ?_
      refine ds_ef rfl rfl rfl ?_
      refine st_call (fun _ => rfl) rfl ?_
      refine ACalls.mono (q5 _) ?_
      rintro r H' ⟨rfl, rfl⟩
      first | refine nx rfl rfl ?_ | refine nx0 ?_
      refine ds_ef rfl rfl rfl ?_
      refine st_call (fun _ => rfl) rfl ?_
      refine ACalls.mono (q6 _) ?_
      rintro r H' ⟨rfl, rfl⟩
      first | refine nx rfl rfl ?_ | refine nx0 ?_
      refine ds_ef rfl rfl rfl ?_
      refine st_call (fun _ => rfl) rfl ?_
      refine ACalls.mono (q7 _) ?_
      rintro r H' ⟨rfl, rfl⟩
      first | refine nx rfl rfl ?_ | refine nx0 ?_
      repeat' (first | ((apply Qe rfl rfl rfl rfl; intro H9); (refine QP rfl rfl rfl rfl rfl rfl ?_); (exact QY rfl ⟨rfl, rfl⟩)) | (refine Qf rfl rfl rfl ?_; refine QS rfl rfl rfl rfl rfl rfl rfl ?_; (refine QX rfl rfl ?_)) | refine Qk ?_ | refine Qw (by kernel_rfl) ?_)
      refine ⟨rfl, imp_cutk 4 (Nat.zero_le _) (hok_sdn _ _ _) rfl (by simp) ?_⟩
      repeat' (first | exact fa_nil | refine fa_cons ⟨?_, ?_⟩ ?_)
      all_goals (try first | exact rfl | exact trivial | (simp [IdsLt, IdsLtL]; done) | (simp [get_cons]; done) | (simp [get_cons, *]; done) | (refine congrArg (AV.int .i64) (wrap_eq ?_ ?_ ?_) <;> (first | omega | (simp; omega))))
    refine mop_ef rfl rfl rfl ?_
    refine st_call (fun _ => rfl) rfl ?_
    refine ACalls.mono (q2 _) ?_
    rintro r H' ⟨rfl, rfl⟩
    first | refine nx rfl rfl ?_ | refine nx0 ?_
    refine any_br [5, 15] (by kernel_rfl) (br2 ?_ ?_)
    rotate_left
    · refine mop_ef rfl rfl rfl ?_
      refine st_alloc rfl rfl ?_
      first | refine nx rfl rfl ?_ | refine nx0 ?_
      refine any_lin (fuel := 0) [5, 7, 9, 11, 13, 14, 16] (by exact rfl) (by kernel_rfl) (by kernel_rfl) ?_
      refine ds_ef rfl rfl rfl ?_
      refine st_call (fun _ => rfl) rfl ?_
      refine ACalls.mono (q3 _) ?_
      rintro r H' ⟨rfl, rfl⟩
      first | refine nx rfl rfl ?_ | refine nx0 ?_
      refine ds_ef rfl rfl rfl ?_
      refine st_call (fun _ => rfl) rfl ?_
      refine ACalls.mono (q4 _) ?_
      rintro r H' ⟨rfl, rfl⟩
      first | refine nx rfl rfl ?_ | refine nx0 ?_
      refine ds_ef rfl rfl rfl ?_
      refine st_call (fun _ => rfl) rfl ?_
      refine ACalls.mono (q5 _) ?_
      rintro r H' ⟨rfl, rfl⟩
      first | refine nx rfl rfl ?_ | refine nx0 ?_
      refine ds_ef rfl rfl rfl ?_
      refine st_call (fun _ => rfl) rfl ?_
      refine ACalls.mono (q6 _) ?_
      rintro r H' ⟨rfl, rfl⟩
      first | refine nx rfl rfl ?_ | refine nx0 ?_
      refine ds_ef rfl rfl rfl ?_
      refine st_call (fun _ => rfl) rfl ?_
      refine ACalls.mono (q7 _) ?_
      rintro r H' ⟨rfl, rfl⟩
      first | refine nx rfl rfl ?_ | refine nx0 ?_
      repeat' (first | ((apply Qe rfl rfl rfl rfl; intro H9); (refine QP rfl rfl rfl rfl rfl rfl ?_); (exact QY rfl ⟨rfl, rfl⟩)) | (refine Qf rfl rfl rfl ?_; refine QS rfl rfl rfl rfl rfl rfl rfl ?_; (refine QX rfl rfl ?_)) | refine Qk ?_ | refine Qw (by kernel_rfl) ?_)
      refine ⟨rfl, imp_cutk 4 (Nat.zero_le _) (hok_sdn _ _ _) rfl (by simp) ?_⟩
      repeat' (first | exact fa_nil | refine fa_cons ⟨?_, ?_⟩ ?_)
      all_goals (try first | exact rfl | exact trivial | (simp [IdsLt, IdsLtL]; done) | (simp [get_cons]; done) | (simp [get_cons, *]; done) | (refine congrArg (AV.int .i64) (wrap_eq ?_ ?_ ?_) <;> (first | omega | (simp; omega))))
    refine mop_ef rfl rfl rfl ?_
    refine st_call (fun _ => rfl) rfl ?_
    refine ACalls.mono (q3 _) ?_
    rintro r H' ⟨rfl, rfl⟩
    first | refine nx rfl rfl ?_ | refine nx0 ?_
    refine any_br [7, 15] (by kernel_rfl) (br2 ?_ ?_)
    rotate_left
    · refine mop_ef rfl rfl rfl ?_
      refine st_alloc rfl rfl ?_
      first | refine nx rfl rfl ?_ | refine nx0 ?_
      refine any_lin (fuel := 0) [7, 9, 11, 13, 14, 16] (by exact rfl) (by kernel_rfl) (by kernel_rfl) ?_
      refine ds_ef rfl rfl rfl ?_
      refine st_call (fun _ => rfl) rfl ?_
      refine ACalls.mono (q4 _) ?_
      rintro r H' ⟨rfl, rfl⟩
      first | refine nx rfl rfl ?_ | refine nx0 ?_
      refine ds_ef rfl rfl rfl ?_
      refine st_call (fun _ => rfl) rfl ?_
      refine ACalls.mono (q5 _) ?_
      rintro r H' ⟨rfl, rfl⟩
      first | refine nx rfl rfl ?_ | refine nx0 ?_
      refine ds_ef rfl rfl rfl ?_
      refine st_call (fun _ => rfl) rfl ?_
      refine ACalls.mono (q6 _) ?_
      rintro r H' ⟨rfl, rfl⟩
      first | refine nx rfl rfl ?_ | refine nx0 ?_
      refine ds_ef rfl rfl rfl ?_
      refine st_call (fun _ => rfl) rfl ?_
      refine ACalls.mono (q7 _) ?_
      rintro r H' ⟨rfl, rfl⟩
      first | refine nx rfl rfl ?_ | refine nx0 ?_
      repeat' (first | ((apply Qe rfl rfl rfl rfl; intro H9); (refine QP rfl rfl rfl rfl rfl rfl ?_); (exact QY rfl ⟨rfl, rfl⟩)) | (refine Qf rfl rfl rfl ?_; refine QS rfl rfl rfl rfl rfl rfl rfl ?_; (refine QX rfl rfl ?_)) | refine Qk ?_ | refine Qw (by kernel_rfl) ?_)
      refine ⟨rfl, imp_cutk 4 (Nat.zero_le _) (hok_sdn _ _ _) rfl (by simp) ?_⟩
      repeat' (first | exact fa_nil | refine fa_cons ⟨?_, ?_⟩ ?_)
      all_goals (try first | exact rfl | exact trivial | (simp [IdsLt, IdsLtL]; done) | (simp [get_cons]; done) | (simp [get_cons, *]; done) | (refine congrArg (AV.int .i64) (wrap_eq ?_ ?_ ?_) <;> (first | omega | (simp; omega))))
    refine mop_ef rfl rfl rfl ?_
    refine st_call (fun _ => rfl) rfl ?_
    refine ACalls.mono (q4 _) ?_
    rintro r H' ⟨rfl, rfl⟩
    first | refine nx rfl rfl ?_ | refine nx0 ?_
    refine any_br [9, 15] (by kernel_rfl) (br2 ?_ ?_)
    rotate_left
    · refine mop_ef rfl rfl rfl ?_
      refine st_alloc rfl rfl ?_
      first | refine nx rfl rfl ?_ | refine nx0 ?_
      refine any_lin (fuel := 0) [9, 11, 13, 14, 16] (by exact rfl) (by kernel_rfl) (by kernel_rfl) ?_
      refine ds_ef rfl rfl rfl ?_
      refine st_call (fun _ => rfl) rfl ?_
      refine ACalls.mono (q5 _) ?_
      rintro r H' ⟨rfl, rfl⟩
      first | refine nx rfl rfl ?_ | refine nx0 ?_
      refine ds_ef rfl rfl rfl ?_
      refine st_call (fun _ => rfl) rfl ?_
      refine ACalls.mono (q6 _) ?_
      rintro r H' ⟨rfl, rfl⟩
      first | refine nx rfl rfl ?_ | refine nx0 ?_
      refine ds_ef rfl rfl rfl ?_
      refine st_call (fun _ => rfl) rfl ?_
      refine ACalls.mono (q7 _) ?_
      rintro r H' ⟨rfl, rfl⟩
      first | refine nx rfl rfl ?_ | refine nx0 ?_
      repeat' (first | ((apply Qe rfl rfl rfl rfl; intro H9); (refine QP rfl rfl rfl rfl rfl rfl ?_); (exact QY rfl ⟨rfl, rfl⟩)) | (refine Qf rfl rfl rfl ?_; refine QS rfl rfl rfl rfl rfl rfl rfl ?_; (refine QX rfl rfl ?_)) | refine Qk ?_ | refine Qw (by kernel_rfl) ?_)
      refine ⟨rfl, imp_cutk 4 (Nat.zero_le _) (hok_sdn _ _ _) rfl (by simp) ?_⟩
      repeat' (first | exact fa_nil | refine fa_cons ⟨?_, ?_⟩ ?_)
      all_goals (try first | exact rfl | exact trivial | (simp [IdsLt, IdsLtL]; done) | (simp [get_cons]; done) | (simp [get_cons, *]; done) | (refine congrArg (AV.int .i64) (wrap_eq ?_ ?_ ?_) <;> (first | omega | (simp; omega))))
    refine mop_ef rfl rfl rfl ?_
    refine st_call (fun _ => rfl) rfl ?_
    refine ACalls.mono (q5 _) ?_
    rintro r H' ⟨rfl, rfl⟩
    first | refine nx rfl rfl ?_ | refine nx0 ?_
    refine any_br [11, 15] (by kernel_rfl) (br2 ?_ ?_)
    rotate_left
    · refine mop_ef rfl rfl rfl ?_
      refine st_alloc rfl rfl ?_
      first | refine nx rfl rfl ?_ | refine nx0 ?_
      refine any_lin (fuel := 0) [11, 13, 14, 16] (by exact rfl) (by kernel_rfl) (by kernel_rfl) ?_
      refine ds_ef rfl rfl rfl ?_
      refine st_call (fun _ => rfl) rfl ?_
      refine ACalls.mono (q6 _) ?_
      rintro r H' ⟨rfl, rfl⟩
      first | refine nx rfl rfl ?_ | refine nx0 ?_
      refine ds_ef rfl rfl rfl ?_
      refine st_call (fun _ => rfl) rfl ?_
      refine ACalls.mono (q7 _) ?_
      rintro r H' ⟨rfl, rfl⟩
      first | refine nx rfl rfl ?_ | refine nx0 ?_
      repeat' (first | ((apply Qe rfl rfl rfl rfl; intro H9); (refine QP rfl rfl rfl rfl rfl rfl ?_); (exact QY rfl ⟨rfl, rfl⟩)) | (refine Qf rfl rfl rfl ?_; refine QS rfl rfl rfl rfl rfl rfl rfl ?_; (refine QX rfl rfl ?_)) | refine Qk ?_ | refine Qw (by kernel_rfl) ?_)
      refine ⟨rfl, imp_cutk 4 (Nat.zero_le _) (hok_sdn _ _ _) rfl (by simp) ?_⟩
      repeat' (first | exact fa_nil | refine fa_cons ⟨?_, ?_⟩ ?_)
      all_goals (try first | exact rfl | exact trivial | (simp [IdsLt, IdsLtL]; done) | (simp [get_cons]; done) | (simp [get_cons, *]; done) | (refine congrArg (AV.int .i64) (wrap_eq ?_ ?_ ?_) <;> (first | omega | (simp; omega))))
    refine mop_ef rfl rfl rfl ?_
    refine st_call (fun _ => rfl) rfl ?_
    refine ACalls.mono (q6 _) ?_
    rintro r H' ⟨rfl, rfl⟩
    first | refine nx rfl rfl ?_ | refine nx0 ?_
    refine any_br [13, 15] (by kernel_rfl) (br2 ?_ ?_)
    rotate_left
    · refine mop_ef rfl rfl rfl ?_
      refine st_alloc rfl rfl ?_
      first | refine nx rfl rfl ?_ | refine nx0 ?_
      refine any_lin (fuel := 0) [13, 14, 16] (by exact rfl) (by kernel_rfl) (by kernel_rfl) ?_
      refine ds_ef rfl rfl rfl ?_
      refine st_call (fun _ => rfl) rfl ?_
      refine ACalls.mono (q7 _) ?_
      rintro r H' ⟨rfl, rfl⟩
      first | refine nx rfl rfl ?_ | refine nx0 ?_
      repeat' (first | ((apply Qe rfl rfl rfl rfl; intro H9); (refine QP rfl rfl rfl rfl rfl rfl ?_); (exact QY rfl ⟨rfl, rfl⟩)) | (refine Qf rfl rfl rfl ?_; refine QS rfl rfl rfl rfl rfl rfl rfl ?_; (refine QX rfl rfl ?_)) | refine Qk ?_ | refine Qw (by kernel_rfl) ?_)
      refine ⟨rfl, imp_cutk 4 (Nat.zero_le _) (hok_sdn _ _ _) rfl (by simp) ?_⟩
      repeat' (first | exact fa_nil | refine fa_cons ⟨?_, ?_⟩ ?_)
      all_goals (try first | exact rfl | exact trivial | (simp [IdsLt, IdsLtL]; done) | (simp [get_cons]; done) | (simp [get_cons, *]; done) | (refine congrArg (AV.int .i64) (wrap_eq ?_ ?_ ?_) <;> (first | omega | (simp; omega))))
    refine mop_ef rfl rfl rfl ?_
    refine st_call (fun _ => rfl) rfl ?_
    refine ACalls.mono (q7 _) ?_
    rintro r H' ⟨rfl, rfl⟩
    first | refine nx rfl rfl ?_ | refine nx0 ?_
    refine any_lin (fuel := 0) [14, 15, 16] (by exact rfl) (by kernel_rfl) (by kernel_rfl) ?_
    repeat' (first | ((first | refine Qc rfl rfl rfl ?_ | (apply Qe rfl rfl rfl rfl; intro H9)); (first | refine QJ rfl rfl ?_ | refine QP rfl rfl rfl rfl rfl rfl ?_); (first | exact QY rfl ⟨rfl, rfl⟩ | refine QX rfl rfl ?_)) | (refine Qf rfl rfl rfl ?_; refine QS rfl rfl rfl rfl rfl rfl rfl ?_; (refine QX rfl rfl ?_)) | refine Qk ?_ | refine Qw (by kernel_rfl) ?_)
    refine ⟨rfl, imp_cutk 4 (Nat.zero_le _) (hok_sdn _ _ _) rfl (by simp) ?_⟩
    repeat' (first | exact fa_nil | refine fa_cons ⟨?_, ?_⟩ ?_)
    all_goals (try first | exact rfl | exact trivial | (simp [IdsLt, IdsLtL]; done) | (simp [get_cons]; done) | (simp [get_cons, *]; done) | (refine congrArg (AV.int .i64) (wrap_eq ?_ ?_ ?_) <;> (first | omega | (simp; omega))))
end Go.Abs
namespace Go.Abs
theorem num5 {n : Nat} (h : n ≤ 1099511627775) : numN [byteAt n 32, byteAt n 24, byteAt n 16, byteAt n 8, byteAt n 0] = n := by
  simp only [numN, List.foldl_cons, List.foldl_nil, byteAt_nat]
  have e1 : (2 : Nat) ^ 24 = 16777216 := by decide
  have e2 : (2 : Nat) ^ 16 = 65536 := by decide
  have e3 : (2 : Nat) ^ 8 = 256 := by decide
  have e4 : (2 : Nat) ^ 32 = 4294967296 := by decide
  rw [e1, e2, e3, e4]
  omega
def parV (x0 x1 x2 x3 x4 x5 x6 : UInt8) : La :=
  ⟨(numN [x0, x1, x2, x3] : Nat), (numN [x4] : Nat), if 0 < numN [x0, x1, x2, x3] then ((2 ^ min (numN [x5]) 30 : Nat) : Int) else 0, (numN [x6] : Nat)⟩
def parY (l : La) : La := parV (byteAt l.id.toNat 24) (byteAt l.id.toNat 16) (byteAt l.id.toNat 8) (byteAt l.id.toNat 0) (UInt8.ofNat (l.ver.toNat % 256)) (UInt8.ofNat ((lenN l.rs.toNat - 1) % 256)) (UInt8.ofNat (l.regs.toNat % 256))
def rdY (l : La) : La := rdL (byteAt l.id.toNat 24) (byteAt l.id.toNat 16) (byteAt l.id.toNat 8) (byteAt l.id.toNat 0) (UInt8.ofNat (l.ver.toNat % 256)) (UInt8.ofNat ((lenN l.rs.toNat - 1) % 256)) (UInt8.ofNat (l.regs.toNat % 256))
theorem lay_back {l : La} (hf : formB l = true) : parY l = l ∧ rdY l = l := by
  obtain ⟨id, ver, rs, regs⟩ := l
  simp only [formB, Bool.and_eq_true, Bool.or_eq_true, decide_eq_true_eq] at hf
  obtain ⟨f1, f2, f3, f4, f5, f6, f7, f8⟩ := hf
  have hrs := rs_back ⟨f4, f5⟩ f6
  have hrs2 := rs_back12 ⟨f4, f5⟩ f6
  have h10 : lenN rs.toNat - 1 = (lenN rs.toNat - 1) % 256 := by have := hrs.2; omega
  refine ⟨?_, ?_⟩
  · unfold parY parV
    dsimp only
    rw [num4 (by omega), num1 (by omega), num1 hrs.2, num1 (by omega), if_pos (by omega), h10, hrs.1]
    simp only [La.mk.injEq]
    exact ⟨by omega, by omega, trivial, by omega⟩
  · unfold rdY rdL
    dsimp only
    rw [num4 (by omega), b_back (by omega), b_back hrs.2, b_back (by omega), if_neg (by omega), h10, hrs2]
    simp only [La.mk.injEq]
    exact ⟨by omega, by omega, trivial, by omega⟩
theorem lay_zero : parY ⟨0, 0, 0, 0⟩ = ⟨0, 0, 0, 0⟩ ∧ rdY ⟨0, 0, 0, 0⟩ = ⟨0, 0, 0, 0⟩ := ⟨by kernel_rfl, by kernel_rfl⟩
def lay7 (l : La) (z : List UInt8) : List UInt8 := byteAt l.id.toNat 24 :: byteAt l.id.toNat 16 :: byteAt l.id.toNat 8 :: byteAt l.id.toNat 0 :: UInt8.ofNat (l.ver.toNat % 256) :: UInt8.ofNat ((lenN l.rs.toNat - 1) % 256) :: UInt8.ofNat (l.regs.toNat % 256) :: z
def pay36 (s : Sb) (z : List UInt8) : List UInt8 := byteAt s.gen.toNat 32 :: byteAt s.gen.toNat 24 :: byteAt s.gen.toNat 16 :: byteAt s.gen.toNat 8 :: byteAt s.gen.toNat 0 :: UInt8.ofNat (s.phase.toNat % 256) ::
  byteAt s.mig.toNat 24 :: byteAt s.mig.toNat 16 :: byteAt s.mig.toNat 8 :: byteAt s.mig.toNat 0 ::
  byteAt s.tail.toNat 40 :: byteAt s.tail.toNat 32 :: byteAt s.tail.toNat 24 :: byteAt s.tail.toNat 16 :: byteAt s.tail.toNat 8 :: byteAt s.tail.toNat 0 ::
  byteAt s.now.toNat 32 :: byteAt s.now.toNat 24 :: byteAt s.now.toNat 16 :: byteAt s.now.toNat 8 :: byteAt s.now.toNat 0 :: lay7 s.t (lay7 s.h (UInt8.ofNat (s.fo.length % 256) :: z))
theorem p36_eq (s : Sb) (z : List UInt8) : p36 s ++ z = pay36 s z := rfl
theorem p36_eq2 (s : Sb) (f : La) (z : List UInt8) : putL (p36 s) f ++ z = pay36 s (lay7 f z) := rfl
/-- What the reference reads. -/
def rparS (bs : List UInt8) : Sb :=
  ⟨(numN ((bs.drop 0).take 5) : Nat), ((bs[5]?.getD 0).toNat : Nat), (numN ((bs.drop 6).take 4) : Nat), (numN ((bs.drop 10).take 6) : Nat), (numN ((bs.drop 16).take 5) : Nat), rdV ((bs.drop 21).take 7), rdV ((bs.drop 28).take 7),
   if 1 ≤ (bs[35]?.getD 0).toNat then (if 2 ≤ (bs[35]?.getD 0).toNat then [rdV ((bs.drop 28).take 7), rdV ((bs.drop 36).take 7)] else [rdV ((bs.drop 28).take 7)]) else []⟩
theorem par36 (s : Sb) (z : List UInt8) : parS (pay36 s z) = ⟨(numN [byteAt s.gen.toNat 32, byteAt s.gen.toNat 24, byteAt s.gen.toNat 16, byteAt s.gen.toNat 8, byteAt s.gen.toNat 0] : Nat), (numN [UInt8.ofNat (s.phase.toNat % 256)] : Nat),
    (numN [byteAt s.mig.toNat 24, byteAt s.mig.toNat 16, byteAt s.mig.toNat 8, byteAt s.mig.toNat 0] : Nat), (numN [byteAt s.tail.toNat 40, byteAt s.tail.toNat 32, byteAt s.tail.toNat 24, byteAt s.tail.toNat 16, byteAt s.tail.toNat 8, byteAt s.tail.toNat 0] : Nat),
    (numN [byteAt s.now.toNat 32, byteAt s.now.toNat 24, byteAt s.now.toNat 16, byteAt s.now.toNat 8, byteAt s.now.toNat 0] : Nat), parY s.t, parY s.h,
    if numN [UInt8.ofNat (s.fo.length % 256)] = 1 then [parY s.h] else if numN [UInt8.ofNat (s.fo.length % 256)] = 2 then [parY s.h, parL (pay36 s z) 36] else []⟩ := rfl
theorem rpar36 (s : Sb) (z : List UInt8) : rparS (pay36 s z) = ⟨(numN [byteAt s.gen.toNat 32, byteAt s.gen.toNat 24, byteAt s.gen.toNat 16, byteAt s.gen.toNat 8, byteAt s.gen.toNat 0] : Nat), ((UInt8.ofNat (s.phase.toNat % 256)).toNat : Nat),
    (numN [byteAt s.mig.toNat 24, byteAt s.mig.toNat 16, byteAt s.mig.toNat 8, byteAt s.mig.toNat 0] : Nat), (numN [byteAt s.tail.toNat 40, byteAt s.tail.toNat 32, byteAt s.tail.toNat 24, byteAt s.tail.toNat 16, byteAt s.tail.toNat 8, byteAt s.tail.toNat 0] : Nat),
    (numN [byteAt s.now.toNat 32, byteAt s.now.toNat 24, byteAt s.now.toNat 16, byteAt s.now.toNat 8, byteAt s.now.toNat 0] : Nat), rdY s.t, rdY s.h,
    if 1 ≤ (UInt8.ofNat (s.fo.length % 256)).toNat then (if 2 ≤ (UInt8.ofNat (s.fo.length % 256)).toNat then [rdY s.h, rdV (((pay36 s z).drop 36).take 7)] else [rdY s.h]) else []⟩ := rfl
theorem par_lay (s : Sb) (f : La) (z : List UInt8) : parL (pay36 s (lay7 f z)) 36 = parY f := rfl
theorem rpar_lay (s : Sb) (f : La) (z : List UInt8) : rdV (((pay36 s (lay7 f z)).drop 36).take 7) = rdY f := rfl
theorem parS_pay {s : Sb} (hv : sbB s = true) (z : List UInt8) : parS (payS s ++ z) = s ∧ rparS (payS s ++ z) = s := by
  have hok := sb_ok hv
  obtain ⟨g, ph, mg, tl, nw, ht, hh⟩ := hok
  have htl := lay_back ht
  have key : ∀ y, payS s ++ z = pay36 s y → parY s.h = s.h ∧ rdY s.h = s.h →
      ((if s.fo.length = 1 then [s.h] else if s.fo.length = 2 then [s.h, parL (pay36 s y) 36] else []) = s.fo) →
      ((if 1 ≤ s.fo.length then (if 2 ≤ s.fo.length then [s.h, rdV (((pay36 s y).drop 36).take 7)] else [s.h]) else []) = s.fo) → s.fo.length ≤ 255 →
      parS (payS s ++ z) = s ∧ rparS (payS s ++ z) = s := by
    intro y hy hhb h1 h2 hfl
    rw [hy, par36, rpar36, num5 (by omega), num1 (by omega), num4 (by omega), num6 (by omega), num5 (by omega), b_back (by omega), num1 hfl, b_back hfl, htl.1, htl.2, hhb.1, hhb.2, h1, h2]
    obtain ⟨a, b, c, d, e, t, h, f⟩ := s
    simp only [Sb.mk.injEq]
    simp only at g ph mg tl nw
    refine ⟨⟨?_, ?_, ?_, ?_, ?_, trivial, trivial, trivial⟩, ?_, ?_, ?_, ?_, ?_, trivial, trivial, trivial⟩ <;> omega
  rcases hh with ⟨h1, h2⟩ | ⟨h1, h2 | ⟨b, h2, h3⟩⟩
  · refine key z ?_ (by rw [h1]; exact lay_zero) (by rw [h2]; rfl) (by rw [h2]; rfl) (by rw [h2]; simp)
    have : payS s = p36 s := by unfold payS; rw [h2]
    rw [this]; exact p36_eq s z
  · refine key z ?_ (lay_back h1) (by rw [h2]; rfl) (by rw [h2]; rfl) (by rw [h2]; simp)
    have : payS s = p36 s := by unfold payS; rw [h2]
    rw [this]; exact p36_eq s z
  · have hb := lay_back h3
    refine key (lay7 b z) ?_ (lay_back h1) ?_ ?_ (by rw [h2]; simp)
    · have : payS s = putL (p36 s) b := by unfold payS; rw [h2]
      rw [this]; exact p36_eq2 s b z
    · rw [par_lay, hb.1, h2]; rfl
    · rw [rpar_lay, hb.2, h2]; rfl
theorem decS_encS {s : Sb} (hv : sbB s = true) (k : Nat) : decS (encS s k) k = some s := by
  have hl := payS_len s
  have h1 : decF 3 0 k (encS s k) = some (payS s ++ List.replicate (59 - (payS s).length) 0) := decF_encF (by omega)
  unfold decS
  rw [h1]
  simp only
  rw [(parS_pay hv _).1]
  have h2 : encSO s k = some (encS s k) := by
    unfold encSO
    rw [if_pos hv]
  rw [if_pos h2]
theorem decS_valid {b : List UInt8} {k : Nat} {s : Sb} (h : decS b k = some s) : sbB s = true ∧ encS s k = b := by
  unfold decS at h
  split at h
  · cases h
  · rename_i pay _
    split at h
    · rename_i h2
      injection h with h
      rw [h] at h2
      unfold encSO at h2
      split at h2
      · rename_i h3
        exact ⟨h3, by injection h2⟩
      · cases h2
    · cases h
theorem decS_zero (k : Nat) : decS (List.replicate 64 0) k = none := by
  have h : decF 3 0 k (List.replicate 64 0) = none := by
    unfold decF
    rw [if_neg]
    rintro ⟨_, h2⟩
    have h3 := congrArg (fun l => l[0]?) h2
    have e : ∀ p, (encF 3 0 k p)[0]? = some 3 := fun p => rfl
    simp only [e] at h3
    exact absurd h3 (by decide)
  unfold decS
  rw [h]
theorem rdecS_spec {k : Nat} {b bs : List UInt8} (h : decF 3 0 k b = some bs) : decS b k = if encSO (rparS bs) k = some b then some (rparS bs) else none := by
  have key : ∀ q : Sb, encSO q k = some b → parS bs = q ∧ rparS bs = q := by
    intro q he
    unfold encSO at he
    split at he
    · rename_i hv
      have he : encS q k = b := by injection he
      have hl := payS_len q
      have h1 : decF 3 0 k (encS q k) = some (payS q ++ List.replicate (59 - (payS q).length) 0) := decF_encF (by omega)
      rw [he, h] at h1
      injection h1 with h1
      subst h1
      exact parS_pay hv _
    · cases he
  have e : decS b k = if encSO (parS bs) k = some b then some (parS bs) else none := by simp only [decS, h]
  rw [e]
  by_cases h1 : encSO (parS bs) k = some b
  · have := (key _ h1).2
    rw [this]
  · rw [if_neg h1]
    by_cases h2 : encSO (rparS bs) k = some b
    · have := (key _ h2).1
      rw [this] at h1
      exact absurd h2 h1
    · rw [if_neg h2]
end Go.Abs
namespace Go.Abs
def frzO (id k : Nat) (es : List AV) : AO → AO
  | .cells cs e => .cells (cs.map (frz id k es)) e
  | o => o
section
variable {E : Env} {m : Mu} {w : World} {H : Hp} {id k : Nat} {es : List AV} {e : TypeId}
theorem frz_rel (hok : E.Ok) (hsim : E.Sim m w H) (ho : H[id]? = some (some (.arr es e))) (he : Nat.blt e E.n = true) (hk : Nat.beq (E.ti e).sz k = true) {v : AV} {u : Value} (hj : E.Rel m w v u) :
    Abs.Rel E.cx (m.set id .dead) w (frz id k es v) u := by
  have hkk := Nat.eq_of_beq_eq_true hk
  have hsz2 : E.cx.sz e = (E.ti e).sz := by obtain ⟨_, _, _, _, _, _, _, _, _, h⟩ := tyOf_spec hok he; exact h
  have hid : id < H.length := (List.getElem?_eq_some_iff.1 ho).1
  have hidm : id < m.length := by rw [hsim.len]; exact hid
  have hget : ∀ (i : Nat) (x : MS), x ≠ .dead → (m.set id .dead)[i]? = some x → m[i]? = some x ∧ i ≠ id := fun i x hx h => by
    by_cases hi : id = i
    · subst hi; rw [List.getElem?_set_self hidm] at h; cases h; exact absurd rfl hx
    · rw [List.getElem?_set_ne hi] at h; exact ⟨h, Ne.symm hi⟩
  have hsub : ∀ b, MS.blk b ∈ m.set id .dead → MS.blk b ∈ m := fun b hb => by
    obtain ⟨i, hi, he⟩ := List.getElem_of_mem hb
    exact List.mem_of_getElem? (hget i _ (by simp) (by rw [List.getElem?_eq_getElem hi, he])).1
  have hc : Cmp some E.cx E.cx m (m.set id .dead) := ⟨rfl, fun i j hij hi => by
    cases hij
    exact ⟨by simpa using hi, fun x hx h => (hget _ x hx h).1⟩, fun b h => h.imp (hsub b) (fun h => h)⟩
  obtain ⟨q, hq, hob⟩ := hsim.live id _ ho
  cases v with
  | own i lo n =>
    simp only [frz]
    split
    · rename_i hcond
      obtain ⟨rfl, hle⟩ := hcond
      simp only [Env.Rel, Abs.Rel] at hj ⊢
      obtain ⟨A, c, h1, h2, h3, h4, h5, h6⟩ := hj
      have hlen : ((es.drop lo).take n).length = n := by simp; omega
      cases q with
      | dead => exact hob.elim
      | nil =>
        subst hob
        simp at hle
        obtain ⟨rfl, rfl⟩ := hle
        exact ⟨A, c, [], by simpa using h1, by simp, h3, by simp [Abs.RelL], by simp, by simp [Fz, flat]⟩
      | blk b =>
        obtain ⟨us, vs, h7, h8, h9, h10⟩ := hob
        obtain ⟨e2, k2, h11, h12, h13⟩ := h6 b hq
        have hee : e2 = e := by
          unfold World.shape? at h11
          rw [h7] at h11
          simp at h11
          exact h11.1.symm
        subst hee
        have hk9 : ∀ u ∈ (vs.drop lo).take n, u.cells.size = k := fun u hu => by
          rw [h9 u (List.mem_of_mem_drop (List.mem_of_mem_take hu)), hsz2, hkk]
        have hr8 := (h8.drop lo).take n
        refine ⟨A, c, (vs.drop lo).take n, by rw [hlen]; exact h1, by omega, h3, RelL.cmp hc (n := m.length) (fun _ _ => rfl) _ (RelL.ids _ hr8) hr8, hk9, fun hne => ?_⟩
        have hn0 : 0 < n := by
          rcases Nat.eq_zero_or_pos n with h0 | h0
          · subst h0; simp [flat] at hne
          · exact h0
        have hA := h13 (.inl (by omega))
        refine ⟨_, hA, (Array.getElem?_eq_some_iff.1 h7).1, fun hm => ?_, hsim.disj b (List.mem_of_getElem? hq), fun j u hu => ?_⟩
        · obtain ⟨i2, hi2, he2⟩ := List.getElem_of_mem hm
          obtain ⟨h14, h15⟩ := hget i2 (.blk b) (by simp) (by rw [List.getElem?_eq_getElem hi2, he2])
          exact h15 (hsim.inj i2 i b h14 hq)
        · have hadd : (⟨b, lo * E.cx.sz e2, none⟩ : Addr).add j = ⟨b, lo * E.cx.sz e2 + j, none⟩ := by unfold Addr.add; split <;> simp_all
          rw [hadd, cell_of_row w b _ us e2 (0, 0) h7]
          have h9d : ∀ u ∈ vs.drop lo, u.cells.size = E.cx.sz e2 := fun u hu => h9 u (List.mem_of_mem_drop hu)
          rw [flat_take h9d, flat_drop h9, List.getElem?_take, List.getElem?_drop] at hu
          split at hu
          · rw [← h10, List.getElem?_take] at hu
            split at hu
            · simpa using hu
            · cases hu
          · cases hu
    · exact Rel.cmp_all hc hj
  | _ => exact Rel.cmp_all hc hj
theorem frz_relL (hok : E.Ok) (hsim : E.Sim m w H) (ho : H[id]? = some (some (.arr es e))) (he : Nat.blt e E.n = true) (hk : Nat.beq (E.ti e).sz k = true) : ∀ {vs : List AV} {us : List Value}, RelL E.cx m w vs us → RelL E.cx (m.set id .dead) w (vs.map (frz id k es)) us
  | [], us, h => by simpa [RelL] using h
  | v :: vs, us, h => by
    obtain ⟨u, r, rfl, h1, h2⟩ := relL_cons.1 h
    exact RelL.cons (frz_rel hok hsim ho he hk h1) (frz_relL hok hsim ho he hk h2)
end
section
variable {E : Env} {N n0 : Nat} {s : St}
theorem imp_freezeH {id k : Nat} {es : List AV} {e : TypeId} (ho : s.hp[id]? = some (some (.arr es e))) (he : Nat.blt e E.n = true) (hk : Nat.beq (E.ti e).sz k = true) :
    Imp E N n0 s ⟨s.sl.map fun p => (p.1, frz id k es p.2), (s.hp.map (Option.map (frzO id k es))).set id none⟩ := by
  intro m0 w0 hn m w a hext hs
  have hid : id < s.hp.length := (List.getElem?_eq_some_iff.1 ho).1
  have hidm : id < m.length := by rw [hs.sim.len]; exact hid
  have hget : ∀ (i : Nat) (x : MS), x ≠ .dead → (m.set id .dead)[i]? = some x → m[i]? = some x ∧ i ≠ id := fun i x hx h => by
    by_cases hi : id = i
    · subst hi; rw [List.getElem?_set_self hidm] at h; cases h; exact absurd rfl hx
    · rw [List.getElem?_set_ne hi] at h; exact ⟨h, Ne.symm hi⟩
  have hsub : ∀ b, MS.blk b ∈ m.set id .dead → MS.blk b ∈ m := fun b hb => by
    obtain ⟨i, hi, he⟩ := List.getElem_of_mem hb
    exact List.mem_of_getElem? (hget i _ (by simp) (by rw [List.getElem?_eq_getElem hi, he])).1
  have hc : Cmp some E.cx E.cx m (m.set id .dead) := ⟨rfl, fun i j hij hi => by
    cases hij
    exact ⟨by simpa using hi, fun x hx h => (hget _ x hx h).1⟩, fun b h => h.imp (hsub b) (fun h => h)⟩
  refine ⟨m.set id .dead, ⟨hext.os, hext.tape, hext.output, hext.size, hext.keep, fun b hb h => hext.fresh b hb (hsub b h), by simpa using hext.len, fun i x hi hx h => hext.ids i x hi hx (hget i x hx h).1, hext.shape⟩, ?_⟩
  refine ⟨hs.ok, fun j => ?_, hs.size, hs.defers, ?_, fun g => Rel.cmp_all hc (hs.glob g)⟩
  · show Abs.Rel E.cx _ w (get (s.sl.map fun p => (p.1, frz id k es p.2)) j) _
    rw [get_map _ rfl]
    exact frz_rel hs.ok hs.sim ho he hk (hs.slots j)
  · refine ⟨by simp [hs.sim.len], fun i o hi => ?_, fun i hi => ?_, fun i j b hi hj => ?_, hs.sim.xlt, fun b hb => hs.sim.disj b (hsub b hb)⟩
    · by_cases h : id = i
      · subst h; rw [List.getElem?_set_self (by simpa using hid)] at hi; cases hi
      · rw [List.getElem?_set_ne h, List.getElem?_map] at hi
        cases h0 : s.hp[i]? with
        | none => rw [h0] at hi; cases hi
        | some o0 =>
          rw [h0] at hi
          cases o0 with
          | none => simp at hi
          | some o1 =>
            simp only [Option.map_some, Option.some.injEq] at hi
            subst hi
            obtain ⟨x, h1, h2⟩ := hs.sim.live i o1 h0
            refine ⟨x, by rw [List.getElem?_set_ne h]; exact h1, ?_⟩
            cases o1 with
            | cells cs e2 =>
              cases x with
              | dead => exact h2.elim
              | nil => exact h2.elim
              | blk b =>
                obtain ⟨us, h3, h4⟩ := h2
                exact ⟨us, h3, frz_relL hs.ok hs.sim ho he hk h4⟩
            | arr es2 e2 => exact OB.cmp hc (n := m.length) (fun _ _ => rfl) (OB.ids h2) h2
            | map es2 => exact OB.cmp hc (n := m.length) (fun _ _ => rfl) (OB.ids h2) h2
    · by_cases h : id = i
      · subst h; rw [List.getElem?_set_self hidm]
      · rw [List.getElem?_set_ne h] at hi ⊢
        refine hs.sim.dead i ?_
        rw [List.getElem?_map] at hi
        cases h0 : s.hp[i]? with
        | none => rw [h0] at hi; cases hi
        | some o0 =>
          rw [h0] at hi
          cases o0 with
          | none => rfl
          | some o1 => simp at hi
    · exact hs.sim.inj i j b (hget i _ (by simp) hi).1 (hget j _ (by simp) hj).1
end
end Go.Abs
namespace Go.Abs
theorem hok_rsd (s : Sb) : HOk 2 [some (.cells (sbF zeroS .nils) 50), some (.cells (sbF s .nils) 50)] := fun j o ho => by
  match j, ho with
  | 0, ho => cases ho; exact ⟨trivial, trivial, trivial, trivial, trivial, trivial, trivial, trivial, trivial, trivial, trivial, trivial, trivial, trivial, trivial⟩
  | 1, ho => cases ho; exact ⟨trivial, trivial, trivial, trivial, trivial, trivial, trivial, trivial, trivial, trivial, trivial, trivial, trivial, trivial, trivial⟩
theorem rsvalid_w (X : Nat → Prop) (s : Sb) (fv : AV) (hfv : ∀ m w v, (E0 X).Rel m w fv v → (E0 X).Rel m w (.sl 4 (s.fo.map laA)) v) :
    ACalls (E0 X) 37 [.agg (sbF s fv)] [] (fun r H' => r = .bool (sbB s) ∧ H' = []) :=
  ACalls.weak (rsvalid_c X s) fun m w vs h => by
    obtain ⟨u1, r1, rfl, h1, h⟩ := relL_cons.1 h
    exact RelL.cons (rel_sbF (hfv m w) h1) h
theorem rsenc_w (X : Nat → Prop) (s : Sb) (fv : AV) (hfv : ∀ m w v, (E0 X).Rel m w fv v → (E0 X).Rel m w (.sl 4 (s.fo.map laA)) v) (sector : Nat) (hv : sbB s = true) (hs : sector < 1048576) :
    ACalls (E0 X) 39 [.agg (sbF s fv), .int .i64 (sector : Int)] [] (fun r H' => r = .sl 1 ((encS s sector).map u8A) ∧ H' = []) :=
  ACalls.weak (rsenc_c X s sector hv hs) fun m w vs h => by
    obtain ⟨u1, r1, rfl, h1, h⟩ := relL_cons.1 h
    exact RelL.cons (rel_sbF (hfv m w) h1) h
theorem oneEs_la (l : List La) : OneEs (l.map laA) := fun y hy => by
  obtain ⟨b, _, rfl⟩ := List.mem_map.1 hy; exact ⟨rfl, rfl⟩
attribute [local irreducible] AStep aops AWp Nx awM
set_option maxHeartbeats 0 in
set_option maxRecDepth 100000 in
theorem rsdec_c (X : Nat → Prop) (b : List UInt8) (sector : Nat) (hs : sector < 1048576) (hb : b.length ≤ 1000) :
    ACalls (E0 X) 55 [.sl 1 (b.map u8A), .int .i64 (sector : Int)] [] (fun r H' => r = optS (decS b sector) ∧ H' = []) := by
  refine ACalls.cut0 ?_ (by unfold optS; split <;> exact ⟨sbA_ids, trivial, trivial⟩)
  refine ACalls.weakR (R := fun r _ => (r = .tup [.agg (sbF zeroS .nils), .bool false] ∧ decS b sector = none) ∨ (∃ s fv, r = .tup [.agg (sbF s fv), .bool true] ∧ decS b sector = some s ∧ ∀ m w v, (E0 X).Rel m w fv v → (E0 X).Rel m w (.sl 4 (s.fo.map laA)) v)) ?_ ?_
  rotate_left
  · rintro r H' (⟨rfl, h2⟩ | ⟨s, fv, rfl, h2, h3⟩)
    · exact ⟨_, rfl, fun m w v h => by rw [h2]; exact none_w v h⟩
    · exact ⟨_, rfl, fun m w v h => by rw [h2]; exact rel_tup2 (fun v h => rel_sbF (h3 m w) h) v h⟩
  have hdec := fun X => rfdec_c X 3 0 sector b ⟨by decide, by decide, hs⟩ (by decide) (by omega)
  refine acalls_of Proofs.Tryd.func55 rfl Proofs.Tryd.ntmps55 (by kernel_rfl) rfl ?_
  intro hH hargs
  clear hH hargs
  repeat' (first | ((refine Qa rfl ?_); (first | refine Q0 ?_ | refine Q1 ?_ | refine QJ rfl rfl ?_); (refine QX rfl rfl ?_)) | refine Qa rfl ?_ | refine Qh ?_ | refine Ql ?_ | refine Qo rfl ?_)
  refine st_call (fun _ => rfl) rfl ?_
  refine ACalls.mono (acalls_pure (E := E0 X) hdec (by simp [IdsLtL, IdsLt]) _) ?_
  rintro r H' ⟨rfl, rfl⟩
  cases hd : decF 3 0 sector b with
  | none =>
    have e : decS b sector = none := by simp only [decS, hd]
    rw [e]
    show Nx _ (.tup [.nils, .bool false]) _
    first | refine nx rfl rfl ?_ | refine nx0 ?_
    repeat' (first | ((refine Qa rfl ?_); (first | refine Q0 ?_ | refine Q1 ?_ | refine QC rfl rfl ?_ | refine QD rfl ?_ | refine QP rfl rfl rfl rfl rfl rfl ?_); (refine QX rfl rfl ?_)) | (refine Qb rfl ?_; try (refine QS rfl rfl rfl rfl rfl rfl rfl ?_; (refine QX rfl rfl ?_))) | refine Qh ?_ | refine Ql ?_ | refine Qo rfl ?_ | refine Qp rfl ?_ | refine Qs ?_)
    refine awp_ret ?_
    exact ⟨_, rfl, .inl ⟨rfl, rfl⟩⟩
  | some bs =>
    obtain ⟨hbl, -⟩ := decF_len hd
    rw [rdecS_spec hd]
    show Nx _ (.tup [.sl 1 (bs.map u8A), .bool true]) _
    first | refine nx rfl rfl ?_ | refine nx0 ?_
    obtain ⟨x5, hx5⟩ : ∃ x, bs[5]? = some x := ⟨_, List.getElem?_eq_getElem (by omega)⟩
    obtain ⟨x35, hx35⟩ : ∃ x, bs[35]? = some x := ⟨_, List.getElem?_eq_getElem (by omega)⟩
    have hp : rparS bs = ⟨(numN ((bs.drop 0).take 5) : Nat), (x5.toNat : Nat), (numN ((bs.drop 6).take 4) : Nat), (numN ((bs.drop 10).take 6) : Nat), (numN ((bs.drop 16).take 5) : Nat), rdV ((bs.drop 21).take 7), rdV ((bs.drop 28).take 7),
      if 1 ≤ x35.toNat then (if 2 ≤ x35.toNat then [rdV ((bs.drop 28).take 7), rdV ((bs.drop 36).take 7)] else [rdV ((bs.drop 28).take 7)]) else []⟩ := by simp [rparS, hx5, hx35]
    have hw5 := x5.toNat_lt
    have w5 : IntKind.i64.wrap (x5.toNat : Int) = (x5.toNat : Int) := wrap_in (by omega) (by omega)
    have q1 := fun X => rnum_c X ((bs.drop 0).take 5) (by simp; omega)
    have q2 := fun X => rnum_c X ((bs.drop 6).take 4) (by simp; omega)
    have q3 := fun X => rnum_c X ((bs.drop 10).take 6) (by simp; omega)
    have q4 := fun X => rnum_c X ((bs.drop 16).take 5) (by simp; omega)
    have q5 := fun X => rread_l X ((bs.drop 21).take 7) (by simp; omega)
    have q6 := fun X => rread_l X ((bs.drop 28).take 7) (by simp; omega)
    have q7 := fun X => rread_l X ((bs.drop 36).take 7) (by simp; omega)
    have s1 := num_small (bs := bs) (lo := 0) (w := 5) (by decide)
    have s2 := num_small (bs := bs) (lo := 6) (w := 4) (by decide)
    have s3 := num_small (bs := bs) (lo := 10) (w := 6) (by decide)
    have s4 := num_small (bs := bs) (lo := 16) (w := 5) (by decide)
    have l1 : ((bs.drop 0).take 5).length = 5 := by simp; omega
    have l2 : ((bs.drop 6).take 4).length = 4 := by simp; omega
    have l3 : ((bs.drop 10).take 6).length = 6 := by simp; omega
    have l4 : ((bs.drop 16).take 5).length = 5 := by simp; omega
    have l5 : ((bs.drop 21).take 7).length = 7 := by simp; omega
    have l6 : ((bs.drop 28).take 7).length = 7 := by simp; omega
    have l7 : ((bs.drop 36).take 7).length = 7 := by simp; omega
    repeat' (first | ((refine Qa rfl ?_); (first | refine Q0 ?_ | refine Q1 ?_ | refine QC rfl rfl ?_ | refine QD rfl ?_); (refine QX rfl rfl ?_)) | refine Qh ?_ | refine Ql ?_ | refine Qm ?_ | refine Qo rfl ?_ | refine Qq rfl ?_)
    refine awp_mid (s1 := ⟨[(0, .sl 1 (b.map u8A)), (1, .int .i64 (sector : Int)), (4, .ptr 0 0), (6, .sl 1 (bs.map u8A)), (8, .ptr 1 0)], [some (.cells (sbF zeroS .nils) 50), some (.cells (sbF ⟨(numN ((bs.drop 0).take 5) : Nat), (x5.toNat : Nat), (numN ((bs.drop 6).take 4) : Nat), (numN ((bs.drop 10).take 6) : Nat), (numN ((bs.drop 16).take 5) : Nat), rdV ((bs.drop 21).take 7), rdV ((bs.drop 28).take 7), []⟩ .nils) 50)]⟩) ?_ ?_
    · skip
      refine awp_region_any [27, 28] [0, 1, 2, 3, 4, 5, 6, 7, 8, 9, 10, 11, 12, 13, 14, 15, 16, 17, 18, 19, 20, 21, 22, 23, 24, 25, 26] (by exact rfl) ?_
      refine any_lin (fuel := 0) [0, 1, 2, 3, 4, 5, 6, 7, 8, 9, 10, 11, 12, 13, 14, 15, 16, 17, 18, 19, 20, 21, 22, 23, 24, 25, 26, 27, 28] (by exact rfl) (by kernel_rfl) (by kernel_rfl) ?_
      repeat' ((apply Qe rfl rfl rfl rfl; intro H9); (refine Q0 ?_); (exact QY rfl ⟨rfl, rfl⟩))
      apply ds_soN rfl rfl rfl rfl
      · intro H9
        refine st_sls (l := 0) (h := 5) (ys := (bs.drop 0).take 5) (bnd_none) (bnd_some rfl rfl) (by omega) (by omega) (by rw [List.drop_take]) rfl rfl rfl rfl rfl ?_
        exact nx0 ⟨rfl, rfl⟩
      generalize (bs.drop 0).take 5 = b1 at *
      skip
      apply ds_soN rfl rfl rfl rfl
      · intro H9
        refine st_call (fun _ => rfl) rfl ?_
        refine ACalls.mono (acalls_pure (E := E0 X) (fun X => q1 X) (by simp [IdsLtL, IdsLt]) _) ?_
        rintro r H' ⟨rfl, rfl⟩
        first | exact nxs rfl ⟨rfl, rfl⟩ | exact nx0 ⟨rfl, rfl⟩
      repeat' ((apply Qe rfl rfl rfl rfl; intro H9); (first | refine Q0 ?_ | refine QG rfl rfl rfl rfl ?_); (exact QY rfl ⟨rfl, rfl⟩))
      apply ds_soN rfl rfl rfl rfl
      · intro H9
        refine st_ixm hx5 rfl rfl rfl rfl rfl rfl rfl (by first | rfl | omega) rfl ?_
        first | exact nxs rfl ⟨rfl, rfl⟩ | exact nx0 ⟨rfl, rfl⟩
      repeat' ((apply Qe rfl rfl rfl rfl; intro H9); (first | refine Q0 ?_ | refine Q3 rfl rfl rfl ?_ | refine QG rfl rfl rfl rfl ?_); (exact QY rfl ⟨rfl, rfl⟩))
      apply ds_soN rfl rfl rfl rfl
      · intro H9
        refine st_sls (l := 6) (h := 10) (ys := (bs.drop 6).take 4) (bnd_some rfl rfl) (bnd_some rfl rfl) (by omega) (by omega) (by rw [List.drop_take]) rfl rfl rfl rfl rfl ?_
        exact nx0 ⟨rfl, rfl⟩
      generalize (bs.drop 6).take 4 = b2 at *
      skip
      apply ds_soN rfl rfl rfl rfl
      · intro H9
        refine st_call (fun _ => rfl) rfl ?_
        refine ACalls.mono (acalls_pure (E := E0 X) (fun X => q2 X) (by simp [IdsLtL, IdsLt]) _) ?_
        rintro r H' ⟨rfl, rfl⟩
        first | exact nxs rfl ⟨rfl, rfl⟩ | exact nx0 ⟨rfl, rfl⟩
      repeat' ((apply Qe rfl rfl rfl rfl; intro H9); (first | refine Q0 ?_ | refine QG rfl rfl rfl rfl ?_); (exact QY rfl ⟨rfl, rfl⟩))
      apply ds_soN rfl rfl rfl rfl
      · intro H9
        refine st_sls (l := 10) (h := 16) (ys := (bs.drop 10).take 6) (bnd_some rfl rfl) (bnd_some rfl rfl) (by omega) (by omega) (by rw [List.drop_take]) rfl rfl rfl rfl rfl ?_
        exact nx0 ⟨rfl, rfl⟩
      generalize (bs.drop 10).take 6 = b3 at *
      skip
      apply ds_soN rfl rfl rfl rfl
      · intro H9
        refine st_call (fun _ => rfl) rfl ?_
        refine ACalls.mono (acalls_pure (E := E0 X) (fun X => q3 X) (by simp [IdsLtL, IdsLt]) _) ?_
        rintro r H' ⟨rfl, rfl⟩
        first | exact nxs rfl ⟨rfl, rfl⟩ | exact nx0 ⟨rfl, rfl⟩
      repeat' ((apply Qe rfl rfl rfl rfl; intro H9); (first | refine Q0 ?_ | refine QG rfl rfl rfl rfl ?_); (exact QY rfl ⟨rfl, rfl⟩))
      apply ds_soN rfl rfl rfl rfl
      · intro H9
        refine st_sls (l := 16) (h := 21) (ys := (bs.drop 16).take 5) (bnd_some rfl rfl) (bnd_some rfl rfl) (by omega) (by omega) (by rw [List.drop_take]) rfl rfl rfl rfl rfl ?_
        exact nx0 ⟨rfl, rfl⟩
      generalize (bs.drop 16).take 5 = b4 at *
      skip
      apply ds_soN rfl rfl rfl rfl
      · intro H9
        refine st_call (fun _ => rfl) rfl ?_
        refine ACalls.mono (acalls_pure (E := E0 X) (fun X => q4 X) (by simp [IdsLtL, IdsLt]) _) ?_
        rintro r H' ⟨rfl, rfl⟩
        first | exact nxs rfl ⟨rfl, rfl⟩ | exact nx0 ⟨rfl, rfl⟩
      repeat' ((apply Qe rfl rfl rfl rfl; intro H9); (first | refine Q0 ?_ | refine QG rfl rfl rfl rfl ?_); (exact QY rfl ⟨rfl, rfl⟩))
      apply ds_soN rfl rfl rfl rfl
      · intro H9
        refine st_sls (l := 21) (h := 28) (ys := (bs.drop 21).take 7) (bnd_some rfl rfl) (bnd_some rfl rfl) (by omega) (by omega) (by rw [List.drop_take]) rfl rfl rfl rfl rfl ?_
        exact nx0 ⟨rfl, rfl⟩
      generalize (bs.drop 21).take 7 = b5 at *
      skip
      apply ds_soN rfl rfl rfl rfl
      · intro H9
        refine st_call (fun _ => rfl) rfl ?_
        refine ACalls.mono (acalls_pure (E := E0 X) (fun X => q5 X) (by simp [IdsLtL, IdsLt]) _) ?_
        rintro r H' ⟨rfl, rfl⟩
        first | exact nxs rfl ⟨rfl, rfl⟩ | exact nx0 ⟨rfl, rfl⟩
      repeat' ((apply Qe rfl rfl rfl rfl; intro H9); (refine Q0 ?_); (exact QY rfl ⟨rfl, rfl⟩))
      apply ds_soN rfl rfl rfl rfl
      · intro H9
        refine st_sls (l := 28) (h := 35) (ys := (bs.drop 28).take 7) (bnd_some rfl rfl) (bnd_some rfl rfl) (by omega) (by omega) (by rw [List.drop_take]) rfl rfl rfl rfl rfl ?_
        exact nx0 ⟨rfl, rfl⟩
      generalize (bs.drop 28).take 7 = b6 at *
      skip
      apply ds_soN rfl rfl rfl rfl
      · intro H9
        refine st_call (fun _ => rfl) rfl ?_
        refine ACalls.mono (acalls_pure (E := E0 X) (fun X => q6 X) (by simp [IdsLtL, IdsLt]) _) ?_
        rintro r H' ⟨rfl, rfl⟩
        first | exact nxs rfl ⟨rfl, rfl⟩ | exact nx0 ⟨rfl, rfl⟩
      repeat' (first | ((first | refine Qc rfl rfl rfl ?_ | (apply Qe rfl rfl rfl rfl; intro H9)); (first | refine QJ rfl rfl ?_ | refine QP rfl rfl rfl rfl rfl rfl ?_); (first | exact QY rfl ⟨rfl, rfl⟩ | refine QX rfl rfl ?_)) | (refine Qf rfl rfl rfl ?_; refine QS rfl rfl rfl rfl rfl rfl rfl ?_; (refine QX rfl rfl ?_)) | refine Qk ?_ | refine Qw (by kernel_rfl) ?_)
      rw [w5, wrapI s1, wrapI s2, wrapI s3, wrapI s4]
      refine ⟨rfl, imp_cutk 2 (Nat.zero_le _) (hok_rsd _) rfl (by simp) ?_⟩
      repeat' (first | exact fa_nil | refine fa_cons ⟨?_, ?_⟩ ?_)
      all_goals (try first | exact rfl | exact trivial | (simp [IdsLt]; done) | (simp [get_cons]; done) | (simp [get_cons, *]; done) | (refine congrArg (AV.int .i64) (wrap_eq ?_ ?_ ?_) <;> (first | omega | (simp; omega))))
    rw [hp]
    generalize ((numN ((bs.drop 0).take 5) : Nat) : Int) = n1 at *
    generalize ((numN ((bs.drop 6).take 4) : Nat) : Int) = n3 at *
    generalize ((numN ((bs.drop 10).take 6) : Nat) : Int) = n4 at *
    generalize ((numN ((bs.drop 16).take 5) : Nat) : Int) = n5 at *
    generalize rdV ((bs.drop 21).take 7) = la at *
    generalize rdV ((bs.drop 28).take 7) = lh at *
    generalize (x5.toNat : Int) = n2 at *
    have hx := x35.toNat_lt
    by_cases h2' : 2 ≤ x35.toNat
    · have h1' : 1 ≤ x35.toNat := by omega
      rw [if_pos h1', if_pos h2']
      repeat' (first | ((refine Qa rfl ?_); (refine Q0 ?_); (refine QX rfl rfl ?_)) | refine Qa rfl ?_ | refine Ql ?_ | refine Qo rfl ?_)
      refine st_ixm hx35 rfl rfl rfl rfl rfl rfl rfl (by first | rfl | omega) rfl ?_
      first | refine nx rfl rfl ?_ | refine nx0 ?_
      repeat' (first | ((refine Qa rfl ?_); (first | refine Q2 rfl ?_ | refine Q3 rfl rfl rfl ?_); (refine QX rfl rfl ?_)) | refine Qh ?_ | refine Qs ?_)
      refine awp_cond_dec rfl (fun h1 => ?_) (fun h1 => ?_)
      rotate_left
      · omega
      repeat' (first | ((refine Qa rfl ?_); (first | refine Q3 rfl rfl rfl ?_ | refine Q4 rfl rfl rfl rfl rfl ?_); (refine QX rfl rfl ?_)) | refine Qa rfl ?_ | refine Qo rfl ?_)
      refine st_buildSlice_own rfl rfl rfl rfl rfl rfl rfl (.inl rfl) rfl (.inl rfl) ?_
      first | refine nx rfl rfl ?_ | refine nx0 ?_
      repeat' (first | ((refine Qa rfl ?_); (first | refine Q0 ?_ | refine Q4 rfl rfl rfl rfl rfl ?_); (refine QX rfl rfl ?_)) | refine Qa rfl ?_ | (refine Qb rfl ?_; try (refine QS rfl rfl rfl rfl rfl rfl rfl ?_; (refine QX rfl rfl ?_))) | refine Qh ?_ | refine Ql ?_ | refine Qo rfl ?_)
      refine st_ixm hx35 rfl rfl rfl rfl rfl rfl rfl (by first | rfl | omega) rfl ?_
      first | refine nx rfl rfl ?_ | refine nx0 ?_
      repeat' (first | ((refine Qa rfl ?_); (first | refine Q2 rfl ?_ | refine Q3 rfl rfl rfl ?_); (refine QX rfl rfl ?_)) | refine Qh ?_ | refine Qs ?_)
      refine awp_cond_dec rfl (fun h2 => ?_) (fun h2 => ?_)
      rotate_left
      · omega
      refine awp_region_any [6, 8] [0, 2, 3, 4, 5, 7] (by exact rfl) ?_
      refine any_lin (fuel := 0) [0, 2, 3, 4, 5, 1, 6, 7, 8] (by exact rfl) (by kernel_rfl) (by kernel_rfl) ?_
      repeat' ((apply Qe rfl rfl rfl rfl; intro H9); (first | refine Q0 ?_ | refine Q4 rfl rfl rfl rfl rfl ?_); (exact QY rfl ⟨rfl, rfl⟩))
      apply ds_soN rfl rfl rfl rfl
      · intro H9
        refine st_sls (l := 36) (h := 43) (ys := (bs.drop 36).take 7) (bnd_some rfl rfl) (bnd_some rfl rfl) (by omega) (by omega) (by rw [List.drop_take]) rfl rfl rfl rfl rfl ?_
        exact nx0 ⟨rfl, rfl⟩
      generalize (bs.drop 36).take 7 = b7 at *
      skip
      apply ds_soN rfl rfl rfl rfl
      · intro H9
        refine st_call (fun _ => rfl) rfl ?_
        refine ACalls.mono (acalls_pure (E := E0 X) (fun X => q7 X) (by simp [IdsLtL, IdsLt]) _) ?_
        rintro r H' ⟨rfl, rfl⟩
        first | exact nxs rfl ⟨rfl, rfl⟩ | exact nx0 ⟨rfl, rfl⟩
      repeat' ((first | refine Qc rfl rfl rfl ?_ | apply Qd rfl rfl rfl rfl | (apply Qe rfl rfl rfl rfl; intro H9)); (first | refine Q3 rfl rfl rfl ?_ | refine QQ rfl rfl rfl rfl rfl rfl rfl rfl rfl rfl rfl ?_); (first | exact QX rfl rfl ⟨rfl, rfl⟩ | exact QY rfl ⟨rfl, rfl⟩))
      generalize rdV b7 = lf at *
      refine ds_ef rfl rfl rfl ?_
      refine st_app (oid := some 2) (es := [lh].map laA) (out := [lh, lf].map laA) (n := 2) (dst_own rfl rfl) (rfl) (oneEs_la [lf]) (rfl) (rfl) (by show _ ≤ 9223372036854775807; omega) (by show _ * 32 ≤ _; omega) rfl rfl rfl rfl rfl rfl rfl rfl ?_
      first | refine nx rfl rfl ?_ | refine nx0 ?_
      repeat' (first | ((apply Qe rfl rfl rfl rfl; intro H9); (refine Q4 rfl rfl rfl rfl rfl ?_); (exact QY rfl ⟨rfl, rfl⟩)) | (refine Qf rfl rfl rfl ?_; refine QS rfl rfl rfl rfl rfl rfl rfl ?_; (refine QX rfl rfl ?_)) | refine Qk ?_ | refine Qw (by kernel_rfl) ?_)
      refine awp_pre (imp_freezeH (id := 3) (k := 4) (es := [lh, lf].map laA) (e := 29) rfl rfl rfl) ?_
      repeat' (first | ((refine Qa rfl ?_); (refine Q3 rfl rfl rfl ?_); (refine QX rfl rfl ?_)) | refine Qa rfl ?_ | refine Ql ?_ | refine Qo rfl ?_)
      refine st_call (fun _ => rfl) rfl ?_
      refine ACalls.mono (acalls_pure (E := E0 X) (fun X => rsvalid_w X ⟨n1, n2, n3, n4, n5, la, lh, [lh, lf]⟩ (.sl 4 ([lh, lf].map laA)) (fun _ _ _ h => h)) ⟨⟨trivial, trivial, trivial, trivial, trivial, trivial, trivial, trivial, trivial, trivial, trivial, trivial, trivial, la_ids [lh, lf], trivial⟩, trivial⟩ _) ?_
      rintro r H' ⟨rfl, rfl⟩
      first | refine nx rfl rfl ?_ | refine nx0 ?_
      cases hv : sbB ⟨n1, n2, n3, n4, n5, la, lh, [lh, lf]⟩ with
      | false =>
        have e9 : encSO ⟨n1, n2, n3, n4, n5, la, lh, [lh, lf]⟩ sector = none := by unfold encSO; rw [if_neg (by simp [hv])]
        repeat' (first | ((refine Qa rfl ?_); (first | refine Q0 ?_ | refine Q1 ?_ | refine Q5 rfl ?_ | refine QD rfl ?_ | refine QP rfl rfl rfl rfl rfl rfl ?_); (refine QX rfl rfl ?_)) | (refine Qb rfl ?_; try (refine QS rfl rfl rfl rfl rfl rfl rfl ?_; (refine QX rfl rfl ?_))) | refine Qh ?_ | refine Qi rfl ?_ | refine Ql ?_ | refine Qo rfl ?_ | refine Qp rfl ?_ | refine Qs ?_)
        refine awp_ret ?_
        exact ⟨_, rfl, .inl ⟨rfl, if_neg (by rw [e9]; simp)⟩⟩
      | true =>
        have henc := fun X => rsenc_w X ⟨n1, n2, n3, n4, n5, la, lh, [lh, lf]⟩ (.sl 4 ([lh, lf].map laA)) (fun _ _ _ h => h) sector hv hs
        have e9 : encSO ⟨n1, n2, n3, n4, n5, la, lh, [lh, lf]⟩ sector = some (encS ⟨n1, n2, n3, n4, n5, la, lh, [lh, lf]⟩ sector) := by unfold encSO; rw [if_pos hv]
        have hel : (encS ⟨n1, n2, n3, n4, n5, la, lh, [lh, lf]⟩ sector).length = 64 := encS_len _ _
        rw [e9]
        generalize encS ⟨n1, n2, n3, n4, n5, la, lh, [lh, lf]⟩ sector = eb at *
        repeat' (first | ((refine Qa rfl ?_); (first | refine Q0 ?_ | refine Q3 rfl rfl rfl ?_ | refine QD rfl ?_); (refine QX rfl rfl ?_)) | refine Qa rfl ?_)
        refine st_call (fun _ => rfl) rfl ?_
        refine ACalls.mono (acalls_pure (E := E0 X) henc ⟨⟨trivial, trivial, trivial, trivial, trivial, trivial, trivial, trivial, trivial, trivial, trivial, trivial, trivial, la_ids [lh, lf], trivial⟩, trivial, trivial⟩ _) ?_
        rintro r H' ⟨rfl, rfl⟩
        first | refine nx rfl rfl ?_ | refine nx0 ?_
        repeat' (first | ((refine Qa rfl ?_); (refine Q0 ?_); (refine QX rfl rfl ?_)) | refine Qa rfl ?_)
        refine st_call (fun _ => rfl) rfl ?_
        refine ACalls.mono (acalls_pure (E := E0 X) (fun X => eqb_c X eb b (by omega)) (by simp [IdsLtL, IdsLt]) _) ?_
        rintro r H' ⟨rfl, rfl⟩
        first | refine nx rfl rfl ?_ | refine nx0 ?_
        repeat' (first | ((refine Qa rfl ?_); (first | refine Q5 rfl ?_ | refine QD rfl ?_); (refine QX rfl rfl ?_)) | refine Qh ?_ | refine Qs ?_)
        refine awp_cond rfl (fun h9 => ?_) (fun h9 => ?_)
        · have h8 : ¬ eb = b := by simpa using h9
          repeat' (first | ((refine Qa rfl ?_); (first | refine Q1 ?_ | refine QP rfl rfl rfl rfl rfl rfl ?_); (refine QX rfl rfl ?_)) | (refine Qb rfl ?_; try (refine QS rfl rfl rfl rfl rfl rfl rfl ?_; (refine QX rfl rfl ?_))) | refine Qh ?_ | refine Ql ?_ | refine Qo rfl ?_ | refine Qs ?_)
          refine awp_ret ?_
          exact ⟨_, rfl, .inl ⟨rfl, if_neg (by simpa using h8)⟩⟩
        · have h8 : eb = b := by simpa using h9
          repeat' (first | ((refine Qa rfl ?_); (first | refine Q1 ?_ | refine Q3 rfl rfl rfl ?_); (refine QX rfl rfl ?_)) | (refine Qb rfl ?_; try (refine QS rfl rfl rfl rfl rfl rfl rfl ?_; (refine QX rfl rfl ?_))) | refine Qh ?_ | refine Ql ?_ | refine Qm ?_ | refine Qo rfl ?_ | refine Qs ?_)
          refine awp_ret ?_
          exact ⟨_, rfl, .inr ⟨⟨n1, n2, n3, n4, n5, la, lh, [lh, lf]⟩, (.sl 4 ([lh, lf].map laA)), rfl, if_pos (by rw [h8]), (fun _ _ _ h => h)⟩⟩
    · by_cases h1' : 1 ≤ x35.toNat
      · rw [if_pos h1', if_neg h2']
        repeat' (first | ((refine Qa rfl ?_); (refine Q0 ?_); (refine QX rfl rfl ?_)) | refine Qa rfl ?_ | refine Ql ?_ | refine Qo rfl ?_)
        refine st_ixm hx35 rfl rfl rfl rfl rfl rfl rfl (by first | rfl | omega) rfl ?_
        first | refine nx rfl rfl ?_ | refine nx0 ?_
        repeat' (first | ((refine Qa rfl ?_); (first | refine Q2 rfl ?_ | refine Q3 rfl rfl rfl ?_); (refine QX rfl rfl ?_)) | refine Qh ?_ | refine Qs ?_)
        refine awp_cond_dec rfl (fun h1 => ?_) (fun h1 => ?_)
        rotate_left
        · omega
        repeat' (first | ((refine Qa rfl ?_); (first | refine Q0 ?_ | refine Q3 rfl rfl rfl ?_ | refine Q4 rfl rfl rfl rfl rfl ?_ | refine QQ rfl rfl rfl rfl rfl rfl rfl rfl rfl rfl rfl ?_); (refine QX rfl rfl ?_)) | refine Qa rfl ?_ | (refine Qb rfl ?_; try (refine QS rfl rfl rfl rfl rfl rfl rfl ?_; (refine QX rfl rfl ?_))) | refine Qh ?_ | refine Ql ?_ | refine Qo rfl ?_)
        refine st_ixm hx35 rfl rfl rfl rfl rfl rfl rfl (by first | rfl | omega) rfl ?_
        first | refine nx rfl rfl ?_ | refine nx0 ?_
        repeat' (first | ((refine Qa rfl ?_); (first | refine Q2 rfl ?_ | refine Q3 rfl rfl rfl ?_); (refine QX rfl rfl ?_)) | refine Qh ?_ | refine Qs ?_)
        refine awp_cond_dec rfl (fun h2 => ?_) (fun h2 => ?_)
        · omega
        repeat' (first | ((refine Qa rfl ?_); (refine Q3 rfl rfl rfl ?_); (refine QX rfl rfl ?_)) | refine Qa rfl ?_ | refine Ql ?_ | refine Qm ?_ | refine Qo rfl ?_)
        refine st_call (fun _ => rfl) rfl ?_
        refine ACalls.mono (acalls_pure (E := E0 X) (fun X => rsvalid_w X ⟨n1, n2, n3, n4, n5, la, lh, [lh]⟩ (.sl 4 ([lh].map laA)) (fun _ _ _ h => h)) ⟨⟨trivial, trivial, trivial, trivial, trivial, trivial, trivial, trivial, trivial, trivial, trivial, trivial, trivial, la_ids [lh], trivial⟩, trivial⟩ _) ?_
        rintro r H' ⟨rfl, rfl⟩
        first | refine nx rfl rfl ?_ | refine nx0 ?_
        cases hv : sbB ⟨n1, n2, n3, n4, n5, la, lh, [lh]⟩ with
        | false =>
          have e9 : encSO ⟨n1, n2, n3, n4, n5, la, lh, [lh]⟩ sector = none := by unfold encSO; rw [if_neg (by simp [hv])]
          repeat' (first | ((refine Qa rfl ?_); (first | refine Q0 ?_ | refine Q1 ?_ | refine Q5 rfl ?_ | refine QD rfl ?_ | refine QP rfl rfl rfl rfl rfl rfl ?_); (refine QX rfl rfl ?_)) | (refine Qb rfl ?_; try (refine QS rfl rfl rfl rfl rfl rfl rfl ?_; (refine QX rfl rfl ?_))) | refine Qh ?_ | refine Qi rfl ?_ | refine Ql ?_ | refine Qo rfl ?_ | refine Qp rfl ?_ | refine Qs ?_)
          refine awp_ret ?_
          exact ⟨_, rfl, .inl ⟨rfl, if_neg (by rw [e9]; simp)⟩⟩
        | true =>
          have henc := fun X => rsenc_w X ⟨n1, n2, n3, n4, n5, la, lh, [lh]⟩ (.sl 4 ([lh].map laA)) (fun _ _ _ h => h) sector hv hs
          have e9 : encSO ⟨n1, n2, n3, n4, n5, la, lh, [lh]⟩ sector = some (encS ⟨n1, n2, n3, n4, n5, la, lh, [lh]⟩ sector) := by unfold encSO; rw [if_pos hv]
          have hel : (encS ⟨n1, n2, n3, n4, n5, la, lh, [lh]⟩ sector).length = 64 := encS_len _ _
          rw [e9]
          generalize encS ⟨n1, n2, n3, n4, n5, la, lh, [lh]⟩ sector = eb at *
          repeat' (first | ((refine Qa rfl ?_); (first | refine Q0 ?_ | refine Q3 rfl rfl rfl ?_ | refine QD rfl ?_); (refine QX rfl rfl ?_)) | refine Qa rfl ?_)
          refine st_call (fun _ => rfl) rfl ?_
          refine ACalls.mono (acalls_pure (E := E0 X) henc ⟨⟨trivial, trivial, trivial, trivial, trivial, trivial, trivial, trivial, trivial, trivial, trivial, trivial, trivial, la_ids [lh], trivial⟩, trivial, trivial⟩ _) ?_
          rintro r H' ⟨rfl, rfl⟩
          first | refine nx rfl rfl ?_ | refine nx0 ?_
          repeat' (first | ((refine Qa rfl ?_); (refine Q0 ?_); (refine QX rfl rfl ?_)) | refine Qa rfl ?_)
          refine st_call (fun _ => rfl) rfl ?_
          refine ACalls.mono (acalls_pure (E := E0 X) (fun X => eqb_c X eb b (by omega)) (by simp [IdsLtL, IdsLt]) _) ?_
          rintro r H' ⟨rfl, rfl⟩
          first | refine nx rfl rfl ?_ | refine nx0 ?_
          repeat' (first | ((refine Qa rfl ?_); (first | refine Q5 rfl ?_ | refine QD rfl ?_); (refine QX rfl rfl ?_)) | refine Qh ?_ | refine Qs ?_)
          refine awp_cond rfl (fun h9 => ?_) (fun h9 => ?_)
          · have h8 : ¬ eb = b := by simpa using h9
            repeat' (first | ((refine Qa rfl ?_); (first | refine Q1 ?_ | refine QP rfl rfl rfl rfl rfl rfl ?_); (refine QX rfl rfl ?_)) | (refine Qb rfl ?_; try (refine QS rfl rfl rfl rfl rfl rfl rfl ?_; (refine QX rfl rfl ?_))) | refine Qh ?_ | refine Ql ?_ | refine Qo rfl ?_ | refine Qs ?_)
            refine awp_ret ?_
            exact ⟨_, rfl, .inl ⟨rfl, if_neg (by simpa using h8)⟩⟩
          · have h8 : eb = b := by simpa using h9
            repeat' (first | ((refine Qa rfl ?_); (first | refine Q1 ?_ | refine Q3 rfl rfl rfl ?_); (refine QX rfl rfl ?_)) | (refine Qb rfl ?_; try (refine QS rfl rfl rfl rfl rfl rfl rfl ?_; (refine QX rfl rfl ?_))) | refine Qh ?_ | refine Ql ?_ | refine Qm ?_ | refine Qo rfl ?_ | refine Qs ?_)
            refine awp_ret ?_
            exact ⟨_, rfl, .inr ⟨⟨n1, n2, n3, n4, n5, la, lh, [lh]⟩, (.sl 4 ([lh].map laA)), rfl, if_pos (by rw [h8]), (fun _ _ _ h => h)⟩⟩
      · rw [if_neg h1']
        repeat' (first | ((refine Qa rfl ?_); (refine Q0 ?_); (refine QX rfl rfl ?_)) | refine Qa rfl ?_ | refine Ql ?_ | refine Qo rfl ?_)
        refine st_ixm hx35 rfl rfl rfl rfl rfl rfl rfl (by first | rfl | omega) rfl ?_
        first | refine nx rfl rfl ?_ | refine nx0 ?_
        repeat' (first | ((refine Qa rfl ?_); (first | refine Q2 rfl ?_ | refine Q3 rfl rfl rfl ?_); (refine QX rfl rfl ?_)) | refine Qh ?_ | refine Qs ?_)
        refine awp_cond_dec rfl (fun h1 => ?_) (fun h1 => ?_)
        · omega
        repeat' (first | ((refine Qa rfl ?_); (refine Q0 ?_); (refine QX rfl rfl ?_)) | refine Qa rfl ?_ | refine Ql ?_ | refine Qm ?_ | refine Qo rfl ?_)
        refine st_ixm hx35 rfl rfl rfl rfl rfl rfl rfl (by first | rfl | omega) rfl ?_
        first | refine nx rfl rfl ?_ | refine nx0 ?_
        repeat' (first | ((refine Qa rfl ?_); (first | refine Q2 rfl ?_ | refine Q3 rfl rfl rfl ?_); (refine QX rfl rfl ?_)) | refine Qh ?_ | refine Qs ?_)
        refine awp_cond_dec rfl (fun h2 => ?_) (fun h2 => ?_)
        · omega
        repeat' (first | ((refine Qa rfl ?_); (refine Q3 rfl rfl rfl ?_); (refine QX rfl rfl ?_)) | refine Qa rfl ?_ | refine Ql ?_ | refine Qm ?_ | refine Qo rfl ?_)
        refine st_call (fun _ => rfl) rfl ?_
        refine ACalls.mono (acalls_pure (E := E0 X) (fun X => rsvalid_w X ⟨n1, n2, n3, n4, n5, la, lh, []⟩ .nils rel_nil4) ⟨⟨trivial, trivial, trivial, trivial, trivial, trivial, trivial, trivial, trivial, trivial, trivial, trivial, trivial, trivial, trivial⟩, trivial⟩ _) ?_
        rintro r H' ⟨rfl, rfl⟩
        first | refine nx rfl rfl ?_ | refine nx0 ?_
        cases hv : sbB ⟨n1, n2, n3, n4, n5, la, lh, []⟩ with
        | false =>
          have e9 : encSO ⟨n1, n2, n3, n4, n5, la, lh, []⟩ sector = none := by unfold encSO; rw [if_neg (by simp [hv])]
          repeat' (first | ((refine Qa rfl ?_); (first | refine Q0 ?_ | refine Q1 ?_ | refine Q5 rfl ?_ | refine QD rfl ?_ | refine QP rfl rfl rfl rfl rfl rfl ?_); (refine QX rfl rfl ?_)) | (refine Qb rfl ?_; try (refine QS rfl rfl rfl rfl rfl rfl rfl ?_; (refine QX rfl rfl ?_))) | refine Qh ?_ | refine Qi rfl ?_ | refine Ql ?_ | refine Qo rfl ?_ | refine Qp rfl ?_ | refine Qs ?_)
          refine awp_ret ?_
          exact ⟨_, rfl, .inl ⟨rfl, if_neg (by rw [e9]; simp)⟩⟩
        | true =>
          have henc := fun X => rsenc_w X ⟨n1, n2, n3, n4, n5, la, lh, []⟩ .nils rel_nil4 sector hv hs
          have e9 : encSO ⟨n1, n2, n3, n4, n5, la, lh, []⟩ sector = some (encS ⟨n1, n2, n3, n4, n5, la, lh, []⟩ sector) := by unfold encSO; rw [if_pos hv]
          have hel : (encS ⟨n1, n2, n3, n4, n5, la, lh, []⟩ sector).length = 64 := encS_len _ _
          rw [e9]
          generalize encS ⟨n1, n2, n3, n4, n5, la, lh, []⟩ sector = eb at *
          repeat' (first | ((refine Qa rfl ?_); (first | refine Q0 ?_ | refine Q3 rfl rfl rfl ?_ | refine QD rfl ?_); (refine QX rfl rfl ?_)) | refine Qa rfl ?_)
          refine st_call (fun _ => rfl) rfl ?_
          refine ACalls.mono (acalls_pure (E := E0 X) henc ⟨⟨trivial, trivial, trivial, trivial, trivial, trivial, trivial, trivial, trivial, trivial, trivial, trivial, trivial, trivial, trivial⟩, trivial, trivial⟩ _) ?_
          rintro r H' ⟨rfl, rfl⟩
          first | refine nx rfl rfl ?_ | refine nx0 ?_
          repeat' (first | ((refine Qa rfl ?_); (refine Q0 ?_); (refine QX rfl rfl ?_)) | refine Qa rfl ?_)
          refine st_call (fun _ => rfl) rfl ?_
          refine ACalls.mono (acalls_pure (E := E0 X) (fun X => eqb_c X eb b (by omega)) (by simp [IdsLtL, IdsLt]) _) ?_
          rintro r H' ⟨rfl, rfl⟩
          first | refine nx rfl rfl ?_ | refine nx0 ?_
          repeat' (first | ((refine Qa rfl ?_); (first | refine Q5 rfl ?_ | refine QD rfl ?_); (refine QX rfl rfl ?_)) | refine Qh ?_ | refine Qs ?_)
          refine awp_cond rfl (fun h9 => ?_) (fun h9 => ?_)
          · have h8 : ¬ eb = b := by simpa using h9
            repeat' (first | ((refine Qa rfl ?_); (first | refine Q1 ?_ | refine QP rfl rfl rfl rfl rfl rfl ?_); (refine QX rfl rfl ?_)) | (refine Qb rfl ?_; try (refine QS rfl rfl rfl rfl rfl rfl rfl ?_; (refine QX rfl rfl ?_))) | refine Qh ?_ | refine Ql ?_ | refine Qo rfl ?_ | refine Qs ?_)
            refine awp_ret ?_
            exact ⟨_, rfl, .inl ⟨rfl, if_neg (by simpa using h8)⟩⟩
          · have h8 : eb = b := by simpa using h9
            repeat' (first | ((refine Qa rfl ?_); (first | refine Q1 ?_ | refine Q3 rfl rfl rfl ?_); (refine QX rfl rfl ?_)) | (refine Qb rfl ?_; try (refine QS rfl rfl rfl rfl rfl rfl rfl ?_; (refine QX rfl rfl ?_))) | refine Qh ?_ | refine Ql ?_ | refine Qm ?_ | refine Qo rfl ?_ | refine Qs ?_)
            refine awp_ret ?_
            exact ⟨_, rfl, .inr ⟨⟨n1, n2, n3, n4, n5, la, lh, []⟩, .nils, rfl, if_pos (by rw [h8]), rel_nil4⟩⟩
end Go.Abs
