/- The closure of kept. Joined texts, each with what its own name promises; no condition beyond those stated. -/
import Derived.Test.YtlndakkehobnpaaDoorME
import Derived.Test.YtlndakkehobnpaaDoorMJ
import Derived.Test.YtlndakkehobnpaaDoorMB
import Derived.Test.YtlndakkehobnpaaDoorPD
import Derived.Test.YtlndakkehobnpaaDoorPE
import Derived.Test.YtlndakkehobnpaaDoorPB
namespace Go.Abs
/-- What lies behind the caller's objects is dropped. -/
theorem imp_cut {E : Env} {N n : Nat} {sl sl' : List (Nat × AV)} {hp H0 : Hp} (hok : HOk n H0) (hh : hp.take n = H0) (hl : n ≤ hp.length) (hsl : ∀ p ∈ sl', get sl p.1 = p.2 ∧ IdsLt n p.2) : Imp E N n ⟨sl, hp⟩ ⟨sl', H0⟩ := by
  have := imp_gc (E := E) (N := N) (n0 := n) (s := ⟨sl, hp⟩) n [] sl' [] (Nat.le_refl _) hl (by simp) (by simp) (by rw [hh]; exact hok) (fun p hp => by
    rw [(hsl p hp).1]; exact ren_old n gcF_lt (hsl p hp).2) rfl (fun _ _ _ h => absurd h (by simp))
  simpa [hh] using this
theorem hok_int (k : Int) : HOk 1 [some (.cells [.int .i64 k] 3)] := fun j o ho => by
  match j, ho with
  | 0, ho => cases ho; exact ⟨trivial, trivial⟩
structure Tr where
  k : Int
  n : Int
def trA (t : Tr) : AV := .agg [.int .i64 t.k, .int .i64 t.n]
def Tr.fits (t : Tr) (k : Int) : Bool := decide (t.k = k) && (decide (0 < t.n) && decide (t.n < 64))

attribute [local irreducible] AStep aops AWp Nx awM
set_option maxHeartbeats 0 in
theorem keptfn_c (X : Nat → Prop) (t : Tr) (k : Int) :
    ACalls (E0 X) 135 [trA t, .ptr 0 0] [some (.cells [.int .i64 k] 3)] (fun r H' => r = .bool (t.fits k) ∧ H' = [some (.cells [.int .i64 k] 3)]) := by
  refine acalls_of Proofs.Tryd.func135 rfl Proofs.Tryd.ntmps135 (by kernel_rfl) rfl ?_
  intro hH hargs
  clear hH hargs
  obtain ⟨tk, tn⟩ := t
  refine awp_seq ?_
  refine awp_region rfl ?_
  repeat' (first | (refine Qa rfl ?_; try ((first | refine Q1 ?_ | refine QK rfl ?_); refine QX rfl rfl ?_)) | refine Qh ?_)
  refine awp_seq ?_
  refine awp_region rfl ?_
  repeat' (first | (refine Qa rfl ?_; try ((first | refine Q0 ?_ | refine Q1 ?_ | refine Q2 rfl ?_ | refine Q3 rfl rfl rfl ?_ | refine Q4 rfl rfl rfl rfl rfl ?_ | refine Q5 rfl ?_); refine QX rfl rfl ?_)) | refine Qh ?_ | refine Qi rfl ?_ | refine Qy rfl rfl (fun _ => ?_) (fun _ => ?_))
  · rename_i h1 h2
    have h1' : tk = k := h1
    have h2' : 0 < tn := h2
    refine awp_pre (imp_cut (sl' := [(3, .bool (decide (tn < 64)))]) (hok_int k) rfl (by simp) (fa_cons ⟨rfl, trivial⟩ fa_nil)) ?_
    refine awp_ret ?_
    exact ⟨_, rfl, by simp [Tr.fits, h1', h2', one, get_cons], rfl⟩
  · rename_i h1 h2
    have h2' : ¬ 0 < tn := h2
    refine awp_pre (imp_cut (sl' := [(3, .bool false)]) (hok_int k) rfl (by simp) (fa_cons ⟨rfl, trivial⟩ fa_nil)) ?_
    refine awp_ret ?_
    exact ⟨_, rfl, by simp [Tr.fits, h2', one, get_cons], rfl⟩
  · rename_i h1
    have h1' : ¬ tk = k := h1
    refine awp_pre (imp_cut (sl' := [(3, .bool false)]) (hok_int k) rfl (by simp) (fa_cons ⟨rfl, trivial⟩ fa_nil)) ?_
    refine awp_ret ?_
    exact ⟨_, rfl, by simp [Tr.fits, h1', one, get_cons], rfl⟩
end Go.Abs
namespace Go.Abs
def firstFit (k : Int) : List Tr → Nat → Option (Nat × Tr)
  | [], _ => none
  | t :: ts, i => if t.fits k = true then some (i, t) else firstFit k ts (i + 1)
def fitIx (ts : List Tr) (k : Int) : Int := match firstFit k ts 0 with
  | some (i, _) => i
  | none => -1
theorem tr_get {l : List Tr} {k : Nat} {p : Tr} (h : l[k]? = some p) : (l.map trA)[k]? = some (trA p) := by simp [h]
theorem ids_tr (l : List Tr) : IdsLtL 0 (l.map trA) := ids_map (fun _ => by simp [trA, IdsLt, IdsLtL]) l
structure IxI (ts : List Tr) (k : Int) where
  i : Nat
  hi : i ≤ ts.length
  h : firstFit k (ts.drop i) i = firstFit k ts 0
def ixS (ts : List Tr) (k : Int) (j : IxI ts k) : St :=
  ⟨[(0, .sl 2 (ts.map trA)), (1, .clo (.func 135) [] [.ptr 0 0]), (7, .int .i64 ts.length), (8, .int .i64 j.i)], [some (.cells [.int .i64 k] 3)]⟩

attribute [local irreducible] AStep aops AWp Nx awM
set_option maxHeartbeats 0 in
theorem index_c (X : Nat → Prop) (ts : List Tr) (k : Int) (hl : ts.length ≤ 1073741824) :
    ACalls (E0 X) 134 [.sl 2 (ts.map trA), .clo (.func 135) [] [.ptr 0 0]] [some (.cells [.int .i64 k] 3)]
      (fun r H' => r = .int .i64 (fitIx ts k) ∧ H' = [some (.cells [.int .i64 k] 3)]) := by
  refine acalls_of Proofs.Tryd.func134 rfl Proofs.Tryd.ntmps134 (by kernel_rfl) rfl ?_
  intro hH hargs
  clear hH hargs
  refine awp_seq ?_
  refine awp_region rfl ?_
  repeat' (first | (refine Qa rfl ?_; try ((refine Q1 ?_); refine QX rfl rfl ?_)) | refine Qh ?_)
  refine awp_seq ?_
  refine awp_seq ?_
  refine awp_region rfl ?_
  repeat' (first | (refine Qa rfl ?_; try ((first | refine Q0 ?_ | refine Q7 rfl rfl rfl ?_); refine QX rfl rfl ?_)) | refine Qh ?_)
  refine awp_block ?_
  refine awp_loop (ixS ts k) (fun j => ts.length - j.i) ⟨0, Nat.zero_le _, rfl⟩ ?_ ?_
  · refine imp_cut (hok_int k) rfl (by simp) (fa_cons ⟨rfl, ids_mono (Nat.zero_le _) (ids_tr ts)⟩ (fa_cons ⟨rfl, ?_⟩ (fa_cons ⟨?_, trivial⟩ (fa_cons ⟨rfl, trivial⟩ fa_nil))))
    · simp [IdsLt, IdsLtL]
    · simp [get_cons]
  · rintro ⟨i, hi, h⟩
    show AWp (E0 X) _ _ _ _ ⟨[(0, .sl 2 (ts.map trA)), (1, .clo (.func 135) [] [.ptr 0 0]), (7, .int .i64 ts.length), (8, .int .i64 i)], [some (.cells [.int .i64 k] 3)]⟩
    refine awp_seq ?_
    refine awp_region rfl ?_
    repeat' (first | (refine Qa rfl ?_; try ((refine Q2 rfl ?_); refine QX rfl rfl ?_)) | refine Qh ?_)
    refine awp_seq ?_
    refine awp_cond_dec rfl (fun hlt => ?_) (fun hge => ?_)
    · have hil : i < ts.length := by simpa using hlt
      obtain ⟨q, hq⟩ : ∃ q, ts[i]? = some q := ⟨_, List.getElem?_eq_getElem hil⟩
      have hdrop : ts.drop i = q :: ts.drop (i + 1) := by
        obtain ⟨h1, rfl⟩ := List.getElem?_eq_some_iff.1 hq
        exact List.drop_eq_getElem_cons h1
      rw [hdrop] at h
      refine awp_skip ?_
      refine awp_seq ?_
      refine awp_block ?_
      refine awp_seq ?_
      refine awp_region rfl ?_
      repeat' (first | (refine Qa rfl ?_; try ((first | refine Q0 ?_ | refine Q1 ?_); refine QX rfl rfl ?_)) | refine Qh ?_)
      refine awp_seq ?_
      refine awp_region rfl ?_
      repeat' (refine Qa rfl ?_; try ((refine Q0 ?_); refine QX rfl rfl ?_))
      refine st_index_sl (k := 2) (es := ts.map trA) (e := 100) (kk := .i64) (n := i) (j := i) (y := trA q) rfl rfl rfl ?_ ?_ rfl rfl (tr_get hq) rfl rfl ?_
      · rfl
      · rfl
      refine nx rfl rfl ?_
      repeat' (refine Qa rfl ?_; try ((refine Q3 rfl rfl rfl ?_); refine QX rfl rfl ?_))
      refine st_call (fun _ => rfl) rfl ?_
      refine ACalls.mono (keptfn_c X q k) ?_
      rintro r H' ⟨rfl, rfl⟩
      refine nx rfl rfl ?_
      repeat' (refine Qh ?_)
      refine awp_cond rfl (fun hf => ?_) (fun hf => ?_)
      · refine awp_seq ?_
        refine awp_region rfl ?_
        repeat' (first | (refine Qa rfl ?_; try ((first | refine Q0 ?_ | refine Q1 ?_); refine QX rfl rfl ?_)) | refine Qh ?_)
        refine awp_ret ?_
        refine ⟨_, rfl, ?_, rfl⟩
        have : fitIx ts k = (i : Int) := by unfold fitIx; rw [← h]; simp [firstFit, hf]
        rw [this]; rfl
      · refine awp_skip ?_
        refine awp_region rfl ?_
        repeat' (first | (refine Qa rfl ?_; try ((first | refine Q0 ?_ | refine Q2 rfl ?_); refine QX rfl rfl ?_)) | refine Qh ?_)
        refine then_i ?_
        refine ⟨⟨i + 1, by omega, by rw [← h]; simp [firstFit, hf]⟩, by show _ - (i + 1) < _ - i; omega, ?_⟩
        refine imp_cut (hok_int k) rfl (by simp) (fa_cons ⟨rfl, ids_mono (Nat.zero_le _) (ids_tr ts)⟩ (fa_cons ⟨rfl, ?_⟩ (fa_cons ⟨rfl, trivial⟩ (fa_cons ⟨?_, trivial⟩ fa_nil))))
        · simp [IdsLt, IdsLtL]
        · show AV.int .i64 (IntKind.i64.wrap (i + 1)) = _
          rw [wrap_in (by omega) (by omega)]; rfl
    · have hil : i = ts.length := by
        have : ¬ (i < ts.length) := fun hh => hge (by exact_mod_cast hh)
        omega
      refine awp_exit ?_
      refine then_x ?_
      refine then_x ?_
      refine blk_x ?_
      refine awp_seq ?_
      refine awp_region rfl ?_
      repeat' (first | (refine Qa rfl ?_; try ((refine Q1 ?_); refine QX rfl rfl ?_)) | refine Qh ?_)
      refine awp_ret ?_
      refine ⟨_, rfl, ?_, rfl⟩
      have : fitIx ts k = -1 := by unfold fitIx; rw [← h, hil]; simp [firstFit]
      rw [this]; rfl
end Go.Abs
namespace Go.Abs
def boA (b : Bool) : AV := .bool b
theorem bo_get {l : List Bool} {k : Nat} {p : Bool} (h : l[k]? = some p) : (l.map boA)[k]? = some (boA p) := by simp [h]
def keptN (k : Nat) (keep : List Bool) (ts : List Tr) : Int := match firstFit k ts 0 with
  | some (_, t) => t.n
  | none => if keep[k]? = some true then 64 else 0
theorem firstFit_some {k : Int} : ∀ {ts : List Tr} {b i : Nat} {t : Tr}, firstFit k ts b = some (i, t) → b ≤ i ∧ ts[i - b]? = some t
  | [], _, _, _, h => by simp [firstFit] at h
  | q :: ts, b, i, t, h => by
    simp only [firstFit] at h
    split at h
    · simp only [Option.some.injEq, Prod.mk.injEq] at h
      obtain ⟨rfl, rfl⟩ := h
      simp
    · obtain ⟨h1, h2⟩ := firstFit_some h
      refine ⟨by omega, ?_⟩
      have : i - b = (i - (b + 1)) + 1 := by omega
      rw [this]; simpa using h2

attribute [local irreducible] AStep aops AWp Nx awM
set_option maxHeartbeats 0 in
theorem kept_c (X : Nat → Prop) (k : Nat) (keep : List Bool) (ts : List Tr) (hl : ts.length ≤ 1073741824) :
    ACalls (E0 X) 97 [.int .i64 (k : Int), .sl 1 (keep.map boA), .sl 2 (ts.map trA)] [] (fun r H' => r = .int .i64 (keptN k keep ts) ∧ H' = []) := by
  refine acalls_of Proofs.Tryd.func97 rfl Proofs.Tryd.ntmps97 (by kernel_rfl) rfl ?_
  intro hH hargs
  clear hH hargs
  refine awp_seq ?_
  refine awp_region rfl ?_
  repeat' (first | (refine Qa rfl ?_; try ((first | refine Q1 ?_ | refine QK rfl ?_); refine QX rfl rfl ?_)) | refine Qh ?_)
  refine awp_seq ?_
  refine awp_region rfl ?_
  repeat' (refine Qa rfl ?_; try ((refine Q0 ?_); refine QX rfl rfl ?_))
  refine st_makeFunc ?_
  refine nx0 ?_
  repeat' (refine Qa rfl ?_)
  refine st_call (fun _ => rfl) rfl ?_
  refine ACalls.mono (index_c X ts k hl) ?_
  rintro r H' ⟨rfl, rfl⟩
  refine nx rfl rfl ?_
  repeat' (first | (refine Qa rfl ?_; try ((refine Q1 ?_); refine QX rfl rfl ?_)) | refine Qh ?_)
  refine awp_seq ?_
  refine awp_block ?_
  refine awp_seq ?_
  refine awp_region rfl ?_
  repeat' (first | (refine Qa rfl ?_; try ((first | refine Q0 ?_ | refine Q1 ?_ | refine Q2 rfl ?_); refine QX rfl rfl ?_)) | refine Qh ?_)
  cases hf : firstFit (k : Int) ts 0 with
  | some p =>
    obtain ⟨i, q⟩ := p
    have hix : fitIx ts k = (i : Int) := by unfold fitIx; rw [hf]
    obtain ⟨_, hq⟩ := firstFit_some hf
    rw [Nat.sub_zero] at hq
    refine awp_cond_dec rfl (fun _ => ?_) (fun hn => absurd (show (0 : Int) ≤ fitIx ts k by rw [hix]; omega) hn)
    refine awp_seq ?_
    refine awp_region rfl ?_
    repeat' (refine Qa rfl ?_; try ((refine Q0 ?_); refine QX rfl rfl ?_))
    refine st_index_sl (k := 2) (es := ts.map trA) (e := 100) (kk := .i64) (n := fitIx ts k) (j := i) (y := trA q) rfl rfl rfl ?_ ?_ rfl rfl (tr_get hq) hix rfl ?_
    · rfl
    · rfl
    refine nx rfl rfl ?_
    repeat' (first | (refine Qa rfl ?_; try ((first | refine Q1 ?_ | refine Q3 rfl rfl rfl ?_ | refine Q4 rfl rfl rfl rfl rfl ?_); refine QX rfl rfl ?_)) | refine Qh ?_)
    refine awp_pre (imp_tidy0 (sl' := [(6, .int .i64 q.n)]) (fa_cons (ren_val2 rfl trivial) fa_nil)) ?_
    refine awp_ret ?_
    have : keptN k keep ts = q.n := by unfold keptN; rw [hf]
    exact ⟨_, rfl, by rw [this]; rfl, rfl⟩
  | none =>
    have hix : fitIx ts k = -1 := by unfold fitIx; rw [hf]
    have hkn : keptN k keep ts = if keep[k]? = some true then 64 else 0 := by unfold keptN; rw [hf]
    rw [hkn]
    refine awp_cond_dec rfl (fun hn => absurd (show (0 : Int) ≤ fitIx ts k from hn) (by rw [hix]; omega)) (fun _ => ?_)
    refine awp_seq ?_
    refine awp_region rfl ?_
    rcases Nat.lt_or_ge k keep.length with hk | hk
    · obtain ⟨b, hb⟩ : ∃ b, keep[k]? = some b := ⟨_, List.getElem?_eq_getElem hk⟩
      repeat' (first | (refine Qa rfl ?_; try ((first | refine Q0 ?_ | refine Q1 ?_ | refine Q2 rfl ?_ | refine Q3 rfl rfl rfl ?_ | refine Q5 rfl ?_ | refine Q7 rfl rfl rfl ?_); refine QX rfl rfl ?_)) | refine Qh ?_ | refine Qi rfl ?_ | refine Qy rfl rfl (fun _ => ?_) (fun _ => ?_))
      · refine st_index_sl (k := 1) (es := keep.map boA) (e := 4) (kk := .i64) (n := k) (j := k) (y := boA b) rfl rfl rfl ?_ ?_ rfl rfl (bo_get hb) rfl rfl ?_
        · rfl
        · rfl
        refine nx rfl rfl ?_
        repeat' (first | (refine Qa rfl ?_; try ((first | refine Q1 ?_ | refine Q3 rfl rfl rfl ?_ | refine Q5 rfl ?_); refine QX rfl rfl ?_)) | refine Qh ?_)
        refine awp_cond rfl (fun ht => ?_) (fun ht => ?_)
        · refine awp_seq ?_
          refine awp_region rfl ?_
          repeat' (first | (refine Qa rfl ?_; try ((refine Q1 ?_); refine QX rfl rfl ?_)) | refine Qh ?_)
          refine awp_pre (imp_tidy0 (sl' := [(6, .int .i64 64)]) (fa_cons (ren_val2 rfl trivial) fa_nil)) ?_
          refine awp_ret ?_
          exact ⟨_, rfl, by rw [hb, ht]; rfl, rfl⟩
        · refine awp_skip ?_
          refine awp_seq ?_
          refine awp_region rfl ?_
          repeat' (first | (refine Qa rfl ?_; try ((refine Q1 ?_); refine QX rfl rfl ?_)) | refine Qh ?_)
          refine awp_pre (imp_tidy0 (sl' := [(6, .int .i64 0)]) (fa_cons (ren_val2 rfl trivial) fa_nil)) ?_
          refine awp_ret ?_
          exact ⟨_, rfl, by rw [hb, ht]; rfl, rfl⟩
      · rename_i hh
        exact absurd (by simp; omega) hh
    · skip
      repeat' (first | (refine Qa rfl ?_; try ((first | refine Q0 ?_ | refine Q1 ?_ | refine Q2 rfl ?_ | refine Q3 rfl rfl rfl ?_ | refine Q5 rfl ?_ | refine Q7 rfl rfl rfl ?_); refine QX rfl rfl ?_)) | refine Qh ?_ | refine Qi rfl ?_ | refine Qy rfl rfl (fun _ => ?_) (fun _ => ?_))
      · rename_i hh
        have h9 : (k : Int) < ((keep.map boA).length : Int) := hh
        simp at h9
        omega
      · refine awp_cond_false rfl ?_
        refine awp_skip ?_
        refine awp_seq ?_
        refine awp_region rfl ?_
        repeat' (first | (refine Qa rfl ?_; try ((refine Q1 ?_); refine QX rfl rfl ?_)) | refine Qh ?_)
        refine awp_pre (imp_tidy0 (sl' := [(6, .int .i64 0)]) (fa_cons (ren_val2 rfl trivial) fa_nil)) ?_
        refine awp_ret ?_
        exact ⟨_, rfl, by rw [List.getElem?_eq_none hk]; rfl, rfl⟩
end Go.Abs
namespace Go.Abs
@[simp] theorem boA_ids {n : Nat} {b : Bool} : IdsLt n (boA b) := trivial
@[simp] theorem trA_ids {n : Nat} {b : Tr} : IdsLt n (trA b) := ⟨trivial, trivial, trivial⟩
@[simp] theorem rnA_bo {g : Nat → Nat} {b : Bool} : rnA g (boA b) = boA b := rfl
theorem firstFit_fits {k : Int} : ∀ {ts : List Tr} {b i : Nat} {t : Tr}, firstFit k ts b = some (i, t) → t.fits k = true
  | [], _, _, _, h => by simp [firstFit] at h
  | q :: ts, b, i, t, h => by
    simp only [firstFit] at h
    split at h
    · rename_i hf
      simp only [Option.some.injEq, Prod.mk.injEq] at h
      obtain ⟨rfl, rfl⟩ := h
      exact hf
    · exact firstFit_fits h
theorem kept_bound (k : Nat) (keep : List Bool) (ts : List Tr) : 0 ≤ keptN k keep ts ∧ keptN k keep ts ≤ 64 := by
  unfold keptN
  split
  · rename_i i t h
    have := firstFit_fits h
    simp [Tr.fits] at this
    omega
  · split <;> omega
end Go.Abs
namespace Go.Abs
theorem load_at (X : Nat → Prop) (H : Hp) (x : AV) (img : List UInt8) (hl : img.length ≤ 1073741824) (hx : srcA (E0 X) H 1 x = some (img.map u8A)) :
    ACalls (E0 X) 30 [x] H (fun r H' => (LoadOk img.length ∧ r = .ptr H.length 0 ∧ H' = H ++ devS H.length (Dv.fresh img)) ∨ (¬ LoadOk img.length ∧ r = .nilp ∧ H' = H)) := by
  refine (acalls_make (E := E0 X) (P := fun r H' => (LoadOk img.length ∧ r = .ptr 0 0 ∧ H' = devH (Dv.fresh img)) ∨ (¬ LoadOk img.length ∧ r = .nilp ∧ H' = [])) (fun X => load_sl X img hl)
    (fun r h' h => by
      rcases h with ⟨_, rfl, rfl⟩ | ⟨_, rfl, rfl⟩
      · exact ⟨rfl, noFz_dev _⟩
      · exact ⟨rfl, rfl⟩) (Bor.sl (u8_ids _) hx .nil)).mono ?_
  rintro r H' ⟨r0, h', h, rfl, rfl⟩
  rcases h with ⟨h1, rfl, rfl⟩ | ⟨h1, rfl, rfl⟩
  · exact .inl ⟨h1, by simp [rnA], by rw [mapH_dev]⟩
  · exact .inr ⟨h1, rfl, by simp [mapH]⟩
end Go.Abs
namespace Go.Abs
attribute [local irreducible] AStep aops AWp Nx awM
end Go.Abs
namespace Go.Abs
structure Rd where
  old : List UInt8
  new : List UInt8
  dirt : List Bool
  has : Bool
  left : Int
  gone : Bool
  wrote : Int
def rdH (r : Rd) : Hp :=
  [some (.cells [.own 1 0 r.old.length, .own 2 0 r.new.length, .own 3 0 r.dirt.length, .bool r.has, .int .i64 r.left, .bool r.gone, .int .i64 r.wrote] 129),
   some (.arr (r.old.map u8A) 5), some (.arr (r.new.map u8A) 5), some (.arr (r.dirt.map boA) 4)]
def Rd.dies (r : Rd) : Bool := r.has && decide (r.left = 0)
def Rd.burn (r : Rd) : Rd := if r.dies = true then { r with gone := true } else { r with left := IntKind.i64.wrap (r.left - 1) }
def Rd.fuse (r : Rd) (n : Int) : Rd := { r with has := decide (0 ≤ n), left := max n 0 }
attribute [local irreducible] AStep aops AWp Nx awM
def padB (b : List UInt8) : List UInt8 := b ++ List.replicate (64 - b.length) 0
def fillN (new b : List UInt8) (i k : Nat) : List UInt8 := new.take (i * 64) ++ (padB b).take k ++ new.drop (i * 64 + k)
def Rd.put (r : Rd) (i : Nat) (b : List UInt8) : Rd := { r with new := fillN r.new b i 64, dirt := r.dirt.set i true, wrote := IntKind.i64.wrap (r.wrote + 1) }
def Rd.check (r : Rd) (i : Int) : Int := if r.gone = true then 1 else if i < 0 ∨ (r.dirt.length : Int) ≤ i then 2 else 0
def Rd.write (r : Rd) (i : Int) (b : List UInt8) : Int × Rd :=
  if r.check i ≠ 0 then (r.check i, r) else if 64 < b.length then (3, r) else if r.dies = true then (1, r.burn) else (0, r.burn.put i.toNat b)
end Go.Abs
namespace Go.Abs
attribute [local irreducible] AStep aops AWp Nx awM
def Rd.barrier (r : Rd) : Int × Rd :=
  if r.gone = true then (1, r) else if r.dies = true then (1, r.burn) else (0, { r.burn with old := r.burn.new, dirt := List.replicate r.burn.dirt.length false })
end Go.Abs
namespace Go.Abs
def Rd.fresh (img : List UInt8) : Rd := { old := img, new := img, dirt := List.replicate (img.length / 64) false, has := false, left := 0, gone := false, wrote := 0 }
attribute [local irreducible] AStep aops AWp Nx awM
/-- The reference's device s places further on. -/
def rdS (s : Nat) (r : Rd) : Hp :=
  [some (.cells [.own (1 + s) 0 r.old.length, .own (2 + s) 0 r.new.length, .own (3 + s) 0 r.dirt.length, .bool r.has, .int .i64 r.left, .bool r.gone, .int .i64 r.wrote] 129),
   some (.arr (r.old.map u8A) 5), some (.arr (r.new.map u8A) 5), some (.arr (r.dirt.map boA) 4)]
end Go.Abs
namespace Go.Abs
section
variable {X : Nat → Prop} {f : FuncId} {rest : List AV} {r0 : AV}
end
end Go.Abs
namespace Go.Abs
def rpC (l : La) (slot seq : Int) (n t id : Nat) : AO := .cells [.int .i64 l.id, .int .i64 l.ver, .int .i64 l.rs, .int .i64 l.regs, .int .i64 slot, .int .i64 seq, .own id 0 n, .int .i64 (t : Int)] 176
def rpH (l : La) (slot seq : Int) (s : List UInt8) (t : Nat) : Hp := [some (rpC l slot seq s.length t 1), some (arB s)]
def rpM (l : La) (slot seq : Int) (s : List UInt8) (t : Nat) : Hp := [some (rpC l slot seq s.length t 2), none, some (arB s)]
attribute [local irreducible] AStep aops AWp Nx awM
end Go.Abs
namespace Go.Abs
/-- A living device of the reference, of L bytes. -/
structure Lr (L : Nat) (r : Rd) : Prop where
  new : r.new.length = L
  old : r.old.length = L
  dirt : r.dirt.length * 64 = L
  has : r.has = false
  gone : r.gone = false
  le : L ≤ 67108864
def Rd.wr (r : Rd) (k : Nat) (b : List UInt8) : Rd := r.burn.put k b
def Rd.bar (r : Rd) : Rd := { r.burn with old := r.burn.new, dirt := List.replicate r.burn.dirt.length false }
theorem Lr.dies {L : Nat} {r : Rd} (h : Lr L r) : r.dies = false := by simp [Rd.dies, h.has]
theorem Lr.burn {L : Nat} {r : Rd} (h : Lr L r) : r.burn = { r with left := IntKind.i64.wrap (r.left - 1) } := by simp [Rd.burn, h.dies]
theorem fill_putI {img b : List UInt8} {k : Nat} (hb : b.length = 64) : fillN img b k 64 = putI img k b := by
  have e : padB b = b := by simp [padB, hb]
  unfold fillN putI
  rw [e, List.take_of_length_le (show b.length ≤ 64 by omega)]
theorem Lr.write {L k : Nat} {r : Rd} (h : Lr L r) (hk : k * 64 + 64 ≤ L) {b : List UInt8} (hb : b.length = 64) : r.write (k : Int) b = (0, r.wr k b) := by
  have hc : r.check (k : Int) = 0 := by
    unfold Rd.check
    rw [h.gone, if_neg (by simp), if_neg (by have := h.dirt; omega)]
  unfold Rd.write
  rw [hc, if_neg (by simp), if_neg (by omega), h.dies, if_neg (by simp), Int.toNat_natCast]
  rfl
theorem Lr.wr_new {L k : Nat} {r : Rd} (h : Lr L r) {b : List UInt8} (hb : b.length = 64) : (r.wr k b).new = putI r.new k b := by
  unfold Rd.wr
  rw [h.burn]
  exact fill_putI hb
theorem Lr.wr {L k : Nat} {r : Rd} (h : Lr L r) (hk : k * 64 + 64 ≤ L) {b : List UInt8} (hb : b.length = 64) : Lr L (r.wr k b) where
  new := by rw [h.wr_new hb, putI_len (by rw [h.new]; exact hk) hb]; exact h.new
  old := by unfold Rd.wr; rw [h.burn]; exact h.old
  dirt := by
    unfold Rd.wr
    rw [h.burn]
    show (r.dirt.set k true).length * 64 = L
    rw [List.length_set]; exact h.dirt
  has := by unfold Rd.wr; rw [h.burn]; exact h.has
  gone := by unfold Rd.wr; rw [h.burn]; exact h.gone
  le := h.le
theorem Lr.barrier {L : Nat} {r : Rd} (h : Lr L r) : r.barrier = (0, r.bar) := by
  unfold Rd.barrier
  rw [h.gone, if_neg (by simp), h.dies, if_neg (by simp)]
  rfl
theorem Lr.bar_new {L : Nat} {r : Rd} (h : Lr L r) : r.bar.new = r.new := by
  unfold Rd.bar
  rw [h.burn]
theorem Lr.bar {L : Nat} {r : Rd} (h : Lr L r) : Lr L r.bar where
  new := by rw [h.bar_new]; exact h.new
  old := by unfold Rd.bar; rw [h.burn]; exact h.new
  dirt := by
    unfold Rd.bar
    rw [h.burn]
    show (List.replicate r.dirt.length false).length * 64 = L
    rw [List.length_replicate]; exact h.dirt
  has := by unfold Rd.bar; rw [h.burn]; exact h.has
  gone := by unfold Rd.bar; rw [h.burn]; exact h.gone
  le := h.le
def rdfN (r : Rd) (F seq : Nat) (s : List UInt8) (t : Nat) : Nat → Rd
  | 0 => r
  | i + 1 => (rdfN r F seq s t i).wr (F + 1 + t + i) (frN F seq s (t + i))
theorem Lr.df {L : Nat} {r : Rd} (hv : Lr L r) {F seq : Nat} {s : List UInt8} {t : Nat} : ∀ n, (F + 1 + t + n) * 64 ≤ L → Lr L (rdfN r F seq s t n)
  | 0, _ => hv
  | n + 1, h => (Lr.df hv n (by omega)).wr (by omega) frN_len
theorem RgI.rstep {L : Nat} {h : Hd} {F seq t : Nat} {s : List UInt8} {r : Rd} (n : Nat) (hl : Lr L (rdfN r F seq s t n)) (ih : RgI (rdfN r F seq s t n).new L h F seq s (t + n)) (h1 : (t + n + 1) * 59 ≤ s.length) (h2 : (F + 1 + (t + n)) * 64 + 64 ≤ L) : RgI (rdfN r F seq s t (n + 1)).new L h F seq s (t + (n + 1)) := by
  have e : rdfN r F seq s t (n + 1) = (rdfN r F seq s t n).wr (F + 1 + t + n) (frN F seq s (t + n)) := rfl
  rw [e, hl.wr_new (frN_len (F := F) (seq := seq) (s := s) (t := t + n)), show F + 1 + t + n = F + 1 + (t + n) by omega]
  exact RgI.frame ih h1 h2
theorem RgI.rframes {L : Nat} {h : Hd} {F seq t : Nat} {s : List UInt8} {r : Rd} (hr : Lr L r) (g : RgI r.new L h F seq s t) (n : Nat) (ht : (t + n) * 59 ≤ s.length) (hF : (F + 1 + t + n) * 64 ≤ L) : RgI (rdfN r F seq s t n).new L h F seq s (t + n) := by
  have key : ∀ k, k ≤ n → RgI (rdfN r F seq s t k).new L h F seq s (t + k) := by
    intro k
    induction k with
    | zero => exact fun _ => g
    | succ k ih =>
      intro hk
      have a1 := ih (Nat.le_of_succ_le hk)
      have a2 := hr.df (F := F) (seq := seq) (s := s) (t := t) k (by omega)
      clear ih
      exact RgI.rstep k a2 a1 (by omega) (by omega)
  exact key n (Nat.le_refl _)
def rrC (h : Hd) : AO := .cells [.ptr 0 0, .int .i64 h.ver, .int .i64 h.slot, .int .i64 h.lay, .int .i64 h.seq, .int .i64 h.tail, .int .i64 h.now, .ptr 5 0] 178
def rrH (r : Rd) (h : Hd) (l : La) (s : List UInt8) (t : Nat) : Hp := rdH r ++ [some (rrC h), some (rpC l h.slot h.seq s.length t 6), some (arB s)]
def rrM (r : Rd) (h : Hd) (l : La) (s : List UInt8) (t : Nat) : Hp := rdH r ++ [some (rrC h), some (rpC l h.slot h.seq s.length t 7), none, some (arB s)]
attribute [local irreducible] AStep aops AWp Nx awM
end Go.Abs
namespace Go.Abs
attribute [local irreducible] AStep aops AWp Nx awM
end Go.Abs
namespace Go.Abs
theorem bytes_of {X : Nat → Prop} {x : AV} (h : hasC (E0 X) 2 38 [x]) : ∃ l : List UInt8, x = .sl 1 (l.map u8A) ∧ l.length ≤ maxLen := by
  have h1 : ∃ es, [x] = [.sl 1 es] ∧ es.length ≤ maxLen ∧ ∀ y ∈ es, ∃ ys, y = elA false ys ∧ ∃ n, ys = [.int .u8 n] ∧ IntKind.u8.min ≤ n ∧ n ≤ IntKind.u8.max := h
  obtain ⟨es, h2, hlen, h3⟩ := h1
  simp only [List.cons.injEq, and_true] at h2
  subst h2
  obtain ⟨l, rfl⟩ := list_of (f := u8A) fun y hy => by
    obtain ⟨ys, rfl, n, rfl, h4, h5⟩ := h3 y hy
    have h4' : 0 ≤ n := h4
    have h5' : n ≤ 255 := h5
    refine ⟨UInt8.ofNat n.toNat, ?_⟩
    simp only [elA, u8A, List.headD_cons, Bool.false_eq_true, if_false]
    congr 1
    rw [UInt8.toNat_ofNat']
    omega
  exact ⟨l, rfl, by simpa using hlen⟩
section
open Go.RowKit Go.ChangeShapes Go.WideShapes
theorem arg_avS {E : Env} {H : Type} {enc : TypeId × Value → H} {W : World} (hok : E.Ok) (hX : ∀ b, ¬ E.X b) {f : Nat} {t : TypeId} {fs : List (Nat × TypeId)} {v : Value} {d : DataW H} {ps : List MemPlace} {base : Nat} (hp : plainT E f t = true) (hk : (E.ti t).k = .struct fs)
    (hval : Value.okWide E.P W .any base t v) (h : DataW.Trod enc E.P W 0 (fun _ => true) true t v d ps) : ∃ xs, E.Rel [] W (.agg xs) v ∧ hasC E f t xs := by
  obtain ⟨fuel, hf⟩ := h
  obtain ⟨xs, h1, h2, h3⟩ := trod_av hok hX f fuel t _ _ hp hf
  have ht : Nat.blt t E.n = true := by
    cases f with
    | zero => simp [plainT] at hp
    | succ f =>
      simp only [plainT, Bool.and_eq_true] at hp
      exact hp.1
  obtain ⟨F, hF, -⟩ := tk_struct hok ht hk
  obtain ⟨cs, rfl, -⟩ := okWide_struct hF hval
  exact ⟨xs, ⟨cs.toList, by simp, h1⟩, h2⟩
end
end Go.Abs
namespace Go.Abs
structure Sp where
  pos : Int
  add : UInt8
def spA (p : Sp) : AV := .agg [.int .i64 p.pos, u8A p.add]
@[simp] theorem spA_ids {n : Nat} {p : Sp} : IdsLt n (spA p) := ⟨trivial, trivial, trivial⟩
structure Cs where
  ver : Int
  log : Int
  rs : List Rec
  pads : List Bool
  sp : List Sp
  more : Int
def csL (c : Cs) : List AV := [.int .i64 c.ver, .int .i64 c.log, .sl 4 (c.rs.map recA), .sl 1 (c.pads.map boA), .sl 2 (c.sp.map spA), .int .i64 c.more]
structure CsOk (c : Cs) : Prop where
  rs : c.rs.length ≤ maxLen
  pads : c.pads.length ≤ maxLen
  sp : c.sp.length ≤ maxLen
  key : ∀ r ∈ c.rs, r.key.length ≤ maxLen ∧ r.val.length ≤ maxLen
  more : -9223372036854775808 ≤ c.more ∧ c.more ≤ 9223372036854775807
theorem byte_of2 {X : Nat → Prop} {ys : List AV} (h : hasC (E0 X) 1 5 ys) : ∃ b, ys = [u8A b] := by
  have h1 : ∃ n, ys = [.int .u8 n] ∧ IntKind.u8.min ≤ n ∧ n ≤ IntKind.u8.max := h
  obtain ⟨n, rfl, h4, h5⟩ := h1
  have h4' : 0 ≤ n := h4
  have h5' : n ≤ 255 := h5
  refine ⟨UInt8.ofNat n.toNat, ?_⟩
  simp only [u8A]
  congr 2
  rw [UInt8.toNat_ofNat']
  omega
theorem bools_of {X : Nat → Prop} {x : AV} (h : hasC (E0 X) 2 62 [x]) : ∃ l : List Bool, x = .sl 1 (l.map boA) ∧ l.length ≤ maxLen := by
  have h1 : ∃ es, [x] = [.sl 1 es] ∧ es.length ≤ maxLen ∧ ∀ y ∈ es, ∃ ys, y = elA false ys ∧ ∃ b, ys = [.bool b] := h
  obtain ⟨es, h2, hlen, h3⟩ := h1
  simp only [List.cons.injEq, and_true] at h2
  subst h2
  obtain ⟨l, rfl⟩ := list_of (f := boA) fun y hy => by
    obtain ⟨ys, rfl, b, rfl⟩ := h3 y hy
    exact ⟨b, rfl⟩
  exact ⟨l, rfl, by simpa using hlen⟩
theorem rec_of {X : Nat → Prop} {ys : List AV} (h : hasC (E0 X) 3 83 ys) : ∃ r : Rec, ys = recL r ∧ r.key.length ≤ maxLen ∧ r.val.length ≤ maxLen := by
  have h1 : hasF (E0 X) (hasC (E0 X) 2) [(0, 3), (1, 38), (2, 38), (3, 3)] ys := h
  obtain ⟨_, _, rfl, ⟨k, rfl, _⟩, a, _, rfl, ha, b, _, rfl, hb, _, _, rfl, ⟨e, rfl, _⟩, rfl⟩ := h1
  have ha1 : ∃ es, a = [.sl 1 es] ∧ es.length ≤ maxLen ∧ ∀ y ∈ es, ∃ ys, y = elA false ys ∧ hasC (E0 X) 1 5 ys := ha
  have hb1 : ∃ es, b = [.sl 1 es] ∧ es.length ≤ maxLen ∧ ∀ y ∈ es, ∃ ys, y = elA false ys ∧ hasC (E0 X) 1 5 ys := hb
  obtain ⟨_, rfl, _⟩ := ha1
  obtain ⟨_, rfl, _⟩ := hb1
  obtain ⟨l, h2, h3⟩ := bytes_of ha
  obtain ⟨l2, h4, h5⟩ := bytes_of hb
  rw [h2, h4]
  exact ⟨⟨k, l, l2, e⟩, rfl, h3, h5⟩
theorem list_of2 {α : Type} {f : α → AV} {P : α → Prop} : ∀ {es : List AV}, (∀ y ∈ es, ∃ a, y = f a ∧ P a) → ∃ l : List α, es = l.map f ∧ ∀ a ∈ l, P a
  | [], _ => ⟨[], rfl, fun a h => by simp at h⟩
  | y :: es, h => by
    obtain ⟨a, rfl, ha⟩ := h y (by simp)
    obtain ⟨l, rfl, hl⟩ := list_of2 fun z hz => h z (List.mem_cons_of_mem _ hz)
    exact ⟨a :: l, rfl, fun b hb => by
      rcases List.mem_cons.1 hb with rfl | hb
      · exact ha
      · exact hl b hb⟩
theorem recs_of {X : Nat → Prop} {ys : List AV} (h : hasC (E0 X) 4 61 ys) : ∃ l : List Rec, ys = [.sl 4 (l.map recA)] ∧ l.length ≤ maxLen ∧ ∀ r ∈ l, r.key.length ≤ maxLen ∧ r.val.length ≤ maxLen := by
  have h1 : ∃ es, ys = [.sl 4 es] ∧ es.length ≤ maxLen ∧ ∀ y ∈ es, ∃ ys, y = elA true ys ∧ hasC (E0 X) 3 83 ys := h
  obtain ⟨es, rfl, hlen, h3⟩ := h1
  obtain ⟨l, rfl, h4⟩ := list_of2 (f := recA) (P := fun r => r.key.length ≤ maxLen ∧ r.val.length ≤ maxLen) fun y hy => by
    obtain ⟨ys, rfl, h5⟩ := h3 y hy
    obtain ⟨r, rfl, h6⟩ := rec_of h5
    exact ⟨r, rfl, h6⟩
  exact ⟨l, rfl, by simpa using hlen, h4⟩
theorem spoils_of {X : Nat → Prop} {ys : List AV} (h : hasC (E0 X) 4 63 ys) : ∃ l : List Sp, ys = [.sl 2 (l.map spA)] ∧ l.length ≤ maxLen := by
  have h1 : ∃ es, ys = [.sl 2 es] ∧ es.length ≤ maxLen ∧ ∀ y ∈ es, ∃ ys, y = elA true ys ∧ hasF (E0 X) (hasC (E0 X) 2) [(0, 3), (1, 5)] ys := h
  obtain ⟨es, rfl, hlen, h3⟩ := h1
  obtain ⟨l, rfl⟩ := list_of (f := spA) fun y hy => by
    obtain ⟨ys, rfl, _, _, rfl, ⟨n, rfl, _⟩, b, _, rfl, hb, rfl⟩ := h3 y hy
    obtain ⟨c, rfl⟩ := byte_of2 (X := X) hb
    exact ⟨⟨n, c⟩, rfl⟩
  exact ⟨l, rfl, by simpa using hlen⟩
theorem case_of {X : Nat → Prop} {xs : List AV} (h : hasC (E0 X) 5 65 xs) : ∃ c : Cs, xs = csL c ∧ CsOk c := by
  have h1 : hasF (E0 X) (hasC (E0 X) 4) [(0, 3), (1, 3), (2, 61), (3, 62), (4, 63), (5, 3)] xs := h
  obtain ⟨_, _, rfl, ⟨v, rfl, _⟩, _, _, rfl, ⟨l, rfl, _⟩, a, _, rfl, ha, b, _, rfl, hb, c, _, rfl, hc, _, _, rfl, ⟨m, rfl, hm1, hm2⟩, rfl⟩ := h1
  obtain ⟨rs, rfl, h2, h3⟩ := recs_of ha
  obtain ⟨sp, rfl, h4⟩ := spoils_of hc
  have hb1 : ∃ es, b = [.sl 1 es] ∧ es.length ≤ maxLen ∧ ∀ y ∈ es, ∃ ys, y = elA false ys ∧ hasC (E0 X) 3 4 ys := hb
  obtain ⟨_, rfl, _⟩ := hb1
  obtain ⟨pads, h5, h6⟩ := bools_of hb
  rw [h5]
  exact ⟨⟨v, l, rs, pads, sp, m⟩, rfl, h2, h6, h4, h3, hm1, hm2⟩
end Go.Abs

