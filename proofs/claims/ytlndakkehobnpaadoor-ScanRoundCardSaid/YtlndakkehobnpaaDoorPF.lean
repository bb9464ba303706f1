/- The closure of kept. Joined texts, each with what its own name promises; no condition beyond those stated. -/
import Derived.Test.YtlndakkehobnpaaDoorME
import Derived.Test.YtlndakkehobnpaaDoorMJ
import Derived.Test.YtlndakkehobnpaaDoorMB
import Derived.Test.YtlndakkehobnpaaDoorPD
import Derived.Test.YtlndakkehobnpaaDoorPE
import Derived.Test.YtlndakkehobnpaaDoorPB
namespace Go.Abs
structure Tr where
  k : Int
  n : Int
def trA (t : Tr) : AV := .agg [.int .i64 t.k, .int .i64 t.n]
def Tr.fits (t : Tr) (k : Int) : Bool := decide (t.k = k) && (decide (0 < t.n) && decide (t.n < 64))

attribute [local irreducible] AStep aops AWp Nx awM
end Go.Abs
namespace Go.Abs
def firstFit (k : Int) : List Tr → Nat → Option (Nat × Tr)
  | [], _ => none
  | t :: ts, i => if t.fits k = true then some (i, t) else firstFit k ts (i + 1)
def fitIx (ts : List Tr) (k : Int) : Int := match firstFit k ts 0 with
  | some (i, _) => i
  | none => -1
structure IxI (ts : List Tr) (k : Int) where
  i : Nat
  hi : i ≤ ts.length
  h : firstFit k (ts.drop i) i = firstFit k ts 0
def ixS (ts : List Tr) (k : Int) (j : IxI ts k) : St :=
  ⟨[(0, .sl 2 (ts.map trA)), (1, .clo (.func 135) [] [.ptr 0 0]), (7, .int .i64 ts.length), (8, .int .i64 j.i)], [some (.cells [.int .i64 k] 3)]⟩

attribute [local irreducible] AStep aops AWp Nx awM
end Go.Abs
namespace Go.Abs
def boA (b : Bool) : AV := .bool b
def keptN (k : Nat) (keep : List Bool) (ts : List Tr) : Int := match firstFit k ts 0 with
  | some (_, t) => t.n
  | none => if keep[k]? = some true then 64 else 0
attribute [local irreducible] AStep aops AWp Nx awM
end Go.Abs
namespace Go.Abs
@[simp] theorem boA_ids {n : Nat} {b : Bool} : IdsLt n (boA b) := trivial
@[simp] theorem trA_ids {n : Nat} {b : Tr} : IdsLt n (trA b) := ⟨trivial, trivial, trivial⟩
@[simp] theorem rnA_bo {g : Nat → Nat} {b : Bool} : rnA g (boA b) = boA b := rfl
end Go.Abs
namespace Go.Abs
theorem load_at (X : Nat → Prop) (H : Hp) (x : AV) (img : List UInt8) (hl : img.length ≤ 1073741824) (hx : srcA (E0 X) H 1 x = some (img.map u8A)) :
    ACalls (E0 X) 30 [x] H (fun r H' => (LoadOk img.length ∧ r = .ptr H.length 0 ∧ H' = H ++ devS H.length (Dv.fresh img)) ∨ (¬ LoadOk img.length ∧ r = .nilp ∧ H' = H)) := by
  refine (acalls_make (E := E0 X) (P := fun r H' => (LoadOk img.length ∧ r = .ptr 0 0 ∧ H' = devH (Dv.fresh img)) ∨ (¬ LoadOk img.length ∧ r = .nilp ∧ H' = [])) (fun X => load_sl X img hl)
    (fun r h' h => by
      rcases h with ⟨_, rfl, rfl⟩ | ⟨_, rfl, rfl⟩
      · exact ⟨rfl, noFz_dev _⟩
      · exact ⟨rfl, rfl⟩) (Bor.sl (u8_ids _) hx .nil)).mono ?_
  rintro r H' ⟨r0, h', h, rfl, rfl⟩
  rcases h with ⟨h1, rfl, rfl⟩ | ⟨h1, rfl, rfl⟩
  · exact .inl ⟨h1, by simp [rnA], by rw [mapH_dev]⟩
  · exact .inr ⟨h1, rfl, by simp [mapH]⟩
end Go.Abs
namespace Go.Abs
theorem w64 {k : Nat} (h : k ≤ 16777216) : IntKind.i64.wrap ((k : Int) * 64) = ((k * 64 : Nat) : Int) := wrap_eq (by simp) (by omega) (by omega)
theorem w64a {k : Nat} {j : Int} {m : Nat} (h : k ≤ 16777216) (h2 : (k * 64 : Nat) + j = (m : Int)) (h3 : m ≤ 1073741824) : IntKind.i64.wrap (IntKind.i64.wrap ((k : Int) * 64) + j) = (m : Int) := by
  rw [w64 h]; exact wrap_eq h2 (by omega) (by omega)
attribute [local irreducible] AStep aops AWp Nx awM
end Go.Abs
namespace Go.Abs
structure Rd where
  old : List UInt8
  new : List UInt8
  dirt : List Bool
  has : Bool
  left : Int
  gone : Bool
  wrote : Int
def rdH (r : Rd) : Hp :=
  [some (.cells [.own 1 0 r.old.length, .own 2 0 r.new.length, .own 3 0 r.dirt.length, .bool r.has, .int .i64 r.left, .bool r.gone, .int .i64 r.wrote] 129),
   some (.arr (r.old.map u8A) 5), some (.arr (r.new.map u8A) 5), some (.arr (r.dirt.map boA) 4)]
theorem hok_rfd (r : Rd) : HOk 4 (rdH r) := fun j o ho => by
  match j, ho with
  | 0, ho => cases ho; exact ⟨by simp [IdsLt], by simp [IdsLt], by simp [IdsLt], trivial, trivial, trivial, trivial, trivial⟩
  | 1, ho => cases ho; exact idsL_map fun _ => u8A_ids
  | 2, ho => cases ho; exact idsL_map fun _ => u8A_ids
  | 3, ho => cases ho; exact idsL_map fun _ => boA_ids
def Rd.dies (r : Rd) : Bool := r.has && decide (r.left = 0)
def Rd.burn (r : Rd) : Rd := if r.dies = true then { r with gone := true } else { r with left := IntKind.i64.wrap (r.left - 1) }
def Rd.fuse (r : Rd) (n : Int) : Rd := { r with has := decide (0 ≤ n), left := max n 0 }
attribute [local irreducible] AStep aops AWp Nx awM
set_option maxHeartbeats 0 in
theorem rburn_c (X : Nat → Prop) (r : Rd) : ACalls (E0 X) 147 [.ptr 0 0] (rdH r) (fun v H' => v = .bool (!r.dies) ∧ H' = rdH r.burn) := by
  refine acalls_of Proofs.Tryd.func147 rfl Proofs.Tryd.ntmps147 (by kernel_rfl) rfl ?_
  intro hH hargs
  clear hH hargs
  repeat' (first | ((refine Qa rfl ?_); (first | refine Q0 ?_ | refine Q1 ?_ | refine Q2 rfl ?_ | refine Q3 rfl rfl rfl ?_ | refine Q4 rfl rfl rfl rfl rfl ?_ | refine Q5 rfl ?_ | refine Q6 rfl ?_); (refine QX rfl rfl ?_)) | (refine Qb rfl ?_; try (refine QS rfl rfl rfl rfl rfl rfl rfl ?_; (refine QX rfl rfl ?_))) | refine Qh ?_ | refine Qi rfl ?_ | refine Ql ?_ | refine Qm ?_ | refine Qo rfl ?_ | refine Qq rfl ?_ | refine Qs ?_ | ((fail_if_success refine QV rfl ?_); refine Qz rfl rfl (fun _ => ?_) (fun _ => ?_)))
  · rename_i h1
    refine awp_cond_dec rfl (fun h2 => ?_) (fun h2 => ?_)
    · have h2' : r.left = 0 := h2
      repeat' (first | ((refine Qa rfl ?_); (first | refine Q0 ?_ | refine Q1 ?_ | refine Q4 rfl rfl rfl rfl rfl ?_ | refine Q6 rfl ?_); (refine QX rfl rfl ?_)) | (refine Qb rfl ?_; try (refine QS rfl rfl rfl rfl rfl rfl rfl ?_; (refine QX rfl rfl ?_))) | refine Qh ?_ | refine Ql ?_ | refine Qo rfl ?_ | refine Qs ?_)
      refine awp_ret ?_
      refine ⟨_, rfl, ?_, ?_⟩
      · simp [Rd.dies, h1, h2'] <;> rfl
      · simp [Rd.dies, Rd.burn, h1, h2'] <;> rfl
    · have h2' : ¬ r.left = 0 := h2
      repeat' (first | ((refine Qa rfl ?_); (first | refine Q0 ?_ | refine Q1 ?_ | refine Q2 rfl ?_ | refine Q3 rfl rfl rfl ?_ | refine Q4 rfl rfl rfl rfl rfl ?_ | refine Q6 rfl ?_); (refine QX rfl rfl ?_)) | (refine Qb rfl ?_; try (refine QS rfl rfl rfl rfl rfl rfl rfl ?_; (refine QX rfl rfl ?_))) | refine Qh ?_ | refine Ql ?_ | refine Qm ?_ | refine Qo rfl ?_ | refine Qs ?_)
      refine awp_ret ?_
      refine ⟨_, rfl, ?_, ?_⟩
      · simp [Rd.dies, h1, h2'] <;> rfl
      · simp [Rd.dies, Rd.burn, h1, h2'] <;> rfl
  · rename_i h1
    refine awp_ret ?_
    refine ⟨_, rfl, ?_, ?_⟩
    · simp [Rd.dies, h1] <;> rfl
    · simp [Rd.dies, Rd.burn, h1] <;> rfl
def padB (b : List UInt8) : List UInt8 := b ++ List.replicate (64 - b.length) 0
def fillN (new b : List UInt8) (i k : Nat) : List UInt8 := new.take (i * 64) ++ (padB b).take k ++ new.drop (i * 64 + k)
def Rd.put (r : Rd) (i : Nat) (b : List UInt8) : Rd := { r with new := fillN r.new b i 64, dirt := r.dirt.set i true, wrote := IntKind.i64.wrap (r.wrote + 1) }
def Rd.check (r : Rd) (i : Int) : Int := if r.gone = true then 1 else if i < 0 ∨ (r.dirt.length : Int) ≤ i then 2 else 0
def Rd.write (r : Rd) (i : Int) (b : List UInt8) : Int × Rd :=
  if r.check i ≠ 0 then (r.check i, r) else if 64 < b.length then (3, r) else if r.dies = true then (1, r.burn) else (0, r.burn.put i.toNat b)
theorem pad_len {b : List UInt8} (h : b.length ≤ 64) : (padB b).length = 64 := by simp [padB]; omega
theorem fill_len {new b : List UInt8} {i k : Nat} (hb : b.length ≤ 64) (h : i * 64 + 64 ≤ new.length) (hk : k ≤ 64) : (fillN new b i k).length = new.length := by
  simp [fillN, pad_len hb]; omega
theorem fill_set {new b : List UInt8} {i k : Nat} {x : UInt8} (hb : b.length ≤ 64) (h : i * 64 + 64 ≤ new.length) (hk : k < 64) (hx : (padB b)[k]? = some x) : (fillN new b i k).set (i * 64 + k) x = fillN new b i (k + 1) := by
  have hl := pad_len hb
  have h1 : (new.take (i * 64) ++ (padB b).take k).length = i * 64 + k := by simp [hl]; omega
  have h2 : new.drop (i * 64 + k) = new[i * 64 + k]'(by omega) :: new.drop (i * 64 + k + 1) := List.drop_eq_getElem_cons (by omega)
  have h3 : (padB b).take (k + 1) = (padB b).take k ++ [x] := by
    rw [List.take_add_one, hx]; rfl
  unfold fillN
  rw [h2, List.set_append_right _ _ (by rw [h1]; exact Nat.le_refl _), h1, Nat.sub_self, List.set_cons_zero, h3]
  simp [Nat.add_assoc]
theorem pad_get {b : List UInt8} {k : Nat} (hk : k < 64) : (padB b)[k]? = some ((b[k]?).getD 0) := by
  unfold padB
  rcases Nat.lt_or_ge k b.length with h | h
  · rw [List.getElem?_append_left h, List.getElem?_eq_getElem h]; rfl
  · rw [List.getElem?_append_right h, List.getElem?_eq_none h, List.getElem?_replicate, if_pos (by omega)]; rfl
theorem rd_out {r : Rd} {i : Int} (h : r.check i = 0) : r.gone = false ∧ ∃ k : Nat, i = k ∧ k < r.dirt.length := by
  unfold Rd.check at h
  split at h
  · omega
  · rename_i h1
    split at h
    · omega
    · rename_i h2
      exact ⟨by simpa using h1, i.toNat, by omega, by omega⟩
theorem rdH_new {r : Rd} {l : List UInt8} (h : l.length = r.new.length) :
    rdH { r with new := l } = [some (.cells [.own 1 0 r.old.length, .own 2 0 r.new.length, .own 3 0 r.dirt.length, .bool r.has, .int .i64 r.left, .bool r.gone, .int .i64 r.wrote] 129),
   some (.arr (r.old.map u8A) 5), some (.arr (l.map u8A) 5), some (.arr (r.dirt.map boA) 4)] := by rw [← h]; rfl
set_option maxHeartbeats 0 in
theorem rwrite_c (X : Nat → Prop) (r : Rd) (i : Int) (b : List UInt8) (hb : b.length ≤ 1073741824) (hd : r.dirt.length * 64 = r.new.length) (hl : r.new.length ≤ 1073741824) :
    ACalls (E0 X) 118 [.ptr 0 0, .int .i64 i, .sl 1 (b.map u8A)] (rdH r) (fun v H' => v = .int .i64 (r.write i b).1 ∧ H' = rdH (r.write i b).2) := by
  refine acalls_of Proofs.Tryd.func118 rfl Proofs.Tryd.ntmps118 (by kernel_rfl) rfl ?_
  intro hH hargs
  clear hH hargs
  repeat' (first | ((refine Qa rfl ?_); (first | refine Q0 ?_ | refine Q1 ?_ | refine Q3 rfl rfl rfl ?_ | refine Q4 rfl rfl rfl rfl rfl ?_ | refine Q6 rfl ?_); (refine QX rfl rfl ?_)) | refine Qh ?_ | refine Ql ?_ | refine Qn ?_ | refine Qo rfl ?_ | refine Qs ?_)
  refine awp_cond rfl (fun hg => ?_) (fun hg => ?_)
  · have e : r.write i b = (1, r) := by simp [Rd.write, Rd.check, hg]
    repeat' (first | ((refine Qa rfl ?_); (refine Q1 ?_); (refine QX rfl rfl ?_)) | refine Qh ?_ | refine Ql ?_ | refine Qo rfl ?_ | refine Qs ?_)
    refine awp_ret ?_
    refine ⟨_, rfl, ?_, ?_⟩
    · rw [e]; rfl
    · rw [e]; rfl
  refine awp_join (s1 := ⟨[(0, .ptr 0 0), (1, .int .i64 i), (2, .sl 1 (b.map u8A)), (14, .bool (decide (i < 0 ∨ (r.dirt.length : Int) ≤ i)))], rdH r⟩) ?_ ?_
  · skip
    repeat' (first | ((refine Qa rfl ?_); (first | refine Q0 ?_ | refine Q1 ?_ | refine Q2 rfl ?_ | refine Q3 rfl rfl rfl ?_ | refine Q4 rfl rfl rfl rfl rfl ?_ | refine Q5 rfl ?_ | refine Q6 rfl ?_ | refine Q7 rfl rfl rfl ?_); (refine QX rfl rfl ?_)) | refine Qh ?_ | refine Qi rfl ?_ | refine Qo rfl ?_ | ((fail_if_success refine QV rfl ?_); refine Qy rfl rfl (fun _ => ?_) (fun _ => ?_)))
    · rename_i h1
      refine ⟨rfl, imp_cutk 4 (Nat.le_refl _) (hok_rfd r) rfl (by simp) ?_⟩
      repeat' (first | exact fa_nil | refine fa_cons ⟨?_, ?_⟩ ?_)
      all_goals (try first | exact rfl | exact trivial | (simp [IdsLt]; done) | (simp [get_cons]; done) | (simp [get_cons, *]; done) | (refine congrArg (AV.int .i64) (wrap_eq ?_ ?_ ?_) <;> (first | omega | (simp; omega))))
    · rename_i h1
      refine ⟨rfl, imp_cutk 4 (Nat.le_refl _) (hok_rfd r) rfl (by simp) ?_⟩
      repeat' (first | exact fa_nil | refine fa_cons ⟨?_, ?_⟩ ?_)
      all_goals (try first | exact rfl | exact trivial | (simp [IdsLt]; done) | (simp [get_cons]; done) | (simp [get_cons, *]; done) | (refine congrArg (AV.int .i64) (wrap_eq ?_ ?_ ?_) <;> (first | omega | (simp; omega))))
  refine awp_cond_dec rfl (fun h1 => ?_) (fun h1 => ?_)
  · have e : r.write i b = (2, r) := by simp [Rd.write, Rd.check, hg, h1]
    repeat' (first | ((refine Qa rfl ?_); (refine Q1 ?_); (refine QX rfl rfl ?_)) | refine Qh ?_ | refine Ql ?_ | refine Qo rfl ?_ | refine Qs ?_)
    refine awp_ret ?_
    refine ⟨_, rfl, ?_, ?_⟩
    · rw [e]; rfl
    · rw [e]; rfl
  have hc : r.check i = 0 := by simp only [Rd.check, hg]; simp [h1]
  obtain ⟨-, k, rfl, hk⟩ := rd_out hc
  repeat' (first | ((refine Qa rfl ?_); (first | refine Q0 ?_ | refine Q1 ?_ | refine Q2 rfl ?_ | refine Q7 rfl rfl rfl ?_); (refine QX rfl rfl ?_)) | refine Qh ?_ | refine Ql ?_ | refine Qo rfl ?_ | refine Qs ?_)
  refine awp_cond_dec rfl (fun h2 => ?_) (fun h2 => ?_)
  · have h2' : 64 < b.length := by simpa using Int.ofNat_lt.1 h2
    have e : r.write k b = (3, r) := by simp [Rd.write, hc, h2']
    repeat' (first | ((refine Qa rfl ?_); (refine Q1 ?_); (refine QX rfl rfl ?_)) | refine Qh ?_ | refine Ql ?_ | refine Qo rfl ?_ | refine Qs ?_)
    refine awp_ret ?_
    refine ⟨_, rfl, ?_, ?_⟩
    · rw [e]; rfl
    · rw [e]; rfl
  have hb2 : b.length ≤ 64 := by simp at h2; omega
  repeat' (first | ((refine Qa rfl ?_); (refine Q0 ?_); (refine QX rfl rfl ?_)) | refine Qa rfl ?_ | refine Ql ?_ | refine Qo rfl ?_)
  refine st_call (fun _ => rfl) rfl ?_
  refine ACalls.mono (rburn_c X r) ?_
  rintro r H' ⟨rfl, rfl⟩
  first | refine nx rfl rfl ?_ | refine nx0 ?_
  repeat' (first | ((refine Qa rfl ?_); (first | refine Q1 ?_ | refine QD rfl ?_); (refine QX rfl rfl ?_)) | refine Qh ?_ | refine Qs ?_)
  cases hdie : r.dies with
  | true =>
    have e : r.write k b = (1, r.burn) := by simp [Rd.write, hc, hdie]; omega
    repeat' (first | ((refine Qa rfl ?_); (refine Q1 ?_); (refine QX rfl rfl ?_)) | refine Qh ?_ | refine Ql ?_ | refine Qo rfl ?_ | refine Qp rfl ?_ | refine Qs ?_)
    refine awp_ret ?_
    refine ⟨_, rfl, ?_, ?_⟩
    · rw [e]; rfl
    · rw [e]; rfl
  | false =>
    have e : r.write k b = (0, r.burn.put k b) := by simp [Rd.write, hc, hdie]; omega
    rw [e]
    have hd1 : r.burn.dirt.length * 64 = r.burn.new.length := by unfold Rd.burn; rw [hdie]; exact hd
    have hl1 : r.burn.new.length ≤ 1073741824 := by unfold Rd.burn; rw [hdie]; exact hl
    have hk1 : k < r.burn.dirt.length := by unfold Rd.burn; rw [hdie]; exact hk
    generalize r.burn = r1 at *
    repeat' (first | ((refine Qa rfl ?_); (refine Q1 ?_); (refine QX rfl rfl ?_)) | refine Qh ?_ | refine Ql ?_ | refine Qm ?_ | refine Qn ?_ | refine Qo rfl ?_ | refine Qq rfl ?_)
    refine awp_loop2 (fun j : Nat => ⟨[(0, .ptr 0 0), (1, .int .i64 (k : Int)), (2, .sl 1 (b.map u8A)), (7, .int .i64 j)], rdH { r1 with new := fillN r1.new b k j }⟩) (fun j => j ≤ 64) (fun j => 64 - j) 0 (Nat.zero_le _) ?_ ?_
    · have h0 : fillN r1.new b k 0 = r1.new := by simp [fillN]
      rw [h0]
      refine imp_cutk 4 (Nat.le_refl _) (hok_rfd r1) rfl (by simp) ?_
      repeat' (first | exact fa_nil | refine fa_cons ⟨?_, ?_⟩ ?_)
      all_goals (try first | exact rfl | exact trivial | (simp [IdsLt]; done) | (simp [get_cons]; done) | (simp [get_cons, *]; done) | (refine congrArg (AV.int .i64) (wrap_eq ?_ ?_ ?_) <;> (first | omega | (simp; omega))))
    · rintro j hj
      rw [rdH_new (fill_len hb2 (by omega) hj)]
      repeat' (first | ((refine Qa rfl ?_); (first | refine Q0 ?_ | refine Q2 rfl ?_); (refine QX rfl rfl ?_)) | refine Qh ?_ | refine Ql ?_ | refine Qo rfl ?_ | refine Qs ?_)
      refine awp_cond_dec rfl (fun h3 => ?_) (fun h3 => ?_)
      · have hj3 : j < 64 := by omega
        repeat' (first | ((refine Qa rfl ?_); (first | refine Q0 ?_ | refine Q1 ?_ | refine Q2 rfl ?_ | refine Q7 rfl rfl rfl ?_); (refine QX rfl rfl ?_)) | refine Qh ?_ | refine Ql ?_ | refine Qm ?_ | refine Qn ?_ | refine Qo rfl ?_ | refine Qs ?_)
        refine awp_mid (s1 := ⟨[(0, .ptr 0 0), (1, .int .i64 (k : Int)), (2, .sl 1 (b.map u8A)), (7, .int .i64 j), (8, u8A ((b[j]?).getD 0))], rdH { r1 with new := fillN r1.new b k j }⟩) ?_ ?_
        · refine awp_cond_dec rfl (fun h4 => ?_) (fun h4 => ?_)
          · have h5 : j < b.length := by simpa using Int.ofNat_lt.1 h4
            obtain ⟨q, hq⟩ : ∃ q, b[j]? = some q := ⟨_, List.getElem?_eq_getElem h5⟩
            repeat' (first | ((refine Qa rfl ?_); (refine Q0 ?_); (refine QX rfl rfl ?_)) | refine Qa rfl ?_ | refine Qo rfl ?_)
            refine st_ixm hq rfl rfl rfl rfl rfl rfl rfl (by first | rfl | omega) rfl ?_
            first | refine nx rfl rfl ?_ | refine nx0 ?_
            repeat' (first | ((refine Qa rfl ?_); (first | refine Q1 ?_ | refine Q3 rfl rfl rfl ?_); (refine QX rfl rfl ?_)) | refine Qh ?_)
            rw [hq, rdH_new (fill_len hb2 (by omega) hj)]
            refine ⟨rfl, imp_cutk 4 (Nat.le_refl _) ?_ rfl (by simp) ?_⟩
            · rw [← rdH_new (fill_len hb2 (by omega) hj)]; exact hok_rfd _
            repeat' (first | exact fa_nil | refine fa_cons ⟨?_, ?_⟩ ?_)
            all_goals (try first | exact rfl | exact trivial | (simp [IdsLt]; done) | (simp [get_cons]; done) | (simp [get_cons, *]; done) | (refine congrArg (AV.int .i64) (wrap_eq ?_ ?_ ?_) <;> (first | omega | (simp; omega))))
          · have h5 : b[j]? = none := List.getElem?_eq_none (by simp at h4; omega)
            repeat' (refine Qm ?_)
            rw [h5, rdH_new (fill_len hb2 (by omega) hj)]
            refine ⟨rfl, imp_cutk 4 (Nat.le_refl _) ?_ rfl (by simp) ?_⟩
            · rw [← rdH_new (fill_len hb2 (by omega) hj)]; exact hok_rfd _
            repeat' (first | exact fa_nil | refine fa_cons ⟨?_, ?_⟩ ?_)
            all_goals (try first | exact rfl | exact trivial | (simp [IdsLt]; done) | (simp [get_cons]; done) | (simp [get_cons, *]; done) | (refine congrArg (AV.int .i64) (wrap_eq ?_ ?_ ?_) <;> (first | omega | (simp; omega))))
        rw [rdH_new (fill_len hb2 (by omega) hj)]
        repeat' (first | ((refine Qa rfl ?_); (first | refine Q0 ?_ | refine Q2 rfl ?_ | refine Q3 rfl rfl rfl ?_ | refine Q4 rfl rfl rfl rfl rfl ?_ | refine Q6 rfl ?_); (refine QX rfl rfl ?_)) | refine Qa rfl ?_ | refine Qo rfl ?_)
        refine st_index_own (j := k * 64 + j) rfl rfl rfl rfl rfl rfl rfl rfl (w64a (by omega) (by simp) (by omega)) (by omega) ?_
        first | refine nx rfl rfl ?_ | refine nx0 ?_
        repeat' (refine Qb rfl ?_)
        have hlen := fill_len hb2 (show k * 64 + 64 ≤ r1.new.length by omega) hj
        obtain ⟨y, hy⟩ : ∃ y, (fillN r1.new b k j)[k * 64 + j]? = some y := ⟨_, List.getElem?_eq_getElem (by omega)⟩
        refine st_store_pe rfl rfl rfl rfl (y := u8A y) (by rw [Nat.zero_add]; simp [hy]) rfl rfl rfl rfl rfl ?_
        first | refine nx rfl rfl ?_ | refine nx0 ?_
        repeat' (first | ((refine Qa rfl ?_); (first | refine Q0 ?_ | refine Q1 ?_ | refine Q2 rfl ?_); (refine QX rfl rfl ?_)) | refine Qh ?_ | refine Qo rfl ?_ | refine Qs ?_)
        refine ⟨j + 1, by omega, by omega, imp_cutk 4 (Nat.le_refl _) (hok_rfd _) ?_ (by simp) ?_⟩
        · rw [rdH_new (fill_len hb2 (by omega) (by omega)), ← fill_set hb2 (by omega) hj3 (pad_get hj3), List.map_set]
          simp only [Nat.zero_add]
          rfl
        repeat' (first | exact fa_nil | refine fa_cons ⟨?_, ?_⟩ ?_)
        all_goals (try first | exact rfl | exact trivial | (simp [IdsLt]; done) | (simp [get_cons]; done) | (simp [get_cons, *]; done) | (refine congrArg (AV.int .i64) (wrap_eq ?_ ?_ ?_) <;> (first | omega | (simp; omega))))
      · have hj3 : j = 64 := by omega
        subst hj3
        repeat' (first | ((refine Qa rfl ?_); (first | refine Q0 ?_ | refine Q3 rfl rfl rfl ?_ | refine Q4 rfl rfl rfl rfl rfl ?_ | refine Q6 rfl ?_); (refine QX rfl rfl ?_)) | refine Qa rfl ?_ | refine Ql ?_ | refine Qo rfl ?_ | refine Qr ?_)
        refine st_index_own (j := k) rfl rfl rfl rfl rfl rfl rfl rfl rfl hk1 ?_
        first | refine nx rfl rfl ?_ | refine nx0 ?_
        repeat' (refine Qb rfl ?_)
        obtain ⟨y, hy⟩ : ∃ y, r1.dirt[k]? = some y := ⟨_, List.getElem?_eq_getElem hk1⟩
        refine st_store_pe rfl rfl rfl rfl (y := boA y) (by rw [Nat.zero_add]; simp [hy]) rfl rfl rfl rfl rfl ?_
        first | refine nx rfl rfl ?_ | refine nx0 ?_
        repeat' (first | ((refine Qa rfl ?_); (first | refine Q0 ?_ | refine Q1 ?_ | refine Q2 rfl ?_ | refine Q3 rfl rfl rfl ?_ | refine Q4 rfl rfl rfl rfl rfl ?_ | refine Q6 rfl ?_); (refine QX rfl rfl ?_)) | (refine Qb rfl ?_; try (refine QS rfl rfl rfl rfl rfl rfl rfl ?_; (refine QX rfl rfl ?_))) | refine Qh ?_ | refine Ql ?_ | refine Qo rfl ?_ | refine Qs ?_)
        refine awp_ret ?_
        refine ⟨_, rfl, ?_, ?_⟩
        · rfl
        · show _ = rdH (r1.put k b)
          have e1 : rdH (r1.put k b) = rdH { r1 with new := fillN r1.new b k 64, dirt := r1.dirt.set k true, wrote := IntKind.i64.wrap (r1.wrote + 1) } := rfl
          rw [e1]
          simp only [rdH, List.map_set, Nat.zero_add, List.length_set, fill_len hb2 (show k * 64 + 64 ≤ r1.new.length by omega) (Nat.le_refl 64)]
          rfl
end Go.Abs
namespace Go.Abs
attribute [local irreducible] AStep aops AWp Nx awM
def Rd.barrier (r : Rd) : Int × Rd :=
  if r.gone = true then (1, r) else if r.dies = true then (1, r.burn) else (0, { r.burn with old := r.burn.new, dirt := List.replicate r.burn.dirt.length false })
theorem clr_set {d : List Bool} {k : Nat} (hk : k < d.length) : (List.replicate k false ++ d.drop k).set k false = List.replicate (k + 1) false ++ d.drop (k + 1) := by
  rw [List.set_append_right _ _ (by simp), List.length_replicate, Nat.sub_self, List.drop_eq_getElem_cons hk, List.set_cons_zero, List.replicate_succ']
  simp
theorem spl_all {es src : List AV} (h : es.length = src.length) : spl es 0 (src.take (min es.length src.length)) = src := by
  rw [h, Nat.min_self, List.take_length]
  simp [spl, ← h]
set_option maxHeartbeats 0 in
theorem rbarrier_c (X : Nat → Prop) (r : Rd) (hl : r.dirt.length ≤ 1073741824) (ho : r.old.length = r.new.length) : ACalls (E0 X) 120 [.ptr 0 0] (rdH r) (fun v H' => v = .int .i64 r.barrier.1 ∧ H' = rdH r.barrier.2) := by
  refine acalls_of Proofs.Tryd.func120 rfl Proofs.Tryd.ntmps120 (by kernel_rfl) rfl ?_
  intro hH hargs
  clear hH hargs
  repeat' (first | ((refine Qa rfl ?_); (first | refine Q0 ?_ | refine Q1 ?_ | refine Q3 rfl rfl rfl ?_ | refine Q4 rfl rfl rfl rfl rfl ?_ | refine Q6 rfl ?_); (refine QX rfl rfl ?_)) | refine Qh ?_ | refine Ql ?_ | refine Qo rfl ?_ | refine Qs ?_)
  refine awp_cond rfl (fun hg => ?_) (fun hg => ?_)
  · have e : r.barrier = (1, r) := by simp [Rd.barrier, hg]
    rw [e]
    repeat' (first | ((refine Qa rfl ?_); (refine Q1 ?_); (refine QX rfl rfl ?_)) | refine Qh ?_ | refine Ql ?_ | refine Qo rfl ?_ | refine Qs ?_)
    refine awp_ret ?_
    refine ⟨_, rfl, ?_, ?_⟩
    · rfl
    · rfl
  repeat' (first | ((refine Qa rfl ?_); (refine Q0 ?_); (refine QX rfl rfl ?_)) | refine Qa rfl ?_ | refine Ql ?_ | refine Qm ?_ | refine Qo rfl ?_)
  refine st_call (fun _ => rfl) rfl ?_
  refine ACalls.mono (rburn_c X r) ?_
  rintro r H' ⟨rfl, rfl⟩
  first | refine nx rfl rfl ?_ | refine nx0 ?_
  repeat' (first | ((refine Qa rfl ?_); (refine QD rfl ?_); (refine QX rfl rfl ?_)) | refine Qh ?_ | refine Qs ?_)
  cases hdie : r.dies with
  | true =>
    have e : r.barrier = (1, r.burn) := by simp [Rd.barrier, hg, hdie]
    rw [e]
    repeat' (first | ((refine Qa rfl ?_); (refine Q1 ?_); (refine QX rfl rfl ?_)) | refine Qh ?_ | refine Ql ?_ | refine Qo rfl ?_ | refine Qp rfl ?_ | refine Qs ?_)
    refine awp_ret ?_
    refine ⟨_, rfl, ?_, ?_⟩
    · rfl
    · rfl
  | false =>
    have e : r.barrier = (0, { r.burn with old := r.burn.new, dirt := List.replicate r.burn.dirt.length false }) := by simp [Rd.barrier, hg, hdie]
    rw [e]
    have ho1 : r.burn.old.length = r.burn.new.length := by unfold Rd.burn; rw [hdie]; exact ho
    have hl1 : r.burn.dirt.length ≤ 1073741824 := by unfold Rd.burn; rw [hdie]; exact hl
    generalize r.burn = r1 at *
    repeat' (first | ((first | refine Qc rfl rfl rfl ?_ | apply Qd rfl rfl rfl rfl | (apply Qe rfl rfl rfl rfl; intro H9)); (first | refine Q0 ?_ | refine Q3 rfl rfl rfl ?_ | refine Q4 rfl rfl rfl rfl rfl ?_ | refine Q6 rfl ?_); (first | exact QX rfl rfl ⟨rfl, rfl⟩ | exact QY rfl ⟨rfl, rfl⟩)) | refine Ql ?_ | refine Qm ?_ | refine Qq rfl ?_ | refine Qx rfl (by kernel_rfl) ?_)
    refine ds_ef rfl rfl rfl ?_
    refine st_copy rfl rfl rfl rfl rfl rfl rfl rfl (by simp) (src_ownm rfl rfl rfl (by simp)) ?_ ?_
    · simp only [List.drop_zero, List.take_length]; exact oneEs_u8 _
    simp only [List.drop_zero, List.take_length]
    have e3 : spl (r1.old.map u8A) 0 ((r1.new.map u8A).take (min r1.old.length (r1.new.map u8A).length)) = r1.new.map u8A := by
      have := spl_all (es := r1.old.map u8A) (src := r1.new.map u8A) (by simpa using ho1)
      simpa using this
    rw [e3]
    first | refine nx rfl rfl ?_ | refine nx0 ?_
    repeat' (first | ((refine Qa rfl ?_); (first | refine Q0 ?_ | refine Q3 rfl rfl rfl ?_ | refine Q4 rfl rfl rfl rfl rfl ?_ | refine Q6 rfl ?_ | refine Q7 rfl rfl rfl ?_); (refine QX rfl rfl ?_)) | refine Qh ?_ | refine Qk ?_ | refine Ql ?_ | refine Qn ?_ | refine Qo rfl ?_)
    refine awp_loop2 (fun j : Nat => ⟨[(0, .ptr 0 0), (24, .int .i64 r1.dirt.length), (25, .int .i64 j)], rdH { r1 with old := r1.new, dirt := List.replicate j false ++ r1.dirt.drop j }⟩) (fun j => j ≤ r1.dirt.length) (fun j => r1.dirt.length - j) 0 (Nat.zero_le _) ?_ ?_
    · refine imp_cutk 4 (Nat.le_refl _) (hok_rfd _) ?_ (by simp) ?_
      · simp only [rdH, ho1]; rfl
      repeat' (first | exact fa_nil | refine fa_cons ⟨?_, ?_⟩ ?_)
      all_goals (try first | exact rfl | exact trivial | (simp [IdsLt]; done) | (simp [get_cons]; done) | (simp [get_cons, *]; done) | (refine congrArg (AV.int .i64) (wrap_eq ?_ ?_ ?_) <;> (first | omega | (simp; omega))))
    · rintro j hj
      have hlen : (List.replicate j false ++ r1.dirt.drop j).length = r1.dirt.length := by simp; omega
      repeat' (first | ((refine Qa rfl ?_); (refine Q2 rfl ?_); (refine QX rfl rfl ?_)) | refine Qh ?_ | refine Ql ?_ | refine Qo rfl ?_)
      refine awp_cond_dec rfl (fun h3 => ?_) (fun h3 => ?_)
      · have hj3 : j < r1.dirt.length := by omega
        repeat' (first | ((refine Qa rfl ?_); (first | refine Q0 ?_ | refine Q1 ?_ | refine Q3 rfl rfl rfl ?_ | refine Q4 rfl rfl rfl rfl rfl ?_ | refine Q6 rfl ?_); (refine QX rfl rfl ?_)) | refine Qa rfl ?_ | refine Qh ?_ | refine Ql ?_ | refine Qm ?_ | refine Qn ?_ | refine Qo rfl ?_)
        refine st_index_own (j := j) rfl rfl rfl rfl rfl rfl rfl rfl rfl (by show j < _; rw [hlen]; exact hj3) ?_
        first | refine nx rfl rfl ?_ | refine nx0 ?_
        repeat' (refine Qb rfl ?_)
        obtain ⟨y, hy⟩ : ∃ y, (List.replicate j false ++ r1.dirt.drop j)[j]? = some y := ⟨_, List.getElem?_eq_getElem (by omega)⟩
        refine st_store_pe rfl rfl rfl rfl (y := boA y) (by rw [Nat.zero_add]; simp only [List.getElem?_map, hy]; rfl) rfl rfl rfl rfl rfl ?_
        first | refine nx rfl rfl ?_ | refine nx0 ?_
        repeat' (first | ((refine Qa rfl ?_); (first | refine Q0 ?_ | refine Q2 rfl ?_); (refine QX rfl rfl ?_)) | refine Qh ?_ | refine Qo rfl ?_ | refine Qs ?_)
        refine ⟨j + 1, by omega, by omega, imp_cutk 4 (Nat.le_refl _) (hok_rfd _) ?_ (by simp) ?_⟩
        · have e4 : List.map boA (List.replicate (j + 1) false ++ List.drop (j + 1) r1.dirt) = (List.map boA (List.replicate j false ++ List.drop j r1.dirt)).set j (boA false) := by
            rw [← clr_set hj3, List.map_set]
          have e5 : (List.replicate (j + 1) false ++ List.drop (j + 1) r1.dirt).length = (List.replicate j false ++ r1.dirt.drop j).length := by simp; omega
          simp only [rdH, e4, e5, Nat.zero_add]
          rfl
        repeat' (first | exact fa_nil | refine fa_cons ⟨?_, ?_⟩ ?_)
        all_goals (try first | exact rfl | exact trivial | (simp [IdsLt]; done) | (simp [get_cons]; done) | (simp [get_cons, *]; done) | (refine congrArg (AV.int .i64) (wrap_eq ?_ ?_ ?_) <;> (first | omega | (simp; omega))))
      · have hj3 : j = r1.dirt.length := by omega
        subst hj3
        repeat' (first | ((refine Qa rfl ?_); (refine Q1 ?_); (refine QX rfl rfl ?_)) | refine Qh ?_ | refine Ql ?_ | refine Qo rfl ?_ | refine Qr ?_ | refine Qs ?_)
        refine awp_ret ?_
        refine ⟨_, rfl, ?_, ?_⟩
        · rfl
        · simp only [List.drop_length, List.append_nil]; rfl
end Go.Abs
namespace Go.Abs
def Rd.fresh (img : List UInt8) : Rd := { old := img, new := img, dirt := List.replicate (img.length / 64) false, has := false, left := 0, gone := false, wrote := 0 }
theorem rdH_fresh (img : List UInt8) : rdH (Rd.fresh img) = [some (.cells [.own 1 0 img.length, .own 2 0 img.length, .own 3 0 (img.length / 64), .bool false, .int .i64 0, .bool false, .int .i64 0] 129),
   some (.arr (img.map u8A) 5), some (.arr (img.map u8A) 5), some (.arr (List.replicate (img.length / 64) (boA false)) 4)] := by
  simp [rdH, Rd.fresh]
theorem div64 (n : Nat) : IntKind.i64.wrap ((n : Int).tdiv 64) = ((n / 64 : Nat) : Int) ∨ 1073741824 < n := by
  rcases Nat.lt_or_ge 1073741824 n with h | h
  · exact .inr h
  · left
    rw [Int.tdiv_eq_ediv_of_nonneg (by omega)]
    exact wrap_eq (by omega) (by omega) (by omega)
attribute [local irreducible] AStep aops AWp Nx awM
set_option maxHeartbeats 0 in
theorem rof_c (X : Nat → Prop) (img : List UInt8) (hl : img.length ≤ 1073741824) : ACalls (E0 X) 117 [.sl 1 (img.map u8A)] [] (fun v H' => v = .ptr 0 0 ∧ H' = rdH (Rd.fresh img)) := by
  refine acalls_of Proofs.Tryd.func117 rfl Proofs.Tryd.ntmps117 (by kernel_rfl) rfl ?_
  intro hH hargs
  clear hH hargs
  have hd : IntKind.i64.wrap (((img.map u8A).length : Int).tdiv 64) = ((img.length / 64 : Nat) : Int) := by
    rw [List.length_map]; exact (div64 img.length).resolve_right (by omega)
  repeat' (first | ((refine Qa rfl ?_); (refine Q1 ?_); (refine QX rfl rfl ?_)) | refine Qh ?_ | refine Ql ?_ | refine Qo rfl ?_)
  refine awp_region_any [1, 3, 7, 9] [0, 2, 4, 5, 6] (by exact rfl) ?_
  refine any_lin (fuel := 6) [0, 2, 4, 5, 6] (by exact rfl) (by kernel_rfl) (by kernel_rfl) ?_
  repeat' (first | ((apply Qe rfl rfl rfl rfl; intro H9); (first | refine Q0 ?_ | refine Q7 rfl rfl rfl ?_ | refine QA rfl rfl (by decide) ?_); (exact QY rfl ⟨rfl, rfl⟩)) | refine Qk ?_)
  refine any_br [1, 7] (by kernel_rfl) (br2 ?_ ?_)
  · refine mop_ef rfl rfl rfl ?_
    refine st_append (oid := none) (es := []) (new := img.map u8A) rfl rfl rfl rfl rfl rfl rfl rfl (rfl) (rfl) (oneEs_u8 _) ?_ ?_ ?_
    · first
      | (simp [maxLen]; done)
      | (simp [maxLen]; omega)
    · show _ * 1 ≤ _
      first
      | (simp; done)
      | (simp; omega)
    first | refine nx rfl rfl ?_ | refine nx0 ?_
    try simp only [List.length_nil, Nat.zero_add, List.length_map, List.nil_append]
    refine any_br [3, 7] (by kernel_rfl) (br2 ?_ ?_)
    · refine mop_ef rfl rfl rfl ?_
      refine st_append (oid := none) (es := []) (new := img.map u8A) rfl rfl rfl rfl rfl rfl rfl rfl (rfl) (rfl) (oneEs_u8 _) ?_ ?_ ?_
      · first
        | (simp [maxLen]; done)
        | (simp [maxLen]; omega)
      · show _ * 1 ≤ _
        first
        | (simp; done)
        | (simp; omega)
      first | refine nx rfl rfl ?_ | refine nx0 ?_
      try simp only [List.length_nil, Nat.zero_add, List.length_map, List.nil_append]
      refine any_br [7] (by kernel_rfl) (br1 ?_)
      refine mop_ef rfl rfl rfl ?_
      refine st_mko (n := img.length / 64) (el := boA false) rfl (by simpa using hd) (by simpa using hd) ?_ ?_ rfl rfl rfl rfl rfl rfl (.inr rfl) (.inr rfl) rfl rfl ?_
      · show 1 * _ ≤ 281474976710656
        first
        | omega
        | (simp; omega)
      · show _ ≤ 9223372036854775807
        omega
      first | refine nx rfl rfl ?_ | refine nx0 ?_
      refine any_lin (fuel := 0) [8, 9, 10] (by exact rfl) (by kernel_rfl) (by kernel_rfl) ?_
      repeat' (first | ((first | refine Qc rfl rfl rfl ?_ | apply Qd rfl rfl rfl rfl); (first | refine Q1 ?_ | refine QK rfl ?_ | refine QP rfl rfl rfl rfl rfl rfl ?_); (first | exact QX rfl rfl ⟨rfl, rfl⟩ | refine QX rfl rfl ?_)) | refine Qk ?_ | refine Qs ?_ | refine Qw (by kernel_rfl) ?_)
      refine awp_pre (imp_tid 0 [3, 0, 1, 2] (sl' := [(2, .ptr 0 0)]) (H' := rdH (Rd.fresh img))
        (os := [.cells [.own 1 0 img.length, .own 2 0 img.length, .own 3 0 (img.length / 64), .bool false, .int .i64 0, .bool false, .int .i64 0] 129, .arr (img.map u8A) 5, .arr (img.map u8A) 5, .arr (List.replicate (img.length / 64) (boA false)) 4])
        (Nat.le_refl _) (Nat.zero_le _) (by simp) (by simp) (by simp [HOk]) rfl (by rw [rdH_fresh]; rfl) ?_ ?_) ?_
      · repeat' (first
          | exact fa_nil
          | exact os_nil
          | exact RenL.nil
          | refine fa_cons ?_ ?_
          | refine os_cons rfl (renO_cells ?_) ?_
          | refine os_cons rfl (renO_old 0 (fun i h => absurd h (Nat.not_lt_zero i)) (by simp [IdsLtO])) ?_
          | refine RenL.cons ?_ ?_
          | exact ren_own rfl
          | exact ren_ptr rfl
          | exact ren_mp rfl
          | exact ren_lt rfl (by first | trivial | (simp [IdsLt, IdsLtL]; done)))
      · repeat' (first
          | exact fa_nil
          | exact os_nil
          | exact RenL.nil
          | refine fa_cons ?_ ?_
          | refine os_cons rfl (renO_cells ?_) ?_
          | refine os_cons rfl (renO_old 0 (fun i h => absurd h (Nat.not_lt_zero i)) (by simp [IdsLtO])) ?_
          | refine RenL.cons ?_ ?_
          | exact ren_own rfl
          | exact ren_ptr rfl
          | exact ren_mp rfl
          | exact ren_lt rfl (by first | trivial | (simp [IdsLt, IdsLtL]; done)))
      refine awp_ret ?_
      refine ⟨_, rfl, ?_, ?_⟩
      · rfl
      · rfl
    · refine mop_ef rfl rfl rfl ?_
      refine st_mko (n := img.length / 64) (el := boA false) rfl (by simpa using hd) (by simpa using hd) ?_ ?_ rfl rfl rfl rfl rfl rfl (.inr rfl) (.inr rfl) rfl rfl ?_
      · show 1 * _ ≤ 281474976710656
        first
        | omega
        | (simp; omega)
      · show _ ≤ 9223372036854775807
        omega
      first | refine nx rfl rfl ?_ | refine nx0 ?_
      refine any_br [3] (by kernel_rfl) (br1 ?_)
      refine mop_ef rfl rfl rfl ?_
      refine st_append (oid := none) (es := []) (new := img.map u8A) rfl rfl rfl rfl rfl rfl rfl rfl (rfl) (rfl) (oneEs_u8 _) ?_ ?_ ?_
      · first
        | (simp [maxLen]; done)
        | (simp [maxLen]; omega)
      · show _ * 1 ≤ _
        first
        | (simp; done)
        | (simp; omega)
      first | refine nx rfl rfl ?_ | refine nx0 ?_
      try simp only [List.length_nil, Nat.zero_add, List.length_map, List.nil_append]
      refine any_lin (fuel := 0) [8, 9, 10] (by exact rfl) (by kernel_rfl) (by kernel_rfl) ?_
      repeat' (first | ((first | refine Qc rfl rfl rfl ?_ | apply Qd rfl rfl rfl rfl); (first | refine Q1 ?_ | refine QK rfl ?_ | refine QP rfl rfl rfl rfl rfl rfl ?_); (first | exact QX rfl rfl ⟨rfl, rfl⟩ | refine QX rfl rfl ?_)) | refine Qk ?_ | refine Qs ?_ | refine Qw (by kernel_rfl) ?_)
      refine awp_pre (imp_tid 0 [3, 0, 2, 1] (sl' := [(2, .ptr 0 0)]) (H' := rdH (Rd.fresh img))
        (os := [.cells [.own 1 0 img.length, .own 2 0 img.length, .own 3 0 (img.length / 64), .bool false, .int .i64 0, .bool false, .int .i64 0] 129, .arr (img.map u8A) 5, .arr (img.map u8A) 5, .arr (List.replicate (img.length / 64) (boA false)) 4])
        (Nat.le_refl _) (Nat.zero_le _) (by simp) (by simp) (by simp [HOk]) rfl (by rw [rdH_fresh]; rfl) ?_ ?_) ?_
      · repeat' (first
          | exact fa_nil
          | exact os_nil
          | exact RenL.nil
          | refine fa_cons ?_ ?_
          | refine os_cons rfl (renO_cells ?_) ?_
          | refine os_cons rfl (renO_old 0 (fun i h => absurd h (Nat.not_lt_zero i)) (by simp [IdsLtO])) ?_
          | refine RenL.cons ?_ ?_
          | exact ren_own rfl
          | exact ren_ptr rfl
          | exact ren_mp rfl
          | exact ren_lt rfl (by first | trivial | (simp [IdsLt, IdsLtL]; done)))
      · repeat' (first
          | exact fa_nil
          | exact os_nil
          | exact RenL.nil
          | refine fa_cons ?_ ?_
          | refine os_cons rfl (renO_cells ?_) ?_
          | refine os_cons rfl (renO_old 0 (fun i h => absurd h (Nat.not_lt_zero i)) (by simp [IdsLtO])) ?_
          | refine RenL.cons ?_ ?_
          | exact ren_own rfl
          | exact ren_ptr rfl
          | exact ren_mp rfl
          | exact ren_lt rfl (by first | trivial | (simp [IdsLt, IdsLtL]; done)))
      refine awp_ret ?_
      refine ⟨_, rfl, ?_, ?_⟩
      · rfl
      · rfl
  · refine mop_ef rfl rfl rfl ?_
    refine st_mko (n := img.length / 64) (el := boA false) rfl (by simpa using hd) (by simpa using hd) ?_ ?_ rfl rfl rfl rfl rfl rfl (.inr rfl) (.inr rfl) rfl rfl ?_
    · show 1 * _ ≤ 281474976710656
      first
      | omega
      | (simp; omega)
    · show _ ≤ 9223372036854775807
      omega
    first | refine nx rfl rfl ?_ | refine nx0 ?_
    refine any_br [1] (by kernel_rfl) (br1 ?_)
    refine mop_ef rfl rfl rfl ?_
    refine st_append (oid := none) (es := []) (new := img.map u8A) rfl rfl rfl rfl rfl rfl rfl rfl (rfl) (rfl) (oneEs_u8 _) ?_ ?_ ?_
    · first
      | (simp [maxLen]; done)
      | (simp [maxLen]; omega)
    · show _ * 1 ≤ _
      first
      | (simp; done)
      | (simp; omega)
    first | refine nx rfl rfl ?_ | refine nx0 ?_
    try simp only [List.length_nil, Nat.zero_add, List.length_map, List.nil_append]
    refine any_br [3] (by kernel_rfl) (br1 ?_)
    refine mop_ef rfl rfl rfl ?_
    refine st_append (oid := none) (es := []) (new := img.map u8A) rfl rfl rfl rfl rfl rfl rfl rfl (rfl) (rfl) (oneEs_u8 _) ?_ ?_ ?_
    · first
      | (simp [maxLen]; done)
      | (simp [maxLen]; omega)
    · show _ * 1 ≤ _
      first
      | (simp; done)
      | (simp; omega)
    first | refine nx rfl rfl ?_ | refine nx0 ?_
    try simp only [List.length_nil, Nat.zero_add, List.length_map, List.nil_append]
    refine any_lin (fuel := 0) [8, 9, 10] (by exact rfl) (by kernel_rfl) (by kernel_rfl) ?_
    repeat' (first | ((first | refine Qc rfl rfl rfl ?_ | apply Qd rfl rfl rfl rfl); (first | refine Q1 ?_ | refine QK rfl ?_ | refine QP rfl rfl rfl rfl rfl rfl ?_); (first | exact QX rfl rfl ⟨rfl, rfl⟩ | refine QX rfl rfl ?_)) | refine Qk ?_ | refine Qs ?_ | refine Qw (by kernel_rfl) ?_)
    refine awp_pre (imp_tid 0 [3, 1, 2, 0] (sl' := [(2, .ptr 0 0)]) (H' := rdH (Rd.fresh img))
      (os := [.cells [.own 1 0 img.length, .own 2 0 img.length, .own 3 0 (img.length / 64), .bool false, .int .i64 0, .bool false, .int .i64 0] 129, .arr (img.map u8A) 5, .arr (img.map u8A) 5, .arr (List.replicate (img.length / 64) (boA false)) 4])
      (Nat.le_refl _) (Nat.zero_le _) (by simp) (by simp) (by simp [HOk]) rfl (by rw [rdH_fresh]; rfl) ?_ ?_) ?_
    · repeat' (first
        | exact fa_nil
        | exact os_nil
        | exact RenL.nil
        | refine fa_cons ?_ ?_
        | refine os_cons rfl (renO_cells ?_) ?_
        | refine os_cons rfl (renO_old 0 (fun i h => absurd h (Nat.not_lt_zero i)) (by simp [IdsLtO])) ?_
        | refine RenL.cons ?_ ?_
        | exact ren_own rfl
        | exact ren_ptr rfl
        | exact ren_mp rfl
        | exact ren_lt rfl (by first | trivial | (simp [IdsLt, IdsLtL]; done)))
    · repeat' (first
        | exact fa_nil
        | exact os_nil
        | exact RenL.nil
        | refine fa_cons ?_ ?_
        | refine os_cons rfl (renO_cells ?_) ?_
        | refine os_cons rfl (renO_old 0 (fun i h => absurd h (Nat.not_lt_zero i)) (by simp [IdsLtO])) ?_
        | refine RenL.cons ?_ ?_
        | exact ren_own rfl
        | exact ren_ptr rfl
        | exact ren_mp rfl
        | exact ren_lt rfl (by first | trivial | (simp [IdsLt, IdsLtL]; done)))
    refine awp_ret ?_
    refine ⟨_, rfl, ?_, ?_⟩
    · rfl
    · rfl
theorem noFz_rd (r : Rd) : noFzH (rdH r) = true := by
  simp only [noFzH, rdH, List.all_cons, List.all_nil, noFzO, noFzL, noFz, Bool.and_true, Bool.true_and, Bool.and_eq_true]
  exact ⟨noFz_map (fun _ => rfl) _, noFz_map (fun _ => rfl) _, noFz_map (fun _ => rfl) _⟩
/-- The reference's device s places further on. -/
def rdS (s : Nat) (r : Rd) : Hp :=
  [some (.cells [.own (1 + s) 0 r.old.length, .own (2 + s) 0 r.new.length, .own (3 + s) 0 r.dirt.length, .bool r.has, .int .i64 r.left, .bool r.gone, .int .i64 r.wrote] 129),
   some (.arr (r.old.map u8A) 5), some (.arr (r.new.map u8A) 5), some (.arr (r.dirt.map boA) 4)]
theorem mapH_rd (s : Nat) (r : Rd) : mapH (· + s) (rdH r) = rdS s r := by
  simp [mapH, rdH, rdS, rnO, rnL, rnA, rnL_map (f := u8A) (fun _ => rfl), rnL_map (f := boA) (fun _ => rfl)]
/-- Of, of any slice that can be read, over any heap. -/
theorem rof_at (X : Nat → Prop) (H : Hp) (x : AV) (img : List UInt8) (hl : img.length ≤ 1073741824) (hx : srcA (E0 X) H 1 x = some (img.map u8A)) :
    ACalls (E0 X) 117 [x] H (fun v H' => v = .ptr H.length 0 ∧ H' = H ++ rdS H.length (Rd.fresh img)) := by
  refine (acalls_make (E := E0 X) (P := fun v H' => v = .ptr 0 0 ∧ H' = rdH (Rd.fresh img)) (fun X => rof_c X img hl) (fun r h' h => by obtain ⟨h1, h2⟩ := h; subst h1; subst h2; exact ⟨rfl, noFz_rd _⟩) (Bor.sl (u8_ids _) hx .nil)).mono ?_
  rintro r H' ⟨r0, h', ⟨rfl, rfl⟩, rfl, rfl⟩
  exact ⟨by simp [rnA], by rw [mapH_rd]⟩
set_option maxHeartbeats 0 in
theorem rblank_c (X : Nat → Prop) (n : Nat) (hn : n ≤ 16777216) : ACalls (E0 X) 73 [.int .i64 n] [] (fun v H' => v = .ptr 0 0 ∧ H' = rdH (Rd.fresh (List.replicate (n * 64) 0))) := by
  refine acalls_of Proofs.Tryd.func73 rfl Proofs.Tryd.ntmps73 (by kernel_rfl) rfl ?_
  intro hH hargs
  clear hH hargs
  repeat' (first | ((refine Qa rfl ?_); (first | refine Q0 ?_ | refine Q1 ?_ | refine Q2 rfl ?_); (refine QX rfl rfl ?_)) | refine Qa rfl ?_ | refine Qh ?_ | refine Ql ?_ | refine Qo rfl ?_)
  refine st_mks (n := n * 64) (el := u8A 0) rfl rfl (w64 hn) (w64 hn) ?_ ?_ rfl rfl rfl rfl rfl rfl (.inr rfl) (.inr rfl) rfl rfl ?_
  · show 1 * _ ≤ 281474976710656
    first
    | omega
    | (simp; omega)
  · show _ ≤ 9223372036854775807
    omega
  first | refine nx rfl rfl ?_ | refine nx0 ?_
  have e : List.replicate (n * 64) (u8A 0) = (List.replicate (n * 64) (0 : UInt8)).map u8A := by simp
  rw [e]
  repeat' (refine Qa rfl ?_)
  refine st_call (fun _ => rfl) rfl ?_
  refine ACalls.mono (rof_at X [] _ (List.replicate (n * 64) 0) (by simp; omega) rfl) ?_
  rintro r H' ⟨rfl, rfl⟩
  first | refine nx rfl rfl ?_ | refine nx0 ?_
  repeat' (first | ((refine Qa rfl ?_); (refine Q1 ?_); (refine QX rfl rfl ?_)) | refine Qh ?_ | refine Qs ?_)
  refine awp_ret ?_
  refine ⟨_, rfl, ?_, ?_⟩
  · rfl
  · rfl
end Go.Abs
namespace Go.Abs
theorem mapH_rdQ (s q : Nat) (r : Rd) : mapH (sh s q 4) (rdH r) = rdS s r := by
  simp [mapH, rdH, rdS, rnO, rnL, rnA, sh, rnL_map (f := u8A) (fun _ => rfl), rnL_map (f := boA) (fun _ => rfl)]
theorem some_rd (r : Rd) : ∀ j : Nat, (rdH r)[j]? ≠ some none := fun j => by
  match j with
  | 0 => simp [rdH]
  | 1 => simp [rdH]
  | 2 => simp [rdH]
  | 3 => simp [rdH]
  | j + 4 => simp [rdH]
section
variable {X : Nat → Prop} {f : FuncId} {rest : List AV} {r0 : AV}
theorem rd_at {v v' : Rd} (hc : ∀ X, ACalls (E0 X) f (.ptr 0 0 :: rest) (rdH v) (fun r H' => r = r0 ∧ H' = rdH v')) (hrest : IdsLtL 0 rest) (hr : IdsLt 0 r0) (L R : Hp) (s : Nat) (hs : L.length = s) :
    ACalls (E0 X) f (.ptr s 0 :: rest) (L ++ rdS s v ++ R) (fun r H' => r = r0 ∧ H' = L ++ rdS s v' ++ R) := by
  subst hs
  refine ACalls.conv (ACalls.frameLR (E := E0 X) hc L R (some_rd v) ⟨by simp [IdsLt, rdH], ids_mono (Nat.zero_le _) hrest⟩ (hok_rfd v)) ?_ (by rw [show (rdH v).length = 4 from rfl, mapH_rdQ]) ?_
  · show _ :: rnL _ rest = _
    rw [rnL_closed _ hrest]; simp [rnA, sh, rdH]
  · rintro r H' ⟨r1, h', ⟨rfl, rfl⟩, -, rfl, rfl⟩
    refine ⟨rn_closed _ hr, ?_⟩
    show L ++ mapH (sh L.length R.length 4) (rdH v') ++ R ++ [] = _
    rw [mapH_rdQ, List.append_nil]
theorem rd_new {v : Rd} {P : AV → Hp → Prop} (hc : ∀ X, ACalls (E0 X) f (.ptr 0 0 :: rest) (rdH v) P) (hrest : IdsLtL 0 rest) (hP : ∀ r H', P r H' → ∃ v' n, H' = rdH v' ++ n) (L R : Hp) (s : Nat) (hs : L.length = s) :
    ACalls (E0 X) f (.ptr s 0 :: rest) (L ++ rdS s v ++ R) (fun r H' => ∃ r1 v' n, P r1 (rdH v' ++ n) ∧ r = rnA (sh s R.length 4) r1 ∧ H' = L ++ rdS s v' ++ R ++ mapH (sh s R.length 4) n) := by
  subst hs
  refine ACalls.conv (ACalls.frameLR (E := E0 X) hc L R (some_rd v) ⟨by simp [IdsLt, rdH], ids_mono (Nat.zero_le _) hrest⟩ (hok_rfd v)) ?_ (by rw [show (rdH v).length = 4 from rfl, mapH_rdQ]) ?_
  · show _ :: rnL _ rest = _
    rw [rnL_closed _ hrest]; simp [rnA, sh, rdH]
  · rintro r H' ⟨r1, h', hp, -, rfl, rfl⟩
    obtain ⟨v', n, rfl⟩ := hP _ _ hp
    refine ⟨r1, v', n, hp, rfl, ?_⟩
    show L ++ mapH (sh L.length R.length 4) (rdH v') ++ R ++ mapH (sh L.length R.length 4) n = _
    rw [mapH_rdQ]
end
end Go.Abs
namespace Go.Abs
def rpC (l : La) (slot seq : Int) (n t id : Nat) : AO := .cells [.int .i64 l.id, .int .i64 l.ver, .int .i64 l.rs, .int .i64 l.regs, .int .i64 slot, .int .i64 seq, .own id 0 n, .int .i64 (t : Int)] 176
def rpH (l : La) (slot seq : Int) (s : List UInt8) (t : Nat) : Hp := [some (rpC l slot seq s.length t 1), some (arB s)]
def rpM (l : La) (slot seq : Int) (s : List UInt8) (t : Nat) : Hp := [some (rpC l slot seq s.length t 2), none, some (arB s)]
theorem hok_rp (l : La) (slot seq : Int) (s : List UInt8) (t : Nat) : HOk 2 (rpH l slot seq s t) := fun j o ho => by
  match j, ho with
  | 0, ho => cases ho; exact ⟨trivial, trivial, trivial, trivial, trivial, trivial, by simp [IdsLt], trivial, trivial⟩
  | 1, ho => cases ho; exact idsL_map fun _ => u8A_ids
theorem hok_rpm (l : La) (slot seq : Int) (s : List UInt8) (t : Nat) : HOk 3 (rpM l slot seq s t) := fun j o ho => by
  match j, ho with
  | 0, ho => cases ho; exact ⟨trivial, trivial, trivial, trivial, trivial, trivial, by simp [IdsLt], trivial, trivial⟩
  | 1, ho => cases ho
  | 2, ho => cases ho; exact idsL_map fun _ => u8A_ids
attribute [local irreducible] AStep aops AWp Nx awM
set_option maxHeartbeats 0 in
theorem rcap_c (X : Nat → Prop) (l : La) (h : -1000000 ≤ l.rs ∧ l.rs ≤ 1000000) : ACalls (E0 X) 150 [laA l] [] (fun r H' => r = .int .i64 ((l.rs - 1) * 59) ∧ H' = []) := by
  refine ACalls.cut0 ?_ trivial
  have w1 : IntKind.i64.wrap (l.rs - 1) = l.rs - 1 := wrap_in (by omega) (by omega)
  have w2 : IntKind.i64.wrap ((l.rs - 1) * 59) = (l.rs - 1) * 59 := wrap_in (by omega) (by omega)
  show ACalls (E0 X) _ [.agg [.int .i64 l.id, .int .i64 l.ver, .int .i64 l.rs, .int .i64 l.regs]] [] _
  refine acalls_of Proofs.Tryd.func150 rfl Proofs.Tryd.ntmps150 (by kernel_rfl) rfl ?_
  intro hH hargs
  clear hH hargs
  repeat' (first | ((refine Qa rfl ?_); (first | refine Q1 ?_ | refine Q2 rfl ?_ | refine Q3 rfl rfl rfl ?_ | refine Q4 rfl rfl rfl rfl rfl ?_ | refine QK rfl ?_); (refine QX rfl rfl ?_)) | refine Qh ?_ | refine Ql ?_ | refine Qo rfl ?_ | refine Qs ?_)
  rw [w1, w2]
  refine awp_ret ?_
  exact ⟨_, rfl, rfl⟩
set_option maxHeartbeats 0 in
set_option maxRecDepth 100000 in
theorem rput_bad (X : Nat → Prop) (l : La) (slot seq : Int) (s : List UInt8) (t : Nat) (r : Rec) (hc : chkR l.ver r ≠ 0) :
    ACalls (E0 X) 121 [.ptr 0 0, recA r] (rpH l slot seq s t) (fun q H' => q = .tup [.int .i64 0, .int .i64 0, .int .i64 (chkR l.ver r)] ∧ H' = rpH l slot seq s t) := by
  have hck := fun X => rcheck_r X l.ver r
  generalize chkR l.ver r = e at *
  show ACalls (E0 X) _ [.ptr 0 0, .agg [.int .i64 r.kind, .sl 1 (r.key.map u8A), .sl 1 (r.val.map u8A), .int .i64 r.exp]] [some (.cells [.int .i64 l.id, .int .i64 l.ver, .int .i64 l.rs, .int .i64 l.regs, .int .i64 slot, .int .i64 seq, .own 1 0 s.length, .int .i64 (t : Int)] 176), some (.arr (s.map u8A) 5)] _
  refine acalls_of Proofs.Tryd.func121 rfl Proofs.Tryd.ntmps121 (by kernel_rfl) rfl ?_
  intro hH hargs
  clear hH hargs
  repeat' (first | ((refine Qa rfl ?_); (first | refine Q1 ?_ | refine QK rfl ?_); (refine QX rfl rfl ?_)) | refine Qh ?_ | refine Ql ?_ | refine Qo rfl ?_)
  refine awp_region_auto2 [] [] (by exact rfl) (by kernel_rfl) ?_
  repeat' ((apply Qd rfl rfl rfl rfl); (first | refine Q0 ?_ | refine Q3 rfl rfl rfl ?_ | refine Q4 rfl rfl rfl rfl rfl ?_ | refine Q6 rfl ?_); (exact QX rfl rfl ⟨rfl, rfl⟩))
  apply ds rfl rfl rfl rfl
  · refine st_call (fun _ => rfl) rfl ?_
    refine ACalls.mono (acalls_pure (E := E0 X) hck (by simp [IdsLtL, IdsLt]) _) ?_
    rintro r H' ⟨rfl, rfl⟩
    first
    | exact nx rfl rfl ⟨rfl, rfl⟩
    | exact nx0 ⟨rfl, rfl⟩
  repeat' (first | ((first | refine Qa rfl ?_ | apply Qd rfl rfl rfl rfl); (first | refine Q0 ?_ | refine Q1 ?_ | refine Q2 rfl ?_); (first | exact QX rfl rfl ⟨rfl, rfl⟩ | refine QX rfl rfl ?_)) | refine Qh ?_ | refine Qk ?_ | refine Ql ?_ | refine Qo rfl ?_ | refine Qs ?_)
  rw [decide_eq_true hc]
  repeat' (first | ((refine Qa rfl ?_); (first | refine Q0 ?_ | refine Q1 ?_); (refine QX rfl rfl ?_)) | refine Qh ?_ | refine Ql ?_ | refine Qo rfl ?_ | refine Qp rfl ?_ | refine Qs ?_)
  refine awp_pre (imp_cutk 2 (Nat.le_refl _) (hok_rp l slot seq s t) rfl (by simp) (sl' := [(4, .int .i64 0), (5, .int .i64 0), (6, .int .i64 e)]) ?_) ?_
  · repeat' (first | exact fa_nil | refine fa_cons ⟨?_, ?_⟩ ?_)
    all_goals (try first | exact rfl | exact trivial | (simp [IdsLt, IdsLtL]; done) | (simp [get_cons]; done) | (simp [get_cons, *]; done) | (refine congrArg (AV.int .i64) (wrap_eq ?_ ?_ ?_) <;> (first | omega | (simp; omega))))
  refine awp_ret ?_
  exact ⟨_, rfl, rfl, rfl⟩
set_option maxHeartbeats 0 in
set_option maxRecDepth 100000 in
theorem rput_full (X : Nat → Prop) (l : La) (slot seq : Int) (s : List UInt8) (t : Nat) (r : Rec) (hc : chkR l.ver r = 0) (hr : 1 ≤ l.rs ∧ l.rs ≤ 2048) (hs : s.length ≤ 1000000) (hl : (l.rs - 1) * 59 - s.length < (lenR r : Int)) :
    ACalls (E0 X) 121 [.ptr 0 0, recA r] (rpH l slot seq s t) (fun q H' => q = .tup [.int .i64 0, .int .i64 0, .int .i64 8] ∧ H' = rpH l slot seq s t) := by
  have hok := rec_ok hc
  have hck := fun X => rcheck_r X l.ver r
  rw [hc] at hck
  have hle := fun X => rlength_c X r (by have := hok.keyle; omega) (by have := hok.val; omega)
  have hca := fun X => rcap_c X l (by omega)
  have hlr : lenR r ≤ 70000 := by have := hok.keyle; have := hok.val; unfold lenR; omega
  generalize lenR r = L at *
  have hw : IntKind.i64.wrap ((l.rs - 1) * 59 - (s.length : Int)) = (l.rs - 1) * 59 - (s.length : Int) := wrap_in (by omega) (by omega)
  show ACalls (E0 X) _ [.ptr 0 0, .agg [.int .i64 r.kind, .sl 1 (r.key.map u8A), .sl 1 (r.val.map u8A), .int .i64 r.exp]] [some (.cells [.int .i64 l.id, .int .i64 l.ver, .int .i64 l.rs, .int .i64 l.regs, .int .i64 slot, .int .i64 seq, .own 1 0 s.length, .int .i64 (t : Int)] 176), some (.arr (s.map u8A) 5)] _
  refine acalls_of Proofs.Tryd.func121 rfl Proofs.Tryd.ntmps121 (by kernel_rfl) rfl ?_
  intro hH hargs
  clear hH hargs
  repeat' (first | ((refine Qa rfl ?_); (first | refine Q1 ?_ | refine QK rfl ?_); (refine QX rfl rfl ?_)) | refine Qh ?_ | refine Ql ?_ | refine Qo rfl ?_)
  refine awp_region_auto2 [] [] (by exact rfl) (by kernel_rfl) ?_
  repeat' ((apply Qd rfl rfl rfl rfl); (first | refine Q0 ?_ | refine Q3 rfl rfl rfl ?_ | refine Q4 rfl rfl rfl rfl rfl ?_ | refine Q6 rfl ?_); (exact QX rfl rfl ⟨rfl, rfl⟩))
  apply ds rfl rfl rfl rfl
  · refine st_call (fun _ => rfl) rfl ?_
    refine ACalls.mono (acalls_pure (E := E0 X) hck (by simp [IdsLtL, IdsLt]) _) ?_
    rintro r H' ⟨rfl, rfl⟩
    first
    | exact nx rfl rfl ⟨rfl, rfl⟩
    | exact nx0 ⟨rfl, rfl⟩
  repeat' (first | ((first | refine Qa rfl ?_ | apply Qd rfl rfl rfl rfl); (first | refine Q0 ?_ | refine Q1 ?_ | refine Q2 rfl ?_); (first | exact QX rfl rfl ⟨rfl, rfl⟩ | refine QX rfl rfl ?_)) | refine Qh ?_ | refine Qk ?_ | refine Ql ?_ | refine Qm ?_ | refine Qo rfl ?_ | refine Qq rfl ?_)
  refine awp_region_auto2 [] [] (by exact rfl) (by kernel_rfl) ?_
  repeat' ((apply Qd rfl rfl rfl rfl); (refine Q3 rfl rfl rfl ?_); (exact QX rfl rfl ⟨rfl, rfl⟩))
  apply ds rfl rfl rfl rfl
  · refine st_call (fun _ => rfl) rfl ?_
    refine ACalls.mono (acalls_pure (E := E0 X) hle (by simp [IdsLtL]) _) ?_
    rintro r H' ⟨rfl, rfl⟩
    first
    | exact nx rfl rfl ⟨rfl, rfl⟩
    | exact nx0 ⟨rfl, rfl⟩
  repeat' (first | ((first | refine Qa rfl ?_ | apply Qd rfl rfl rfl rfl); (first | refine Q0 ?_ | refine Q1 ?_ | refine Q3 rfl rfl rfl ?_ | refine Q4 rfl rfl rfl rfl rfl ?_ | refine Q6 rfl ?_ | refine Q7 rfl rfl rfl ?_); (first | exact QX rfl rfl ⟨rfl, rfl⟩ | refine QX rfl rfl ?_)) | refine Qa rfl ?_ | refine Qk ?_ | refine Ql ?_ | refine Qo rfl ?_)
  refine st_call (fun _ => rfl) rfl ?_
  refine ACalls.mono (acalls_pure (E := E0 X) (fun X => hca X) (by simp [IdsLtL]) _) ?_
  rintro r H' ⟨rfl, rfl⟩
  first | refine nx rfl rfl ?_ | refine nx0 ?_
  repeat' (first | ((refine Qa rfl ?_); (first | refine Q0 ?_ | refine Q2 rfl ?_); (refine QX rfl rfl ?_)) | refine Qh ?_ | refine Qs ?_)
  rw [hw, decide_eq_true hl]
  repeat' (first | ((refine Qa rfl ?_); (refine Q1 ?_); (refine QX rfl rfl ?_)) | refine Qh ?_ | refine Ql ?_ | refine Qo rfl ?_ | refine Qp rfl ?_ | refine Qs ?_)
  refine awp_pre (imp_cutk 2 (Nat.le_refl _) (hok_rp l slot seq s t) rfl (by simp) (sl' := [(4, .int .i64 0), (5, .int .i64 0), (6, .int .i64 8)]) ?_) ?_
  · repeat' (first | exact fa_nil | refine fa_cons ⟨?_, ?_⟩ ?_)
    all_goals (try first | exact rfl | exact trivial | (simp [IdsLt, IdsLtL]; done) | (simp [get_cons]; done) | (simp [get_cons, *]; done) | (refine congrArg (AV.int .i64) (wrap_eq ?_ ?_ ?_) <;> (first | omega | (simp; omega))))
  refine awp_ret ?_
  exact ⟨_, rfl, rfl, rfl⟩
set_option maxHeartbeats 0 in
set_option maxRecDepth 100000 in
theorem rput_ok (X : Nat → Prop) (l : La) (slot : Int) (seq : Nat) (s : List UInt8) (t : Nat) (r : Rec) (hc : chkR l.ver r = 0) (hq : seq < 9223372036854775808) (hr : 1 ≤ l.rs ∧ l.rs ≤ 2048) (hl : (s.length : Int) + (lenR r : Int) ≤ (l.rs - 1) * 59) :
    ACalls (E0 X) 121 [.ptr 0 0, recA r] (rpH l slot seq s t) (fun q H' => q = .tup [.int .i64 (s.length : Int), .int .i64 (lenR r : Int), .int .i64 0] ∧ H' = rpM l slot seq (s ++ encR l.ver seq s.length r) t) := by
  have hok := rec_ok hc
  have hck := fun X => rcheck_r X l.ver r
  have hen := fun X => rrenc_c X l.ver seq s.length r hc hq (by omega)
  have hel := encR_len l.ver seq s.length r
  generalize encR l.ver seq s.length r = eb at *
  rw [hc] at hck
  have hle := fun X => rlength_c X r (by have := hok.keyle; omega) (by have := hok.val; omega)
  have hca := fun X => rcap_c X l (by omega)
  have hlr : lenR r ≤ 70000 := by have := hok.keyle; have := hok.val; unfold lenR; omega
  generalize lenR r = L at *
  subst hel
  have hem : (eb.map u8A).length = eb.length := List.length_map _
  have hw : IntKind.i64.wrap ((l.rs - 1) * 59 - (s.length : Int)) = (l.rs - 1) * 59 - (s.length : Int) := wrap_in (by omega) (by omega)
  have hl2 : ¬ (l.rs - 1) * 59 - (s.length : Int) < (eb.length : Int) := by omega
  show ACalls (E0 X) _ [.ptr 0 0, .agg [.int .i64 r.kind, .sl 1 (r.key.map u8A), .sl 1 (r.val.map u8A), .int .i64 r.exp]] [some (.cells [.int .i64 l.id, .int .i64 l.ver, .int .i64 l.rs, .int .i64 l.regs, .int .i64 slot, .int .i64 (seq : Int), .own 1 0 s.length, .int .i64 (t : Int)] 176), some (.arr (s.map u8A) 5)] _
  refine acalls_of Proofs.Tryd.func121 rfl Proofs.Tryd.ntmps121 (by kernel_rfl) rfl ?_
  intro hH hargs
  clear hH hargs
  repeat' (first | ((refine Qa rfl ?_); (first | refine Q1 ?_ | refine QK rfl ?_); (refine QX rfl rfl ?_)) | refine Qh ?_ | refine Ql ?_ | refine Qo rfl ?_)
  refine awp_pre (Imp.trans (imp_freezeP (id := 2) (cs := [.int .i64 r.kind, .sl 1 (r.key.map u8A), .sl 1 (r.val.map u8A), .int .i64 r.exp]) rfl) (imp_cutk 2 (Nat.le_refl _) (hok_rp l slot seq s t) rfl (by simp) (sl' := [(0, .ptr 0 0), (3, .fp [.int .i64 r.kind, .sl 1 (r.key.map u8A), .sl 1 (r.val.map u8A), .int .i64 r.exp])]) ?_)) ?_
  · repeat' (first | exact fa_nil | refine fa_cons ⟨?_, ?_⟩ ?_)
    all_goals (try first | exact rfl | exact trivial | (simp [IdsLt, IdsLtL]; done) | (simp [get_cons]; done) | (simp [get_cons, *]; done) | (refine congrArg (AV.int .i64) (wrap_eq ?_ ?_ ?_) <;> (first | omega | (simp; omega))))
  show AWp _ _ _ _ _ ⟨_, [some (.cells [.int .i64 l.id, .int .i64 l.ver, .int .i64 l.rs, .int .i64 l.regs, .int .i64 slot, .int .i64 (seq : Int), .own 1 0 s.length, .int .i64 (t : Int)] 176), some (.arr (s.map u8A) 5)]⟩
  refine awp_region_auto2 [] [] (by exact rfl) (by kernel_rfl) ?_
  repeat' ((apply Qd rfl rfl rfl rfl); (first | refine Q0 ?_ | refine Q3 rfl rfl rfl ?_ | refine Q4 rfl rfl rfl rfl rfl ?_ | refine Q6 rfl ?_); (exact QX rfl rfl ⟨rfl, rfl⟩))
  apply ds rfl rfl rfl rfl
  · refine st_call (fun _ => rfl) rfl ?_
    refine ACalls.mono (acalls_pure (E := E0 X) hck (by simp [IdsLtL, IdsLt]) _) ?_
    rintro r H' ⟨rfl, rfl⟩
    first
    | exact nx rfl rfl ⟨rfl, rfl⟩
    | exact nx0 ⟨rfl, rfl⟩
  repeat' (first | ((first | refine Qa rfl ?_ | apply Qd rfl rfl rfl rfl); (first | refine Q0 ?_ | refine Q1 ?_ | refine Q2 rfl ?_); (first | exact QX rfl rfl ⟨rfl, rfl⟩ | refine QX rfl rfl ?_)) | refine Qh ?_ | refine Qk ?_ | refine Ql ?_ | refine Qm ?_ | refine Qo rfl ?_ | refine Qq rfl ?_)
  refine awp_region_auto2 [] [] (by exact rfl) (by kernel_rfl) ?_
  repeat' ((apply Qd rfl rfl rfl rfl); (refine Q3 rfl rfl rfl ?_); (exact QX rfl rfl ⟨rfl, rfl⟩))
  apply ds rfl rfl rfl rfl
  · refine st_call (fun _ => rfl) rfl ?_
    refine ACalls.mono (acalls_pure (E := E0 X) hle (by simp [IdsLtL]) _) ?_
    rintro r H' ⟨rfl, rfl⟩
    first
    | exact nx rfl rfl ⟨rfl, rfl⟩
    | exact nx0 ⟨rfl, rfl⟩
  repeat' (first | ((first | refine Qa rfl ?_ | apply Qd rfl rfl rfl rfl); (first | refine Q0 ?_ | refine Q1 ?_ | refine Q3 rfl rfl rfl ?_ | refine Q4 rfl rfl rfl rfl rfl ?_ | refine Q6 rfl ?_ | refine Q7 rfl rfl rfl ?_); (first | exact QX rfl rfl ⟨rfl, rfl⟩ | refine QX rfl rfl ?_)) | refine Qa rfl ?_ | refine Qk ?_ | refine Ql ?_ | refine Qo rfl ?_)
  refine st_call (fun _ => rfl) rfl ?_
  refine ACalls.mono (acalls_pure (E := E0 X) (fun X => hca X) (by simp [IdsLtL]) _) ?_
  rintro r H' ⟨rfl, rfl⟩
  first | refine nx rfl rfl ?_ | refine nx0 ?_
  repeat' (first | ((refine Qa rfl ?_); (first | refine Q0 ?_ | refine Q2 rfl ?_); (refine QX rfl rfl ?_)) | refine Qh ?_ | refine Qs ?_)
  rw [hw, decide_eq_false hl2]
  repeat' (first | refine Ql ?_ | refine Qm ?_ | refine Qq rfl ?_)
  refine awp_region_any [17, 20] [0, 1, 2, 3, 5, 6, 7, 8, 10, 11, 12, 14, 18, 19] (by exact rfl) ?_
  refine any_lin (fuel := 0) [0, 1, 2, 3, 4, 5, 6, 7, 8, 9, 10, 11, 12, 13, 14, 15, 16, 17, 18, 19, 20] (by exact rfl) (by kernel_rfl) (by kernel_rfl) ?_
  repeat' ((first | apply Qd rfl rfl rfl rfl | (apply Qe rfl rfl rfl rfl; intro H9)); (first | refine Q0 ?_ | refine Q3 rfl rfl rfl ?_ | refine Q4 rfl rfl rfl rfl rfl ?_ | refine Q6 rfl ?_); (first | exact QX rfl rfl ⟨rfl, rfl⟩ | exact QY rfl ⟨rfl, rfl⟩))
  apply ds rfl rfl rfl rfl
  · refine st_call (fun _ => rfl) rfl ?_
    refine ACalls.mono (acalls_pure (E := E0 X) hen (by simp [IdsLtL, IdsLt]) _) ?_
    rintro r H' ⟨rfl, rfl⟩
    first
    | exact nx rfl rfl ⟨rfl, rfl⟩
    | exact nx0 ⟨rfl, rfl⟩
  refine ds_ef rfl rfl rfl ?_
  refine st_app (oid := some 1) (es := s.map u8A) (out := (s ++ eb).map u8A) (n := s.length + eb.length) (dst_own rfl (List.length_map _).symm) (rfl) (oneEs_u8 _) (by rw [List.map_append]) (by rw [List.length_map, List.length_map]) (by show _ ≤ 9223372036854775807; omega) (by show _ * 1 ≤ _; omega) rfl rfl rfl rfl rfl rfl rfl rfl ?_
  first | refine nx rfl rfl ?_ | refine nx0 ?_
  repeat' (first | ((first | refine Qa rfl ?_ | (apply Qe rfl rfl rfl rfl; intro H9)); (first | refine Q0 ?_ | refine Q1 ?_ | refine Q4 rfl rfl rfl rfl rfl ?_ | refine Q6 rfl ?_); (first | exact QY rfl ⟨rfl, rfl⟩ | refine QX rfl rfl ?_)) | refine Qh ?_ | (refine Qf rfl rfl rfl ?_; refine QS rfl rfl rfl rfl rfl rfl rfl ?_; (refine QX rfl rfl ?_)) | refine Qk ?_ | refine Ql ?_ | refine Qo rfl ?_ | refine Qs ?_ | refine Qw (by kernel_rfl) ?_)
  have hsl : s.length + eb.length = (s ++ eb).length := (List.length_append).symm
  rw [hsl]
  refine awp_pre (imp_cutk 3 (by simp) (hok_rpm l slot seq (s ++ eb) t) rfl (by simp) (sl' := [(4, .int .i64 (s.length : Int)), (5, .int .i64 (eb.length : Int)), (6, .int .i64 0)]) ?_) ?_
  · repeat' (first | exact fa_nil | refine fa_cons ⟨?_, ?_⟩ ?_)
    all_goals (try first | exact rfl | exact trivial | (simp [IdsLt, IdsLtL]; done) | (simp [get_cons]; done) | (simp [get_cons, *]; done) | (refine congrArg (AV.int .i64) (wrap_eq ?_ ?_ ?_) <;> (first | omega | (simp; omega))))
  refine awp_ret ?_
  exact ⟨_, rfl, rfl, rfl⟩
set_option maxHeartbeats 0 in
set_option maxRecDepth 100000 in
theorem rpad_c (X : Nat → Prop) (l : La) (slot seq : Int) (s : List UInt8) (t : Nat) (hs : s.length ≤ 1000000) :
    ACalls (E0 X) 123 [.ptr 0 0] (rpH l slot seq s t) (fun q H' => q = .tup [] ∧ H' = rpM l slot seq (padS s) t) := by
  rw [← padI_all]
  show ACalls (E0 X) _ [.ptr 0 0] [some (.cells [.int .i64 l.id, .int .i64 l.ver, .int .i64 l.rs, .int .i64 l.regs, .int .i64 slot, .int .i64 seq, .own 1 0 s.length, .int .i64 (t : Int)] 176), some (.arr (s.map u8A) 5)] _
  refine acalls_of Proofs.Tryd.func123 rfl Proofs.Tryd.ntmps123 (by kernel_rfl) rfl ?_
  intro hH hargs
  clear hH hargs
  repeat' (refine Qn ?_)
  refine awp_loop2 (fun i : Nat => ⟨[(0, .ptr 0 0)], rpM l slot seq (padI s i) t⟩) (fun i => i ≤ (59 - s.length % 59) % 59) (fun i => (59 - s.length % 59) % 59 - i) 0 (Nat.zero_le _) ?_ ?_
  · refine imp_tg [some (rpC l slot seq (padI s 0).length t 2), none] [1] [arB (padI s 0)] (Nat.le_refl _) (Nat.le_refl _) (by simp) (by simp) rfl rfl ⟨⟨_, rfl, ?_⟩, trivial⟩ ?_ ?_
    · rw [show padI s 0 = s by simp [padI]]
      refine renO_cells ?_
      repeat' (first
        | exact fa_nil
        | exact os_nil
        | exact RenL.nil
        | refine fa_cons ?_ ?_
        | refine RenL.cons ?_ ?_
        | exact ren_own rfl
        | exact ren_ptr rfl
        | exact ren_mp rfl
        | exact ren_cl rfl (by first | trivial | (simp [IdsLt, IdsLtL]; done)))
    · repeat' (first
        | exact fa_nil
        | exact os_nil
        | exact RenL.nil
        | refine fa_cons ?_ ?_
        | refine RenL.cons ?_ ?_
        | exact ren_own rfl
        | exact ren_ptr rfl
        | exact ren_mp rfl
        | exact ren_cl rfl (by first | trivial | (simp [IdsLt, IdsLtL]; done)))
    · rw [show padI s 0 = s by simp [padI]]
      exact os_cons rfl (renO_arB s) os_nil
  rintro i hi
  have hil := padI_len s i
  have hsu := padI_succ s i
  have hi' : i ≤ (59 - s.length % 59) % 59 := hi
  have hil2 := padI_len s (i + 1)
  have hpl : (padI s i).length ≤ 1000058 := by omega
  show AWp _ _ _ _ _ ⟨[(0, .ptr 0 0)], [some (.cells [.int .i64 l.id, .int .i64 l.ver, .int .i64 l.rs, .int .i64 l.regs, .int .i64 slot, .int .i64 seq, .own 2 0 (padI s i).length, .int .i64 (t : Int)] 176), none, some (.arr ((padI s i).map u8A) 5)]⟩
  repeat' (first | ((refine Qa rfl ?_); (first | refine Q0 ?_ | refine Q2 rfl ?_ | refine Q3 rfl rfl rfl ?_ | refine Q4 rfl rfl rfl rfl rfl ?_ | refine Q6 rfl ?_ | refine Q7 rfl rfl rfl ?_ | refine QB rfl rfl (by decide) ?_); (refine QX rfl rfl ?_)) | refine Qh ?_ | refine Ql ?_ | refine Qo rfl ?_ | refine Qs ?_)
  rw [show Int.tmod ((padI s i).length : Int) 59 = (((padI s i).length % 59 : Nat) : Int) from rfl]
  by_cases hz : (padI s i).length % 59 = 0
  · rw [hz]
    have hii : i = (59 - s.length % 59) % 59 := by omega
    rw [decide_eq_false (show ¬ ¬ ((0 : Nat) : Int) = 0 from fun h => h rfl)]
    repeat' (first | refine Qq rfl ?_ | refine Qr ?_ | refine Qt ?_ | refine Qv ?_)
    refine ⟨_, rfl, rfl, ?_⟩
    rw [← hii]; rfl
  · have hlt : i < (59 - s.length % 59) % 59 := by omega
    rw [decide_eq_true (show ¬ (((padI s i).length % 59 : Nat) : Int) = 0 by omega)]
    repeat' (first | ((refine Qa rfl ?_); (first | refine Q0 ?_ | refine Q3 rfl rfl rfl ?_ | refine Q4 rfl rfl rfl rfl rfl ?_ | refine Q6 rfl ?_ | refine QR rfl rfl rfl rfl rfl rfl rfl rfl rfl rfl rfl rfl ?_); (refine QX rfl rfl ?_)) | refine Qa rfl ?_ | refine Qm ?_ | refine Qn ?_ | refine Qo rfl ?_ | refine Qp rfl ?_)
    refine st_app (oid := some 2) (es := (padI s i).map u8A) (out := (padI s (i + 1)).map u8A) (n := (padI s i).length + 1) (dst_own rfl (List.length_map _).symm) (rfl) (oneEs_u8 [0]) (by rw [hsu, List.map_append]; rfl) (by rw [List.length_map]; rfl) (by show _ ≤ 9223372036854775807; omega) (by show _ * 1 ≤ _; omega) rfl rfl rfl rfl rfl rfl rfl rfl ?_
    first | refine nx rfl rfl ?_ | refine nx0 ?_
    repeat' (first | ((refine Qa rfl ?_); (first | refine Q4 rfl rfl rfl rfl rfl ?_ | refine Q6 rfl ?_); (refine QX rfl rfl ?_)) | (refine Qb rfl ?_; try (refine QS rfl rfl rfl rfl rfl rfl rfl ?_; (refine QX rfl rfl ?_))) | refine Qh ?_ | refine Qs ?_ | refine Qu ?_)
    refine ⟨i + 1, hlt, by omega, ?_⟩
    rw [show (padI s i).length + 1 = (padI s (i + 1)).length by omega]
    refine imp_tg [some (rpC l slot seq (padI s (i + 1)).length t 2), none] [3] [arB (padI s (i + 1))] (Nat.le_refl _) (by simp) (by simp) (by simp) rfl rfl ⟨⟨_, rfl, ?_⟩, trivial⟩ ?_ ?_
    · refine renO_cells ?_
      repeat' (first
        | exact fa_nil
        | exact os_nil
        | exact RenL.nil
        | refine fa_cons ?_ ?_
        | refine RenL.cons ?_ ?_
        | exact ren_own rfl
        | exact ren_ptr rfl
        | exact ren_mp rfl
        | exact ren_cl rfl (by first | trivial | (simp [IdsLt, IdsLtL]; done)))
    · repeat' (first
        | exact fa_nil
        | exact os_nil
        | exact RenL.nil
        | refine fa_cons ?_ ?_
        | refine RenL.cons ?_ ?_
        | exact ren_own rfl
        | exact ren_ptr rfl
        | exact ren_mp rfl
        | exact ren_cl rfl (by first | trivial | (simp [IdsLt, IdsLtL]; done)))
    · exact os_cons rfl (renO_arB _) os_nil
theorem hok_rtk (l : La) (slot seq : Int) (s : List UInt8) (t : Nat) (a : List Int) (b : List (List UInt8)) : HOk 4 (rpH l slot seq s t ++ [some (.arr (a.map iA) 3), some (.arr (b.map sl8A) 38)]) := fun j o ho => by
  match j, ho with
  | 0, ho => cases ho; exact ⟨trivial, trivial, trivial, trivial, trivial, trivial, by simp [IdsLt], trivial, trivial⟩
  | 1, ho => cases ho; exact idsL_map fun _ => u8A_ids
  | 2, ho => cases ho; exact ids_i _
  | 3, ho => cases ho; exact ids_sl8 _
set_option maxHeartbeats 0 in
set_option maxRecDepth 100000 in
theorem rtake_c (X : Nat → Prop) (l : La) (slot : Int) (F seq : Nat) (s : List UInt8) (t n : Nat) (hq : seq < 9223372036854775808) (hF : F + s.length ≤ 1000000) (hn : t + n = s.length / 59) (hsl0 : IntKind.i64.wrap (74 + IntKind.i64.wrap (slot * l.rs)) = (F : Int)) :
    ACalls (E0 X) 152 [.ptr 0 0] (rpH l slot seq s t) (fun q H' => q = .tup [.sl 1 ((tkS F t n).map iA), .sl 1 ((tkF F seq s t n).map sl8A)] ∧ H' = rpH l slot seq s (t + n)) := by
  show ACalls (E0 X) _ [.ptr 0 0] [some (.cells [.int .i64 l.id, .int .i64 l.ver, .int .i64 l.rs, .int .i64 l.regs, .int .i64 slot, .int .i64 (seq : Int), .own 1 0 s.length, .int .i64 (t : Int)] 176), some (.arr (s.map u8A) 5)] _
  refine acalls_of Proofs.Tryd.func152 rfl Proofs.Tryd.ntmps152 (by kernel_rfl) rfl ?_
  intro hH hargs
  clear hH hargs
  repeat' (first | ((refine Qa rfl ?_); (refine Q1 ?_); (refine QX rfl rfl ?_)) | refine Qh ?_ | refine Ql ?_ | refine Qn ?_ | refine Qo rfl ?_)
  refine awp_loop2 (fun i : Nat => ⟨[(0, .ptr 0 0), (4, .own 2 0 i), (5, .own 3 0 i)], rpH l slot seq s (t + i) ++ [some (.arr ((tkS F t i).map iA) 3), some (.arr ((tkF F seq s t i).map sl8A) 38)]⟩) (fun i => i ≤ n) (fun i => n - i) 0 (Nat.zero_le _) ?_ ?_
  · refine Imp.trans (imp_nil 4 3 rfl) (Imp.trans (imp_nil 5 38 rfl) (imp_cutk 4 (by simp) (hok_rtk l slot seq s t [] []) rfl (by simp) ?_))
    repeat' (first | exact fa_nil | refine fa_cons ⟨?_, ?_⟩ ?_)
    all_goals (try first | exact rfl | exact trivial | (simp [IdsLt]; done) | (simp [get_cons]; done) | (simp [get_cons, *]; done) | (refine congrArg (AV.int .i64) (wrap_eq ?_ ?_ ?_) <;> (first | omega | (simp; omega))))
  rintro i hi
  have hi' : i ≤ n := hi
  have hsl := tkS_len F t i
  have hfl := tkF_len F seq s t i
  have hss := tkS_succ F t i
  have hfs := tkF_succ F seq s t i
  have w1 : IntKind.i64.wrap (IntKind.i64.wrap (((t + i : Nat) : Int) + 1) * 59) = (((t + i + 1) * 59 : Nat) : Int) := by
    rw [show IntKind.i64.wrap (((t + i : Nat) : Int) + 1) = ((t + i + 1 : Nat) : Int) from wrap_eq (by omega) (by omega) (by omega)]
    exact wrap_eq (by omega) (by omega) (by omega)
  have w2 : IntKind.i64.wrap (IntKind.i64.wrap (IntKind.i64.wrap (74 + IntKind.i64.wrap (slot * l.rs)) + 1) + ((t + i : Nat) : Int)) = ((F + 1 + (t + i) : Nat) : Int) := by
    rw [hsl0, show IntKind.i64.wrap ((F : Int) + 1) = ((F + 1 : Nat) : Int) from wrap_eq (by omega) (by omega) (by omega)]
    exact wrap_eq (by omega) (by omega) (by omega)
  have w3 : IntKind.i64.wrap (((t + i : Nat) : Int) * 59) = (((t + i) * 59 : Nat) : Int) := wrap_eq (by omega) (by omega) (by omega)
  have w4 : IntKind.i64.wrap (((t + i : Nat) : Int) + 1) = ((t + (i + 1) : Nat) : Int) := wrap_eq (by omega) (by omega) (by omega)
  show AWp _ _ _ _ _ ⟨[(0, .ptr 0 0), (4, .own 2 0 i), (5, .own 3 0 i)], [some (.cells [.int .i64 l.id, .int .i64 l.ver, .int .i64 l.rs, .int .i64 l.regs, .int .i64 slot, .int .i64 (seq : Int), .own 1 0 s.length, .int .i64 ((t + i : Nat) : Int)] 176), some (.arr (s.map u8A) 5), some (.arr ((tkS F t i).map iA) 3), some (.arr ((tkF F seq s t i).map sl8A) 38)]⟩
  have hfr : frN F seq s (t + i) = encF 2 seq (F + 1 + (t + i)) ((s.drop ((t + i) * 59)).take 59) := rfl
  have hSb : F + 1 + (t + i) < 1048576 := by omega
  repeat' (refine Ql ?_)
  refine awp_region_auto2 [] [] (by exact rfl) (by kernel_rfl) ?_
  repeat' (first | ((apply Qd rfl rfl rfl rfl); (first | refine Q0 ?_ | refine Q2 rfl ?_ | refine Q3 rfl rfl rfl ?_ | refine Q4 rfl rfl rfl rfl rfl ?_ | refine Q6 rfl ?_ | refine Q7 rfl rfl rfl ?_); (exact QX rfl rfl ⟨rfl, rfl⟩)) | refine Qk ?_ | refine Qs ?_)
  rw [w1]
  by_cases hlt : i < n
  · have hi9 : i + 1 ≤ 1000000 := by omega
    have hmu : n - (i + 1) < n - i := by omega
    have hle : (t + i + 1) * 59 ≤ s.length := by omega
    rw [decide_eq_true (show (((t + i + 1) * 59 : Nat) : Int) ≤ (s.length : Int) by omega)]
    have hpl : ((s.drop ((t + i) * 59)).take 59).length = 59 := by simp; omega
    generalize hp : (s.drop ((t + i) * 59)).take 59 = p at *
    have hel : (encF 2 seq (F + 1 + (t + i)) p).length = 64 := encF_len (by omega)
    have hen := fun X H x (hH : HOk H.length H) hx => ACalls.froz (E := E0 X) 1 (rfenc_at X H x 2 seq (F + 1 + (t + i)) p hq hSb (by omega) hx) (by rw [List.length_map, hel]) rfl rfl hH (idsL_map fun _ => u8A_ids)
    rw [← hfr] at hen hel
    generalize frN F seq s (t + i) = fr at *
    have hB1 := hok_rtk l slot seq s (t + i) (tkS F t (i + 1)) (tkF F seq s t i)
    generalize hA : tkS F t (i + 1) = A2 at *
    generalize hB : tkF F seq s t (i + 1) = B2 at *
    generalize hA0 : tkS F t i = A1 at *
    generalize hB0 : tkF F seq s t i = B1 at *
    generalize hS : F + 1 + (t + i) = S at *
    have hS2 : F + 1 + t + i = S := by omega
    rw [hS2] at hss
    repeat' (first | refine Ql ?_ | refine Qm ?_ | refine Qn ?_ | refine Qp rfl ?_)
    refine awp_region_auto2 [] [] (by exact rfl) (by kernel_rfl) ?_
    repeat' (first | ((first | refine Qa rfl ?_ | apply Qd rfl rfl rfl rfl); (first | refine Q0 ?_ | refine Q1 ?_ | refine Q2 rfl ?_ | refine Q3 rfl rfl rfl ?_ | refine Q4 rfl rfl rfl rfl rfl ?_ | refine Q6 rfl ?_ | refine QR rfl rfl rfl rfl rfl rfl rfl rfl rfl rfl rfl rfl ?_); (first | exact QX rfl rfl ⟨rfl, rfl⟩ | refine QX rfl rfl ?_)) | refine Qa rfl ?_ | refine Qk ?_ | refine Ql ?_ | refine Qo rfl ?_)
    rw [w2]
    refine st_app (oid := some 2) (es := (A1).map iA) (out := (A2).map iA) (n := i + 1) (dst_own rfl (by rw [List.length_map, hsl])) (rfl) (oneEs_i [(S : Int)]) (by rw [hss, List.map_append]; rfl) (by rw [List.length_map, hsl]; rfl) (by show _ ≤ 9223372036854775807; omega) (by show _ * 8 ≤ _; omega) rfl rfl rfl rfl rfl rfl rfl rfl ?_
    first | refine nx rfl rfl ?_ | refine nx0 ?_
    repeat' (first | ((refine Qa rfl ?_); (refine Q1 ?_); (refine QX rfl rfl ?_)) | refine Qh ?_ | refine Qs ?_)
    refine awp_pre (imp_tid 2 [4, 3] (sl' := [(0, .ptr 0 0), (4, .own 2 0 (i + 1)), (5, .own 3 0 i), (6, .int .i64 (S : Int))]) (H' := rpH l slot seq s (t + i) ++ [some (.arr (A2.map iA) 3), some (.arr (B1.map sl8A) 38)]) (os := [.arr (A2.map iA) 3, .arr (B1.map sl8A) 38]) (Nat.le_refl _) ?_ ?_ ?_ ?_ rfl ?_ ?_ ?_) ?_
    · simp
    · simp
    · simp
    · exact hok_rp l slot seq s (t + i)
    · rfl
    · exact fa_cons (ren_lt rfl (by simp [IdsLt])) (fa_cons (ren_own rfl) (fa_cons (ren_own rfl) (fa_cons (ren_lt rfl trivial) fa_nil)))
    · exact os_cons rfl (renO_old 2 gcF_lt (ids_i _)) (os_cons rfl (renO_old 2 gcF_lt (ids_sl8 _)) os_nil)
    show AWp _ _ _ _ _ ⟨[(0, .ptr 0 0), (4, .own 2 0 (i + 1)), (5, .own 3 0 i), (6, .int .i64 (S : Int))], [some (.cells [.int .i64 l.id, .int .i64 l.ver, .int .i64 l.rs, .int .i64 l.regs, .int .i64 slot, .int .i64 (seq : Int), .own 1 0 s.length, .int .i64 ((t + i : Nat) : Int)] 176), some (.arr (s.map u8A) 5), some (.arr (A2.map iA) 3), some (.arr (B1.map sl8A) 38)]⟩
    refine awp_region_any [22, 23, 24] [0, 1, 2, 3, 5, 6, 7, 8, 10, 11, 12, 14, 15, 16, 17, 19, 20, 25] (by exact rfl) ?_
    refine any_lin (fuel := 0) [0, 1, 2, 3, 4, 5, 6, 7, 8, 9, 10, 11, 12, 13, 14, 15, 16, 17, 18, 19, 20, 21, 22, 23, 24, 25] (by exact rfl) (by kernel_rfl) (by kernel_rfl) ?_
    repeat' ((first | apply Qd rfl rfl rfl rfl | (apply Qe rfl rfl rfl rfl; intro H9)); (first | refine Q0 ?_ | refine Q2 rfl ?_ | refine Q3 rfl rfl rfl ?_ | refine Q4 rfl rfl rfl rfl rfl ?_ | refine Q6 rfl ?_); (first | exact QX rfl rfl ⟨rfl, rfl⟩ | exact QY rfl ⟨rfl, rfl⟩))
    apply ds rfl rfl rfl rfl
    · refine st_slo (l := (t + i) * 59) (h := (t + i + 1) * 59) (lo' := (t + i) * 59) (n' := 59) (bnd_some rfl w3) (bnd_some rfl w1) (by omega) (by first | omega | (simp; omega)) (by omega) (by omega) rfl rfl rfl rfl rfl rfl rfl ?_
      first
      | exact nx rfl rfl ⟨rfl, rfl⟩
      | exact nx0 ⟨rfl, rfl⟩
    refine ds_ef rfl rfl rfl ?_
    refine st_call (fun _ => rfl) rfl ?_
    refine ACalls.mono (hen X _ _ (by exact hB1) (src_ownm' rfl rfl rfl (by omega) (by rw [hp]))) ?_
    rintro r H' ⟨rfl, rfl⟩
    first | refine nx rfl rfl ?_ | refine nx0 ?_
    repeat' ((refine Qc rfl rfl rfl ?_); (refine QR rfl rfl rfl rfl rfl rfl rfl rfl rfl rfl rfl rfl ?_); (refine QX rfl rfl ?_))
    refine ds_ef rfl rfl rfl ?_
    refine st_app (oid := some 3) (es := (B1).map sl8A) (out := (B2).map sl8A) (n := i + 1) (new := [fr].map sl8A) (dst_own rfl (by rw [List.length_map, hfl])) rfl (oneEs_sl8 [fr]) (by rw [hfs, List.map_append]) (by rw [List.length_map, hfl]; rfl) (Nat.le_trans hi9 (by decide)) (Nat.le_trans (Nat.mul_le_mul_right 24 hi9) (by decide)) rfl rfl rfl rfl rfl rfl rfl rfl ?_
    first | refine nx rfl rfl ?_ | refine nx0 ?_
    repeat' (first | ((first | refine Qa rfl ?_ | (apply Qe rfl rfl rfl rfl; intro H9)); (first | refine Q0 ?_ | refine Q1 ?_ | refine Q2 rfl ?_ | refine Q3 rfl rfl rfl ?_ | refine Q4 rfl rfl rfl rfl rfl ?_ | refine Q6 rfl ?_); (first | exact QY rfl ⟨rfl, rfl⟩ | refine QX rfl rfl ?_)) | (refine Qb rfl ?_; try (refine QS rfl rfl rfl rfl rfl rfl rfl ?_; (refine QX rfl rfl ?_))) | refine Qh ?_ | refine Qk ?_ | refine Qo rfl ?_ | refine Qs ?_ | refine Qw (by kernel_rfl) ?_)
    rw [w4]
    refine ⟨i + 1, hlt, hmu, ?_⟩
    show Imp _ _ _ _ ⟨[(0, .ptr 0 0), (4, .own 2 0 (i + 1)), (5, .own 3 0 (i + 1))], rpH l slot seq s (t + (i + 1)) ++ [some (.arr ((tkS F t (i + 1)).map iA) 3), some (.arr ((tkF F seq s t (i + 1)).map sl8A) 38)]⟩
    rw [hA, hB]
    refine imp_tid 2 [2, 4] (H' := rpH l slot seq s (t + (i + 1)) ++ [some (.arr ((A2).map iA) 3), some (.arr ((B2).map sl8A) 38)]) (os := [.arr ((A2).map iA) 3, .arr ((B2).map sl8A) 38]) (Nat.le_refl _) ?_ ?_ ?_ ?_ rfl ?_ ?_ ?_
    · simp
    · simp
    · simp
    · exact hok_rp l slot seq s (t + (i + 1))
    · rfl
    · exact fa_cons (ren_lt rfl (by simp [IdsLt])) (fa_cons (ren_own rfl) (fa_cons (ren_own rfl) fa_nil))
    · exact os_cons rfl (renO_old 2 gcF_lt (ids_i _)) (os_cons rfl (renO_old 2 gcF_lt (ids_sl8 _)) os_nil)
  · have hii : i = n := by omega
    subst hii
    rw [decide_eq_false (show ¬ (((t + i + 1) * 59 : Nat) : Int) ≤ (s.length : Int) by omega)]
    repeat' (first | ((refine Qa rfl ?_); (first | refine Q0 ?_ | refine Q1 ?_); (refine QX rfl rfl ?_)) | refine Qh ?_ | refine Ql ?_ | refine Qo rfl ?_ | refine Qq rfl ?_ | refine Qr ?_ | refine Qs ?_)
    refine awp_pre (Imp.trans (imp_freeze (id := 3) (k := 1) (es := (tkF F seq s t i).map sl8A) (e := 38) rfl rfl rfl) (Imp.trans (imp_freeze (id := 2) (k := 1) (es := (tkS F t i).map iA) (e := 3) rfl rfl rfl) (imp_cutk 2 (Nat.le_refl _) (hok_rp l slot seq s (t + i)) rfl (by simp) (sl' := [(2, .sl 1 ((tkS F t i).map iA)), (3, .sl 1 ((tkF F seq s t i).map sl8A))]) ?_))) ?_
    · refine fa_cons ⟨?_, ids_i _⟩ (fa_cons ⟨?_, ids_sl8 _⟩ fa_nil)
      · show frz 2 1 ((tkS F t i).map iA) (frz 3 1 ((tkF F seq s t i).map sl8A) (.own 2 0 i)) = _
        simp [frz, hsl, List.take_of_length_le]
      · show frz 2 1 ((tkS F t i).map iA) (frz 3 1 ((tkF F seq s t i).map sl8A) (.own 3 0 i)) = _
        simp [frz, hfl, List.take_of_length_le]
    refine awp_ret ?_
    exact ⟨_, rfl, rfl, rfl⟩
end Go.Abs
namespace Go.Abs
/-- A living device of the reference, of L bytes. -/
structure Lr (L : Nat) (r : Rd) : Prop where
  new : r.new.length = L
  old : r.old.length = L
  dirt : r.dirt.length * 64 = L
  has : r.has = false
  gone : r.gone = false
  le : L ≤ 67108864
def Rd.wr (r : Rd) (k : Nat) (b : List UInt8) : Rd := r.burn.put k b
def Rd.bar (r : Rd) : Rd := { r.burn with old := r.burn.new, dirt := List.replicate r.burn.dirt.length false }
theorem Lr.dies {L : Nat} {r : Rd} (h : Lr L r) : r.dies = false := by simp [Rd.dies, h.has]
theorem Lr.burn {L : Nat} {r : Rd} (h : Lr L r) : r.burn = { r with left := IntKind.i64.wrap (r.left - 1) } := by simp [Rd.burn, h.dies]
theorem fill_putI {img b : List UInt8} {k : Nat} (hb : b.length = 64) : fillN img b k 64 = putI img k b := by
  have e : padB b = b := by simp [padB, hb]
  unfold fillN putI
  rw [e, List.take_of_length_le (show b.length ≤ 64 by omega)]
theorem Lr.write {L k : Nat} {r : Rd} (h : Lr L r) (hk : k * 64 + 64 ≤ L) {b : List UInt8} (hb : b.length = 64) : r.write (k : Int) b = (0, r.wr k b) := by
  have hc : r.check (k : Int) = 0 := by
    unfold Rd.check
    rw [h.gone, if_neg (by simp), if_neg (by have := h.dirt; omega)]
  unfold Rd.write
  rw [hc, if_neg (by simp), if_neg (by omega), h.dies, if_neg (by simp), Int.toNat_natCast]
  rfl
theorem Lr.wr_new {L k : Nat} {r : Rd} (h : Lr L r) {b : List UInt8} (hb : b.length = 64) : (r.wr k b).new = putI r.new k b := by
  unfold Rd.wr
  rw [h.burn]
  exact fill_putI hb
theorem Lr.wr {L k : Nat} {r : Rd} (h : Lr L r) (hk : k * 64 + 64 ≤ L) {b : List UInt8} (hb : b.length = 64) : Lr L (r.wr k b) where
  new := by rw [h.wr_new hb, putI_len (by rw [h.new]; exact hk) hb]; exact h.new
  old := by unfold Rd.wr; rw [h.burn]; exact h.old
  dirt := by
    unfold Rd.wr
    rw [h.burn]
    show (r.dirt.set k true).length * 64 = L
    rw [List.length_set]; exact h.dirt
  has := by unfold Rd.wr; rw [h.burn]; exact h.has
  gone := by unfold Rd.wr; rw [h.burn]; exact h.gone
  le := h.le
theorem Lr.barrier {L : Nat} {r : Rd} (h : Lr L r) : r.barrier = (0, r.bar) := by
  unfold Rd.barrier
  rw [h.gone, if_neg (by simp), h.dies, if_neg (by simp)]
  rfl
theorem Lr.bar_new {L : Nat} {r : Rd} (h : Lr L r) : r.bar.new = r.new := by
  unfold Rd.bar
  rw [h.burn]
theorem Lr.bar {L : Nat} {r : Rd} (h : Lr L r) : Lr L r.bar where
  new := by rw [h.bar_new]; exact h.new
  old := by unfold Rd.bar; rw [h.burn]; exact h.new
  dirt := by
    unfold Rd.bar
    rw [h.burn]
    show (List.replicate r.dirt.length false).length * 64 = L
    rw [List.length_replicate]; exact h.dirt
  has := by unfold Rd.bar; rw [h.burn]; exact h.has
  gone := by unfold Rd.bar; rw [h.burn]; exact h.gone
  le := h.le
theorem lr_blank {n : Nat} (hn : n ≤ 1048576) : Lr (n * 64) (Rd.fresh (List.replicate (n * 64) 0)) where
  new := by simp [Rd.fresh]
  old := by simp [Rd.fresh]
  dirt := by simp [Rd.fresh]
  has := rfl
  gone := rfl
  le := by omega
def rdfN (r : Rd) (F seq : Nat) (s : List UInt8) (t : Nat) : Nat → Rd
  | 0 => r
  | i + 1 => (rdfN r F seq s t i).wr (F + 1 + t + i) (frN F seq s (t + i))
theorem Lr.df {L : Nat} {r : Rd} (hv : Lr L r) {F seq : Nat} {s : List UInt8} {t : Nat} : ∀ n, (F + 1 + t + n) * 64 ≤ L → Lr L (rdfN r F seq s t n)
  | 0, _ => hv
  | n + 1, h => (Lr.df hv n (by omega)).wr (by omega) frN_len
theorem RgI.rstep {L : Nat} {h : Hd} {F seq t : Nat} {s : List UInt8} {r : Rd} (n : Nat) (hl : Lr L (rdfN r F seq s t n)) (ih : RgI (rdfN r F seq s t n).new L h F seq s (t + n)) (h1 : (t + n + 1) * 59 ≤ s.length) (h2 : (F + 1 + (t + n)) * 64 + 64 ≤ L) : RgI (rdfN r F seq s t (n + 1)).new L h F seq s (t + (n + 1)) := by
  have e : rdfN r F seq s t (n + 1) = (rdfN r F seq s t n).wr (F + 1 + t + n) (frN F seq s (t + n)) := rfl
  rw [e, hl.wr_new (frN_len (F := F) (seq := seq) (s := s) (t := t + n)), show F + 1 + t + n = F + 1 + (t + n) by omega]
  exact RgI.frame ih h1 h2
theorem RgI.rframes {L : Nat} {h : Hd} {F seq t : Nat} {s : List UInt8} {r : Rd} (hr : Lr L r) (g : RgI r.new L h F seq s t) (n : Nat) (ht : (t + n) * 59 ≤ s.length) (hF : (F + 1 + t + n) * 64 ≤ L) : RgI (rdfN r F seq s t n).new L h F seq s (t + n) := by
  have key : ∀ k, k ≤ n → RgI (rdfN r F seq s t k).new L h F seq s (t + k) := by
    intro k
    induction k with
    | zero => exact fun _ => g
    | succ k ih =>
      intro hk
      have a1 := ih (Nat.le_of_succ_le hk)
      have a2 := hr.df (F := F) (seq := seq) (s := s) (t := t) k (by omega)
      clear ih
      exact RgI.rstep k a2 a1 (by omega) (by omega)
  exact key n (Nat.le_refl _)
def rrC (h : Hd) : AO := .cells [.ptr 0 0, .int .i64 h.ver, .int .i64 h.slot, .int .i64 h.lay, .int .i64 h.seq, .int .i64 h.tail, .int .i64 h.now, .ptr 5 0] 178
def rrH (r : Rd) (h : Hd) (l : La) (s : List UInt8) (t : Nat) : Hp := rdH r ++ [some (rrC h), some (rpC l h.slot h.seq s.length t 6), some (arB s)]
def rrM (r : Rd) (h : Hd) (l : La) (s : List UInt8) (t : Nat) : Hp := rdH r ++ [some (rrC h), some (rpC l h.slot h.seq s.length t 7), none, some (arB s)]
theorem hok_rr (r : Rd) (h : Hd) (l : La) (s : List UInt8) (t : Nat) : HOk 7 (rrH r h l s t) := fun j o ho => by
  match j, ho with
  | 0, ho => cases ho; exact ⟨by simp [IdsLt], by simp [IdsLt], by simp [IdsLt], trivial, trivial, trivial, trivial, trivial⟩
  | 1, ho => cases ho; exact idsL_map fun _ => u8A_ids
  | 2, ho => cases ho; exact idsL_map fun _ => u8A_ids
  | 3, ho => cases ho; exact idsL_map fun _ => boA_ids
  | 4, ho => cases ho; exact ⟨by simp [IdsLt], trivial, trivial, trivial, trivial, trivial, trivial, by simp [IdsLt], trivial⟩
  | 5, ho => cases ho; exact ⟨trivial, trivial, trivial, trivial, trivial, trivial, by simp [IdsLt], trivial, trivial⟩
  | 6, ho => cases ho; exact idsL_map fun _ => u8A_ids
theorem some_rp (l : La) (slot seq : Int) (s : List UInt8) (t : Nat) : ∀ j : Nat, (rpH l slot seq s t)[j]? ≠ some none := fun j => by
  match j with
  | 0 | 1 => simp [rpH]
  | j + 2 => simp [rpH]
theorem some_rr (r : Rd) (h : Hd) (l : La) (s : List UInt8) (t : Nat) : ∀ j : Nat, (rrH r h l s t)[j]? ≠ some none := fun j => by
  match j with
  | 0 | 1 | 2 | 3 | 4 | 5 | 6 => simp [rrH, rdH]
  | j + 7 => simp [rrH, rdH]
theorem mapH_rp (g : Nat → Nat) (l : La) (slot seq : Int) (s : List UInt8) (t k : Nat) (hg : g 1 = k) : mapH g (rpH l slot seq s t) = [some (rpC l slot seq s.length t k), some (arB s)] := by
  simp [mapH, rpH, rpC, arB, rnO, rnL, rnA, hg, rnL_map (f := u8A) (fun _ => rfl)]
/-- A method of the packer, anywhere in a heap. -/
theorem rp_at {X : Nat → Prop} {f : FuncId} {rest : List AV} {r0 : AV} {l : La} {slot seq : Int} {s s' : List UInt8} {t t' : Nat} (hc : ∀ X, ACalls (E0 X) f (.ptr 0 0 :: rest) (rpH l slot seq s t) (fun r H' => r = r0 ∧ H' = rpH l slot seq s' t')) (hrest : IdsLtL 0 rest) (hr : IdsLt 0 r0) (L : Hp) (k : Nat) (hs : L.length = k) :
    ACalls (E0 X) f (.ptr k 0 :: rest) (L ++ [some (rpC l slot seq s.length t (1 + k)), some (arB s)]) (fun r H' => r = r0 ∧ H' = L ++ [some (rpC l slot seq s'.length t' (1 + k)), some (arB s')]) := by
  subst hs
  have e : ∀ s t, mapH (sh L.length ([] : Hp).length 2) (rpH l slot seq s t) = [some (rpC l slot seq s.length t (1 + L.length)), some (arB s)] := fun s t => mapH_rp _ l slot seq s t _ (by simp [sh])
  refine ACalls.conv (ACalls.frameLR (E := E0 X) hc L [] (some_rp l slot seq s t) ⟨by simp [IdsLt, rpH], ids_mono (Nat.zero_le _) hrest⟩ (hok_rp l slot seq s t)) ?_ (by rw [show (rpH l slot seq s t).length = 2 from rfl, e, List.append_nil]) ?_
  · show _ :: rnL _ rest = _
    rw [rnL_closed _ hrest]; simp [rnA, sh, rpH]
  · rintro r H' ⟨r1, h', ⟨rfl, rfl⟩, -, rfl, rfl⟩
    refine ⟨rn_closed _ hr, ?_⟩
    show L ++ mapH (sh L.length ([] : Hp).length 2) (rpH l slot seq s' t') ++ [] ++ [] = _
    rw [e, List.append_nil, List.append_nil]
theorem rp_atM {X : Nat → Prop} {f : FuncId} {rest : List AV} {r0 : AV} {l : La} {slot seq : Int} {s s' : List UInt8} {t t' : Nat} (hc : ∀ X, ACalls (E0 X) f (.ptr 0 0 :: rest) (rpH l slot seq s t) (fun r H' => r = r0 ∧ H' = rpM l slot seq s' t')) (hrest : IdsLtL 0 rest) (hr : IdsLt 0 r0) (L : Hp) (k : Nat) (hs : L.length = k) :
    ACalls (E0 X) f (.ptr k 0 :: rest) (L ++ [some (rpC l slot seq s.length t (1 + k)), some (arB s)]) (fun r H' => r = r0 ∧ H' = L ++ [some (rpC l slot seq s'.length t' (2 + k)), none, some (arB s')]) := by
  subst hs
  have e : ∀ s t, mapH (sh L.length ([] : Hp).length 2) (rpH l slot seq s t) = [some (rpC l slot seq s.length t (1 + L.length)), some (arB s)] := fun s t => mapH_rp _ l slot seq s t _ (by simp [sh])
  refine ACalls.conv (ACalls.frameLR (E := E0 X) hc L [] (some_rp l slot seq s t) ⟨by simp [IdsLt, rpH], ids_mono (Nat.zero_le _) hrest⟩ (hok_rp l slot seq s t)) ?_ (by rw [show (rpH l slot seq s t).length = 2 from rfl, e, List.append_nil]) ?_
  · show _ :: rnL _ rest = _
    rw [rnL_closed _ hrest]; simp [rnA, sh, rpH]
  · rintro r H' ⟨r1, h', ⟨rfl, rfl⟩, -, rfl, rfl⟩
    refine ⟨rn_closed _ hr, ?_⟩
    show L ++ mapH (sh L.length ([] : Hp).length 2) [some (rpC l slot seq s'.length t' 2), none] ++ [] ++ mapH (sh L.length ([] : Hp).length 2) [some (arB s')] = _
    rw [mapH_ar]
    simp [mapH, rpC, rnO, rnL, rnA, sh]
/-- A method of the device at the head of a heap. -/
theorem rd_l {X : Nat → Prop} {f : FuncId} {rest : List AV} {r0 : AV} {v v' : Rd} (hc : ∀ X, ACalls (E0 X) f (.ptr 0 0 :: rest) (rdH v) (fun r H' => r = r0 ∧ H' = rdH v')) (hrest : IdsLtL 0 rest) (hr : IdsLt 0 r0) (R : Hp) :
    ACalls (E0 X) f (.ptr 0 0 :: rest) (rdH v ++ R) (fun r H' => r = r0 ∧ H' = rdH v' ++ R) := rd_at hc hrest hr [] R 0 rfl
theorem rn_rr (r : Rd) (h : Hd) (l : La) (s : List UInt8) (t : Nat) : mapH (reN [0, 1, 2, 3, 4, 5, 7] 8) (rrH r h l s t) = rdH r ++ [some (rrC h), some (rpC l h.slot h.seq s.length t 7), some (arB s)] := by
  simp [mapH, rrH, rdH, rrC, rpC, arB, rnO, rnL, rnA, reN, rnL_map (f := u8A) (fun _ => rfl), rnL_map (f := boA) (fun _ => rfl)]
attribute [local irreducible] AStep aops AWp Nx awM
set_option maxHeartbeats 0 in
set_option maxRecDepth 100000 in
theorem rropen_c (X : Nat → Prop) (r : Rd) (L : Nat) (hv : Lr L r) (l : La) (h : Hd) (F : Nat) (hb : hdB h = true) (hF : IntKind.i64.wrap (74 + IntKind.i64.wrap (h.slot * l.rs)) = (F : Int)) (hFL : F * 64 + 64 ≤ L) :
    ACalls (E0 X) 74 [.ptr 0 0, laA l, hdA h] (rdH r) (fun q H' => q = .tup [.ptr 4 0, .int .i64 0] ∧ H' = rrH (r.wr F (encH h F)).bar h l [] 0) := by
  have hle := hv.le
  have hen := fun X => rhenc_c X h F hb (by omega)
  have hel := encH_len h F
  have hw := fun R => rd_l (fun X => rwrite_c X r F (encH h F) (by omega) (by rw [hv.dirt, hv.new]) (by rw [hv.new]; omega)) ⟨trivial, idsL_map fun _ => u8A_ids, trivial⟩ trivial R (X := X)
  rw [hv.write (by omega) (by omega)] at hw
  have hv1 := hv.wr (k := F) (by omega) (b := encH h F) (by omega)
  have hba := fun R => rd_l (fun X => rbarrier_c X (r.wr F (encH h F)) (by have := hv1.dirt; omega) (by rw [hv1.old, hv1.new])) trivial trivial R (X := X)
  rw [hv1.barrier] at hba
  generalize encH h F = eh at *
  show ACalls (E0 X) _ [.ptr 0 0, .agg [.int .i64 l.id, .int .i64 l.ver, .int .i64 l.rs, .int .i64 l.regs], .agg [.int .i64 h.ver, .int .i64 h.slot, .int .i64 h.lay, .int .i64 h.seq, .int .i64 h.tail, .int .i64 h.now]] (rdH r) _
  refine acalls_of Proofs.Tryd.func74 rfl Proofs.Tryd.ntmps74 (by kernel_rfl) rfl ?_
  intro hH hargs
  clear hH hargs
  repeat' (first | ((refine Qa rfl ?_); (first | refine Q0 ?_ | refine Q1 ?_ | refine Q2 rfl ?_ | refine Q3 rfl rfl rfl ?_ | refine Q4 rfl rfl rfl rfl rfl ?_ | refine QK rfl ?_); (refine QX rfl rfl ?_)) | refine Qa rfl ?_ | refine Qh ?_ | refine Ql ?_ | refine Qo rfl ?_)
  rw [hF]
  skip
  refine st_call (fun _ => rfl) rfl ?_
  refine ACalls.mono (acalls_pure (E := E0 X) (fun X => hen X) (by simp [IdsLtL, IdsLt]) _) ?_
  rintro r H' ⟨rfl, rfl⟩
  first | refine nx rfl rfl ?_ | refine nx0 ?_
  repeat' (refine Qa rfl ?_)
  refine st_call (fun _ => rfl) rfl ?_
  refine ACalls.mono (hw _) ?_
  rintro r H' ⟨rfl, rfl⟩
  first | refine nx rfl rfl ?_ | refine nx0 ?_
  generalize r.wr F eh = v1 at *
  repeat' (first | ((refine Qa rfl ?_); (first | refine Q0 ?_ | refine Q1 ?_ | refine Q2 rfl ?_); (refine QX rfl rfl ?_)) | refine Qa rfl ?_ | refine Qh ?_ | refine Ql ?_ | refine Qm ?_ | refine Qo rfl ?_ | refine Qq rfl ?_)
  refine st_call (fun _ => rfl) rfl ?_
  refine ACalls.mono (hba _) ?_
  rintro r H' ⟨rfl, rfl⟩
  first | refine nx rfl rfl ?_ | refine nx0 ?_
  generalize v1.bar = v2 at *
  repeat' (first | ((refine Qa rfl ?_); (first | refine Q0 ?_ | refine Q1 ?_ | refine Q2 rfl ?_ | refine Q3 rfl rfl rfl ?_ | refine Q4 rfl rfl rfl rfl rfl ?_ | refine QK rfl ?_ | refine QP rfl rfl rfl rfl rfl rfl ?_); (refine QX rfl rfl ?_)) | refine Qh ?_ | refine Ql ?_ | refine Qm ?_ | refine Qo rfl ?_ | refine Qq rfl ?_ | refine Qs ?_)
  refine awp_pre (Imp.trans (imp_nilC 6 6 5 rfl rfl) (imp_tid 4 [7, 6, 8] (H' := rrH v2 h l [] 0) (sl' := [(6, .ptr 4 0), (7, .int .i64 0)]) (os := [rrC h, rpC l h.slot h.seq 0 0 6, arB []]) (Nat.le_refl _) ?_ ?_ ?_ ?_ rfl ?_ ?_ ?_)) ?_
  · simp
  · simp
  · simp
  · exact hok_rfd v2
  · rfl
  · repeat' (first
      | exact fa_nil
      | exact os_nil
      | exact RenL.nil
      | refine fa_cons ?_ ?_
      | refine os_cons rfl (renO_cells ?_) ?_
      | refine os_cons rfl (renO_old 0 (fun i h => absurd h (Nat.not_lt_zero i)) (by simp [IdsLtO])) ?_
      | refine RenL.cons ?_ ?_
      | exact ren_own rfl
      | exact ren_ptr rfl
      | exact ren_mp rfl
      | exact ren_lt rfl (by first | trivial | (simp [IdsLt, IdsLtL]; done)))
  · repeat' (first
      | exact fa_nil
      | exact os_nil
      | exact RenL.nil
      | refine fa_cons ?_ ?_
      | refine os_cons rfl (renO_cells ?_) ?_
      | refine os_cons rfl (renO_old 0 (fun i h => absurd h (Nat.not_lt_zero i)) (by simp [IdsLtO, IdsLtL])) ?_
      | refine RenL.cons ?_ ?_
      | exact ren_own rfl
      | exact ren_ptr rfl
      | exact ren_mp rfl
      | exact ren_lt rfl (by first | trivial | (simp [IdsLt, IdsLtL]; done)))
  refine awp_ret ?_
  exact ⟨_, rfl, rfl, rfl⟩
set_option maxHeartbeats 0 in
set_option maxRecDepth 100000 in
theorem rrflush_c (X : Nat → Prop) (r : Rd) (L : Nat) (hv : Lr L r) (l : La) (h : Hd) (F seq : Nat) (s : List UInt8) (t n : Nat) (hsq : h.seq = (seq : Int)) (hq : seq < 9223372036854775808) (hF : IntKind.i64.wrap (74 + IntKind.i64.wrap (h.slot * l.rs)) = (F : Int)) (hFs : F + s.length ≤ 1000000) (hn : t + n = s.length / 59) (hFL : (F + 1 + s.length / 59) * 64 ≤ L) :
    ACalls (E0 X) 122 [.ptr 4 0] (rrH r h l s t) (fun q H' => q = .int .i64 0 ∧ H' = rrH (rdfN r F seq s t n) h l s (t + n)) := by
  have htk := fun Lp k hs => rp_at (X := X) (fun X => rtake_c X l h.slot F seq s t n hq hFs hn hF) trivial (by exact ⟨ids_i _, ids_sl8 _, trivial⟩) Lp k hs
  rw [← hsq] at htk
  have hle := hv.le
  have hsl := tkS_len F t n
  have hfl := tkF_len F seq s t n
  have hlv := fun i (hi : i ≤ n) => hv.df (F := F) (seq := seq) (s := s) (t := t) i (by omega)
  have hxs := fun i (hi : i < n) => tkS_get (F := F) (t := t) hi
  have hxf := fun i (hi : i < n) => tkF_get (F := F) (seq := seq) (s := s) (t := t) hi
  have hsu : ∀ i, rdfN r F seq s t (i + 1) = (rdfN r F seq s t i).wr (F + 1 + t + i) (frN F seq s (t + i)) := fun i => rfl
  generalize tkS F t n = xs at *
  generalize tkF F seq s t n = fs at *
  have hxm : (xs.map iA).length = n := by rw [List.length_map, hsl]
  have hn9 : n ≤ 1000000 := by omega
  show ACalls (E0 X) _ [.ptr 4 0] (rdH r ++ [some (.cells [.ptr 0 0, .int .i64 h.ver, .int .i64 h.slot, .int .i64 h.lay, .int .i64 h.seq, .int .i64 h.tail, .int .i64 h.now, .ptr 5 0] 178), some (rpC l h.slot h.seq s.length t 6), some (arB s)]) _
  refine acalls_of Proofs.Tryd.func122 rfl Proofs.Tryd.ntmps122 (by kernel_rfl) rfl ?_
  intro hH hargs
  clear hH hargs
  repeat' (first | ((refine Qa rfl ?_); (first | refine Q0 ?_ | refine Q1 ?_ | refine Q3 rfl rfl rfl ?_ | refine Q4 rfl rfl rfl rfl rfl ?_ | refine Q6 rfl ?_); (refine QX rfl rfl ?_)) | refine Qa rfl ?_ | refine Qh ?_ | refine Ql ?_ | refine Qo rfl ?_)
  refine st_call (fun _ => rfl) rfl ?_
  refine ACalls.mono (htk (rdH r ++ [some (rrC h)]) 5 rfl) ?_
  rintro q H' ⟨rfl, rfl⟩
  first | refine nx rfl rfl ?_ | refine nx0 ?_
  repeat' (first | ((refine Qa rfl ?_); (first | refine Q0 ?_ | refine Q1 ?_ | refine Q7 rfl rfl rfl ?_ | refine QC rfl rfl ?_); (refine QX rfl rfl ?_)) | refine Qh ?_ | refine Ql ?_ | refine Qn ?_ | refine Qo rfl ?_)
  refine awp_loop2 (fun i : Nat => ⟨[(0, .ptr 4 0), (3, .sl 1 (xs.map iA)), (4, .sl 1 (fs.map sl8A)), (16, .int .i64 ((xs.map iA).length : Int)), (17, .int .i64 (i : Int))], rrH (rdfN r F seq s t i) h l s (t + n)⟩) (fun i => i ≤ n) (fun i => n - i) 0 (Nat.zero_le _) ?_ ?_
  · refine imp_cutk 7 (Nat.le_refl _) (hok_rr r h l s (t + n)) rfl (by simp) ?_
    repeat' (first | exact fa_nil | refine fa_cons ⟨?_, ?_⟩ ?_)
    all_goals (try first | exact rfl | exact trivial | (simp [IdsLt]; done) | (simp; done) | (simp [*]; done) | (refine congrArg (AV.int .i64) (wrap_eq ?_ ?_ ?_) <;> (first | omega | (simp; omega))))
    all_goals first | exact ids_i _ | exact ids_sl8 _
  rintro i hi
  have hi' : i ≤ n := hi
  have hsi := hsu i
  have hlvi := hlv i hi'
  show AWp _ _ _ _ _ ⟨[(0, .ptr 4 0), (3, .sl 1 (xs.map iA)), (4, .sl 1 (fs.map sl8A)), (16, .int .i64 ((xs.map iA).length : Int)), (17, .int .i64 (i : Int))], rdH (rdfN r F seq s t i) ++ [some (.cells [.ptr 0 0, .int .i64 h.ver, .int .i64 h.slot, .int .i64 h.lay, .int .i64 h.seq, .int .i64 h.tail, .int .i64 h.now, .ptr 5 0] 178), some (rpC l h.slot h.seq s.length (t + n) 6), some (arB s)]⟩
  have hrl : (frN F seq s (t + i)).length = 64 := frN_len
  by_cases hlt : i < n
  · have hx := hxs i hlt
    have hf := hxf i hlt
    have hK : (F + 1 + t + i) * 64 + 64 ≤ L := by omega
    have hw := fun R => rd_l (fun X => rwrite_c X (rdfN r F seq s t i) (F + 1 + t + i : Nat) (frN F seq s (t + i)) (by rw [hrl]; decide) (by rw [hlvi.dirt, hlvi.new]) (by rw [hlvi.new]; omega)) ⟨trivial, idsL_map fun _ => u8A_ids, trivial⟩ trivial R (X := X)
    rw [hlvi.write hK hrl] at hw
    have hiw : IntKind.i64.wrap ((i : Int) + 1) = ((i + 1 : Nat) : Int) := wrap_eq (by omega) (by omega) (by omega)
    have hmu : n - (i + 1) < n - i := by omega
    generalize rdfN r F seq s t i = vi at *
    generalize frN F seq s (t + i) = fr at *
    generalize vi.wr (F + 1 + t + i) fr = v2 at *
    generalize F + 1 + t + i = S at *
    repeat' (first | ((refine Qa rfl ?_); (refine Q2 rfl ?_); (refine QX rfl rfl ?_)) | refine Qh ?_ | refine Ql ?_ | refine Qo rfl ?_)
    rw [decide_eq_true (show (i : Int) < ((xs.map iA).length : Int) by rw [hxm]; omega)]
    repeat' (first | ((refine Qa rfl ?_); (first | refine Q0 ?_ | refine Q1 ?_); (refine QX rfl rfl ?_)) | refine Qh ?_ | refine Ql ?_ | refine Qm ?_ | refine Qn ?_ | refine Qo rfl ?_ | refine Qp rfl ?_)
    refine awp_region_any [12] [0, 1, 2, 4, 5, 8, 9, 13] (by exact rfl) ?_
    refine any_lin (fuel := 0) [0, 1, 2, 3, 4, 5, 6, 7, 8, 9, 10, 11, 12, 13] (by exact rfl) (by kernel_rfl) (by kernel_rfl) ?_
    repeat' ((first | apply Qd rfl rfl rfl rfl | (apply Qe rfl rfl rfl rfl; intro H9)); (first | refine Q0 ?_ | refine Q3 rfl rfl rfl ?_ | refine Q4 rfl rfl rfl rfl rfl ?_ | refine Q6 rfl ?_); (first | exact QX rfl rfl ⟨rfl, rfl⟩ | exact QY rfl ⟨rfl, rfl⟩))
    apply ds rfl rfl rfl rfl
    · refine st_ixm hx rfl rfl rfl rfl rfl rfl rfl (by first | rfl | omega) rfl ?_
      first | exact nx rfl rfl ⟨rfl, rfl⟩ | exact nx0 ⟨rfl, rfl⟩
    repeat' ((first | apply Qd rfl rfl rfl rfl | (apply Qe rfl rfl rfl rfl; intro H9)); (first | refine Q0 ?_ | refine Q3 rfl rfl rfl ?_); (first | exact QX rfl rfl ⟨rfl, rfl⟩ | exact QY rfl ⟨rfl, rfl⟩))
    apply ds rfl rfl rfl rfl
    · refine st_ixm hf rfl rfl rfl rfl rfl rfl rfl (by first | rfl | omega) rfl ?_
      first | exact nx rfl rfl ⟨rfl, rfl⟩ | exact nx0 ⟨rfl, rfl⟩
    repeat' ((first | refine Qc rfl rfl rfl ?_ | apply Qd rfl rfl rfl rfl); (refine Q3 rfl rfl rfl ?_); (exact QX rfl rfl ⟨rfl, rfl⟩))
    refine ds_ef rfl rfl rfl ?_
    refine st_call (fun _ => rfl) rfl ?_
    refine ACalls.mono (hw _) ?_
    rintro r H' ⟨rfl, rfl⟩
    first | refine nx rfl rfl ?_ | refine nx0 ?_
    repeat' (first | ((apply Qe rfl rfl rfl rfl; intro H9); (refine Q1 ?_); (exact QY rfl ⟨rfl, rfl⟩)) | refine Qk ?_ | refine Qw (by kernel_rfl) ?_)
    repeat' (first | ((refine Qa rfl ?_); (first | refine Q0 ?_ | refine Q2 rfl ?_); (refine QX rfl rfl ?_)) | refine Qh ?_ | refine Ql ?_ | refine Qm ?_ | refine Qo rfl ?_ | refine Qq rfl ?_ | refine Qs ?_)
    rw [hiw]
    refine ⟨i + 1, hlt, hmu, ?_⟩
    show Imp _ _ _ _ ⟨_, rrH (rdfN r F seq s t (i + 1)) h l s (t + n)⟩
    rw [hsi]
    refine imp_cutk 7 (Nat.le_refl _) (hok_rr v2 h l s (t + n)) rfl (by simp) ?_
    repeat' (first | exact fa_nil | refine fa_cons ⟨?_, ?_⟩ ?_)
    all_goals (try first | exact rfl | exact trivial | (simp [IdsLt]; done) | (simp; done) | (simp [*]; done) | (refine congrArg (AV.int .i64) (wrap_eq ?_ ?_ ?_) <;> (first | omega | (simp; omega))))
    all_goals first | exact ids_i _ | exact ids_sl8 _
  · have hii : i = n := by omega
    subst hii
    repeat' (first | ((refine Qa rfl ?_); (refine Q2 rfl ?_); (refine QX rfl rfl ?_)) | refine Qh ?_ | refine Ql ?_ | refine Qo rfl ?_)
    rw [decide_eq_false (show ¬ (i : Int) < ((xs.map iA).length : Int) by rw [hxm]; omega)]
    repeat' (first | ((refine Qa rfl ?_); (refine Q1 ?_); (refine QX rfl rfl ?_)) | refine Qh ?_ | refine Ql ?_ | refine Qo rfl ?_ | refine Qq rfl ?_ | refine Qr ?_ | refine Qs ?_)
    refine awp_ret ?_
    exact ⟨_, rfl, rfl, rfl⟩
end Go.Abs
namespace Go.Abs
theorem rrflush_m (X : Nat → Prop) (r : Rd) (L : Nat) (hv : Lr L r) (l : La) (h : Hd) (F seq : Nat) (s : List UInt8) (t n : Nat) (hsq : h.seq = (seq : Int)) (hq : seq < 9223372036854775808) (hF : IntKind.i64.wrap (74 + IntKind.i64.wrap (h.slot * l.rs)) = (F : Int)) (hFs : F + s.length ≤ 1000000) (hn : t + n = s.length / 59) (hFL : (F + 1 + s.length / 59) * 64 ≤ L) :
    ACalls (E0 X) 122 [.ptr 4 0] (rrM r h l s t) (fun q H' => q = .int .i64 0 ∧ H' = rrM (rdfN r F seq s t n) h l s (t + n)) := by
  have hm := rn_rr r h l s t
  have hfr := ACalls.frame (E := E0 X) (fun X => rrflush_c X r L hv l h F seq s t n hsq hq hF hFs hn hFL) [0, 1, 2, 3, 4, 5, 7] (rrM r h l s t) (by simp) rfl (some_rr r h l s t) (fun j i o hj ho => by
    have h1 : (mapH (reN [0, 1, 2, 3, 4, 5, 7] 8) (rrH r h l s t))[j]? = some (some (rnO (reN [0, 1, 2, 3, 4, 5, 7] 8) o)) := by simp [mapH, ho]
    rw [hm] at h1
    match j, hj with
    | 0, hj => cases hj; exact h1
    | 1, hj => cases hj; exact h1
    | 2, hj => cases hj; exact h1
    | 3, hj => cases hj; exact h1
    | 4, hj => cases hj; exact h1
    | 5, hj => cases hj; exact h1
    | 6, hj => cases hj; exact h1) ⟨by simp [IdsLt, rrH, rdH], trivial⟩ (hok_rr r h l s t)
  refine ACalls.conv hfr rfl rfl ?_
  rintro q H' ⟨r0, h', ⟨rfl, rfl⟩, -, rfl, rfl⟩
  refine ⟨rfl, ?_⟩
  have hm2 := rn_rr (rdfN r F seq s t n) h l s (t + n)
  show mrg _ _ (mapH (reN [0, 1, 2, 3, 4, 5, 7] 8) (rrH (rdfN r F seq s t n) h l s (t + n))) = _
  rw [hm2]
  rfl
attribute [local irreducible] AStep aops AWp Nx awM
set_option maxHeartbeats 0 in
set_option maxRecDepth 100000 in
theorem rrapp_bad (X : Nat → Prop) (d : Rd) (l : La) (h : Hd) (s : List UInt8) (t : Nat) (r : Rec) (hc : chkR l.ver r ≠ 0) :
    ACalls (E0 X) 75 [.ptr 4 0, recA r] (rrH d h l s t) (fun q H' => q = .tup [.int .i64 0, .int .i64 0, .int .i64 (chkR l.ver r)] ∧ H' = rrH d h l s t) := by
  have hpu := fun Lp k hs => rp_at (X := X) (fun X => rput_bad X l h.slot h.seq s t r hc) (by exact ⟨recA_ids, trivial⟩) (by exact ⟨trivial, trivial, trivial, trivial⟩) Lp k hs
  generalize chkR l.ver r = e at *
  show ACalls (E0 X) _ [.ptr 4 0, .agg [.int .i64 r.kind, .sl 1 (r.key.map u8A), .sl 1 (r.val.map u8A), .int .i64 r.exp]] (rdH d ++ [some (.cells [.ptr 0 0, .int .i64 h.ver, .int .i64 h.slot, .int .i64 h.lay, .int .i64 h.seq, .int .i64 h.tail, .int .i64 h.now, .ptr 5 0] 178), some (rpC l h.slot h.seq s.length t 6), some (arB s)]) _
  refine acalls_of Proofs.Tryd.func75 rfl Proofs.Tryd.ntmps75 (by kernel_rfl) rfl ?_
  intro hH hargs
  clear hH hargs
  repeat' (first | ((refine Qa rfl ?_); (first | refine Q1 ?_ | refine QK rfl ?_); (refine QX rfl rfl ?_)) | refine Qh ?_ | refine Ql ?_ | refine Qo rfl ?_)
  refine awp_pre (Imp.trans (imp_freezeP (id := 7) (cs := [.int .i64 r.kind, .sl 1 (r.key.map u8A), .sl 1 (r.val.map u8A), .int .i64 r.exp]) rfl) (imp_cutk 7 (Nat.le_refl _) (hok_rr d h l s t) rfl (by simp) (sl' := [(0, .ptr 4 0), (3, .fp [.int .i64 r.kind, .sl 1 (r.key.map u8A), .sl 1 (r.val.map u8A), .int .i64 r.exp])]) ?_)) ?_
  · repeat' (first | exact fa_nil | refine fa_cons ⟨?_, ?_⟩ ?_)
    all_goals (try first | exact rfl | exact trivial | (simp [IdsLt, IdsLtL]; done) | (simp [get_cons]; done) | (simp [get_cons, *]; done) | (refine congrArg (AV.int .i64) (wrap_eq ?_ ?_ ?_) <;> (first | omega | (simp; omega))))
  show AWp _ _ _ _ _ ⟨_, (rdH d ++ [some (.cells [.ptr 0 0, .int .i64 h.ver, .int .i64 h.slot, .int .i64 h.lay, .int .i64 h.seq, .int .i64 h.tail, .int .i64 h.now, .ptr 5 0] 178), some (rpC l h.slot h.seq s.length t 6), some (arB s)])⟩
  refine awp_region_auto2 [] [] (by exact rfl) (by kernel_rfl) ?_
  repeat' ((apply Qd rfl rfl rfl rfl); (first | refine Q0 ?_ | refine Q3 rfl rfl rfl ?_ | refine Q4 rfl rfl rfl rfl rfl ?_ | refine Q6 rfl ?_); (exact QX rfl rfl ⟨rfl, rfl⟩))
  apply ds rfl rfl rfl rfl
  · refine st_call (fun _ => rfl) rfl ?_
    refine ACalls.mono (hpu (rdH d ++ [some (rrC h)]) 5 rfl) ?_
    rintro r H' ⟨rfl, rfl⟩
    first
    | exact nx rfl rfl ⟨rfl, rfl⟩
    | exact nx0 ⟨rfl, rfl⟩
  repeat' (first | ((first | refine Qa rfl ?_ | apply Qd rfl rfl rfl rfl); (first | refine Q0 ?_ | refine Q1 ?_ | refine Q2 rfl ?_ | refine QC rfl rfl ?_); (first | exact QX rfl rfl ⟨rfl, rfl⟩ | refine QX rfl rfl ?_)) | refine Qh ?_ | refine Qk ?_ | refine Ql ?_ | refine Qo rfl ?_ | refine Qs ?_)
  rw [decide_eq_true hc]
  repeat' (first | ((refine Qa rfl ?_); (first | refine Q0 ?_ | refine Q1 ?_); (refine QX rfl rfl ?_)) | refine Qh ?_ | refine Ql ?_ | refine Qo rfl ?_ | refine Qp rfl ?_ | refine Qs ?_)
  refine awp_ret ?_
  exact ⟨_, rfl, rfl, rfl⟩
set_option maxHeartbeats 0 in
set_option maxRecDepth 100000 in
theorem rrapp_full (X : Nat → Prop) (d : Rd) (l : La) (h : Hd) (s : List UInt8) (t : Nat) (r : Rec) (hc : chkR l.ver r = 0) (hr : 1 ≤ l.rs ∧ l.rs ≤ 2048) (hs : s.length ≤ 1000000) (hl : (l.rs - 1) * 59 - s.length < (lenR r : Int)) :
    ACalls (E0 X) 75 [.ptr 4 0, recA r] (rrH d h l s t) (fun q H' => q = .tup [.int .i64 0, .int .i64 0, .int .i64 8] ∧ H' = rrH d h l s t) := by
  have hpu := fun Lp k hs2 => rp_at (X := X) (fun X => rput_full X l h.slot h.seq s t r hc hr hs hl) (by exact ⟨recA_ids, trivial⟩) (by exact ⟨trivial, trivial, trivial, trivial⟩) Lp k hs2
  show ACalls (E0 X) _ [.ptr 4 0, .agg [.int .i64 r.kind, .sl 1 (r.key.map u8A), .sl 1 (r.val.map u8A), .int .i64 r.exp]] (rdH d ++ [some (.cells [.ptr 0 0, .int .i64 h.ver, .int .i64 h.slot, .int .i64 h.lay, .int .i64 h.seq, .int .i64 h.tail, .int .i64 h.now, .ptr 5 0] 178), some (rpC l h.slot h.seq s.length t 6), some (arB s)]) _
  refine acalls_of Proofs.Tryd.func75 rfl Proofs.Tryd.ntmps75 (by kernel_rfl) rfl ?_
  intro hH hargs
  clear hH hargs
  repeat' (first | ((refine Qa rfl ?_); (first | refine Q1 ?_ | refine QK rfl ?_); (refine QX rfl rfl ?_)) | refine Qh ?_ | refine Ql ?_ | refine Qo rfl ?_)
  refine awp_pre (Imp.trans (imp_freezeP (id := 7) (cs := [.int .i64 r.kind, .sl 1 (r.key.map u8A), .sl 1 (r.val.map u8A), .int .i64 r.exp]) rfl) (imp_cutk 7 (Nat.le_refl _) (hok_rr d h l s t) rfl (by simp) (sl' := [(0, .ptr 4 0), (3, .fp [.int .i64 r.kind, .sl 1 (r.key.map u8A), .sl 1 (r.val.map u8A), .int .i64 r.exp])]) ?_)) ?_
  · repeat' (first | exact fa_nil | refine fa_cons ⟨?_, ?_⟩ ?_)
    all_goals (try first | exact rfl | exact trivial | (simp [IdsLt, IdsLtL]; done) | (simp [get_cons]; done) | (simp [get_cons, *]; done) | (refine congrArg (AV.int .i64) (wrap_eq ?_ ?_ ?_) <;> (first | omega | (simp; omega))))
  show AWp _ _ _ _ _ ⟨_, (rdH d ++ [some (.cells [.ptr 0 0, .int .i64 h.ver, .int .i64 h.slot, .int .i64 h.lay, .int .i64 h.seq, .int .i64 h.tail, .int .i64 h.now, .ptr 5 0] 178), some (rpC l h.slot h.seq s.length t 6), some (arB s)])⟩
  refine awp_region_auto2 [] [] (by exact rfl) (by kernel_rfl) ?_
  repeat' ((apply Qd rfl rfl rfl rfl); (first | refine Q0 ?_ | refine Q3 rfl rfl rfl ?_ | refine Q4 rfl rfl rfl rfl rfl ?_ | refine Q6 rfl ?_); (exact QX rfl rfl ⟨rfl, rfl⟩))
  apply ds rfl rfl rfl rfl
  · refine st_call (fun _ => rfl) rfl ?_
    refine ACalls.mono (hpu (rdH d ++ [some (rrC h)]) 5 rfl) ?_
    rintro r H' ⟨rfl, rfl⟩
    first
    | exact nx rfl rfl ⟨rfl, rfl⟩
    | exact nx0 ⟨rfl, rfl⟩
  repeat' (first | ((first | refine Qa rfl ?_ | apply Qd rfl rfl rfl rfl); (first | refine Q0 ?_ | refine Q1 ?_ | refine Q2 rfl ?_ | refine QC rfl rfl ?_); (first | exact QX rfl rfl ⟨rfl, rfl⟩ | refine QX rfl rfl ?_)) | refine Qh ?_ | refine Qk ?_ | refine Ql ?_ | refine Qo rfl ?_ | refine Qp rfl ?_ | refine Qs ?_)
  skip
  refine awp_ret ?_
  exact ⟨_, rfl, rfl, rfl⟩
set_option maxHeartbeats 0 in
set_option maxRecDepth 100000 in
theorem rrapp_ok (X : Nat → Prop) (d : Rd) (L : Nat) (hv : Lr L d) (l : La) (h : Hd) (F seq : Nat) (s : List UInt8) (t : Nat) (r : Rec) (n : Nat) (hsq : h.seq = (seq : Int)) (hq : seq < 9223372036854775808) (hF : IntKind.i64.wrap (74 + IntKind.i64.wrap (h.slot * l.rs)) = (F : Int)) (hFs : F ≤ 100000) (hc : chkR l.ver r = 0) (hr : 1 ≤ l.rs ∧ l.rs ≤ 2048) (hl : (s.length : Int) + (lenR r : Int) ≤ (l.rs - 1) * 59) (hn : t + n = (s ++ encR l.ver seq s.length r).length / 59) (hFL : (F + 1 + (s ++ encR l.ver seq s.length r).length / 59) * 64 ≤ L) :
    ACalls (E0 X) 75 [.ptr 4 0, recA r] (rrH d h l s t) (fun q H' => q = .tup [.int .i64 (s.length : Int), .int .i64 (lenR r : Int), .int .i64 0] ∧ H' = rrM (rdfN d F seq (s ++ encR l.ver seq s.length r) t n) h l (s ++ encR l.ver seq s.length r) (t + n)) := by
  have hpu := fun Lp k hs2 => rp_atM (X := X) (fun X => rput_ok X l h.slot seq s t r hc hq hr hl) (by exact ⟨recA_ids, trivial⟩) (by exact ⟨trivial, trivial, trivial, trivial⟩) Lp k hs2
  rw [← hsq] at hpu
  have hsl : (s ++ encR l.ver seq s.length r).length = s.length + lenR r := by rw [List.length_append, encR_len]
  have hfl := rrflush_m X d L hv l h F seq (s ++ encR l.ver seq s.length r) t n hsq hq hF (by omega) hn hFL
  generalize s ++ encR l.ver seq s.length r = s2 at *
  generalize lenR r = lr at *
  show ACalls (E0 X) _ [.ptr 4 0, .agg [.int .i64 r.kind, .sl 1 (r.key.map u8A), .sl 1 (r.val.map u8A), .int .i64 r.exp]] (rdH d ++ [some (.cells [.ptr 0 0, .int .i64 h.ver, .int .i64 h.slot, .int .i64 h.lay, .int .i64 h.seq, .int .i64 h.tail, .int .i64 h.now, .ptr 5 0] 178), some (rpC l h.slot h.seq s.length t 6), some (arB s)]) _
  refine acalls_of Proofs.Tryd.func75 rfl Proofs.Tryd.ntmps75 (by kernel_rfl) rfl ?_
  intro hH hargs
  clear hH hargs
  repeat' (first | ((refine Qa rfl ?_); (first | refine Q1 ?_ | refine QK rfl ?_); (refine QX rfl rfl ?_)) | refine Qh ?_ | refine Ql ?_ | refine Qo rfl ?_)
  refine awp_pre (Imp.trans (imp_freezeP (id := 7) (cs := [.int .i64 r.kind, .sl 1 (r.key.map u8A), .sl 1 (r.val.map u8A), .int .i64 r.exp]) rfl) (imp_cutk 7 (Nat.le_refl _) (hok_rr d h l s t) rfl (by simp) (sl' := [(0, .ptr 4 0), (3, .fp [.int .i64 r.kind, .sl 1 (r.key.map u8A), .sl 1 (r.val.map u8A), .int .i64 r.exp])]) ?_)) ?_
  · repeat' (first | exact fa_nil | refine fa_cons ⟨?_, ?_⟩ ?_)
    all_goals (try first | exact rfl | exact trivial | (simp [IdsLt, IdsLtL]; done) | (simp [get_cons]; done) | (simp [get_cons, *]; done) | (refine congrArg (AV.int .i64) (wrap_eq ?_ ?_ ?_) <;> (first | omega | (simp; omega))))
  show AWp _ _ _ _ _ ⟨_, (rdH d ++ [some (.cells [.ptr 0 0, .int .i64 h.ver, .int .i64 h.slot, .int .i64 h.lay, .int .i64 h.seq, .int .i64 h.tail, .int .i64 h.now, .ptr 5 0] 178), some (rpC l h.slot h.seq s.length t 6), some (arB s)])⟩
  refine awp_region_any [5] [0, 1, 2, 4, 6, 7, 8, 9, 10, 11, 12] (by exact rfl) ?_
  refine any_lin (fuel := 0) [0, 1, 2, 3, 4, 5, 6, 7, 8, 9, 10, 11, 12] (by exact rfl) (by kernel_rfl) (by kernel_rfl) ?_
  repeat' ((first | refine Qc rfl rfl rfl ?_ | apply Qd rfl rfl rfl rfl | (apply Qe rfl rfl rfl rfl; intro H9)); (first | refine Q0 ?_ | refine Q3 rfl rfl rfl ?_ | refine Q4 rfl rfl rfl rfl rfl ?_ | refine Q6 rfl ?_); (first | exact QX rfl rfl ⟨rfl, rfl⟩ | exact QY rfl ⟨rfl, rfl⟩))
  refine ds_ef rfl rfl rfl ?_
  refine st_call (fun _ => rfl) rfl ?_
  refine ACalls.mono (hpu (rdH d ++ [some (rrC h)]) 5 rfl) ?_
  rintro q H' ⟨rfl, rfl⟩
  first | refine nx rfl rfl ?_ | refine nx0 ?_
  repeat' (first | ((apply Qe rfl rfl rfl rfl; intro H9); (first | refine Q0 ?_ | refine Q1 ?_ | refine QC rfl rfl ?_); (exact QY rfl ⟨rfl, rfl⟩)) | refine Qk ?_ | refine Qw (by kernel_rfl) ?_)
  repeat' (first | ((refine Qa rfl ?_); (first | refine Q0 ?_ | refine Q2 rfl ?_); (refine QX rfl rfl ?_)) | refine Qa rfl ?_ | refine Qh ?_ | refine Ql ?_ | refine Qm ?_ | refine Qo rfl ?_ | refine Qq rfl ?_)
  refine st_call (fun _ => rfl) rfl ?_
  refine ACalls.mono hfl ?_
  rintro q H' ⟨rfl, rfl⟩
  first | refine nx rfl rfl ?_ | refine nx0 ?_
  repeat' (first | ((refine Qa rfl ?_); (first | refine Q0 ?_ | refine Q1 ?_ | refine Q2 rfl ?_); (refine QX rfl rfl ?_)) | refine Qh ?_ | refine Ql ?_ | refine Qm ?_ | refine Qo rfl ?_ | refine Qq rfl ?_ | refine Qs ?_)
  refine awp_ret ?_
  exact ⟨_, rfl, rfl, rfl⟩
set_option maxHeartbeats 0 in
set_option maxRecDepth 100000 in
theorem rrsync_c (X : Nat → Prop) (d : Rd) (L : Nat) (hv : Lr L d) (l : La) (h : Hd) (F seq : Nat) (s : List UInt8) (t n : Nat) (hsq : h.seq = (seq : Int)) (hq : seq < 9223372036854775808) (hF : IntKind.i64.wrap (74 + IntKind.i64.wrap (h.slot * l.rs)) = (F : Int)) (hFs : F ≤ 100000) (hs : s.length ≤ 120773) (hn : t + n = (padS s).length / 59) (hFL : (F + 1 + (padS s).length / 59) * 64 ≤ L) :
    ACalls (E0 X) 76 [.ptr 4 0] (rrH d h l s t) (fun q H' => q = .int .i64 0 ∧ H' = rrM (rdfN d F seq (padS s) t n).bar h l (padS s) (t + n)) := by
  have hle := hv.le
  have hpl : (padS s).length ≤ 130000 := by
    simp only [padS, List.length_append, List.length_replicate]
    omega
  have hpa := fun Lp k hs2 => rp_atM (X := X) (fun X => rpad_c X l h.slot h.seq s t (by omega)) trivial trivial Lp k hs2
  have hfl := rrflush_m X d L hv l h F seq (padS s) t n hsq hq hF (by omega) hn hFL
  have hlv := hv.df (F := F) (seq := seq) (s := padS s) (t := t) n (by omega)
  generalize padS s = s2 at *
  generalize rdfN d F seq s2 t n = v2 at *
  have hba := fun R => rd_l (fun X => rbarrier_c X v2 (by have := hlv.dirt; omega) (by rw [hlv.old, hlv.new])) trivial trivial R (X := X)
  rw [hlv.barrier] at hba
  show ACalls (E0 X) _ [.ptr 4 0] (rdH d ++ [some (.cells [.ptr 0 0, .int .i64 h.ver, .int .i64 h.slot, .int .i64 h.lay, .int .i64 h.seq, .int .i64 h.tail, .int .i64 h.now, .ptr 5 0] 178), some (rpC l h.slot h.seq s.length t 6), some (arB s)]) _
  refine acalls_of Proofs.Tryd.func76 rfl Proofs.Tryd.ntmps76 (by kernel_rfl) rfl ?_
  intro hH hargs
  clear hH hargs
  repeat' (first | ((refine Qa rfl ?_); (first | refine Q0 ?_ | refine Q1 ?_ | refine Q3 rfl rfl rfl ?_ | refine Q4 rfl rfl rfl rfl rfl ?_ | refine Q6 rfl ?_); (refine QX rfl rfl ?_)) | refine Qa rfl ?_ | refine Qh ?_ | refine Ql ?_ | refine Qo rfl ?_)
  refine st_call (fun _ => rfl) rfl ?_
  refine ACalls.mono (hpa (rdH d ++ [some (rrC h)]) 5 rfl) ?_
  rintro q H' ⟨rfl, rfl⟩
  first | refine nx rfl rfl ?_ | refine nx0 ?_
  repeat' (first | ((refine Qa rfl ?_); (refine Q0 ?_); (refine QX rfl rfl ?_)) | refine Qa rfl ?_ | refine Qh ?_ | refine Ql ?_ | refine Qo rfl ?_)
  refine st_call (fun _ => rfl) rfl ?_
  refine ACalls.mono hfl ?_
  rintro q H' ⟨rfl, rfl⟩
  first | refine nx rfl rfl ?_ | refine nx0 ?_
  repeat' (first | ((refine Qa rfl ?_); (first | refine Q0 ?_ | refine Q1 ?_ | refine Q2 rfl ?_ | refine Q3 rfl rfl rfl ?_ | refine Q4 rfl rfl rfl rfl rfl ?_ | refine Q6 rfl ?_); (refine QX rfl rfl ?_)) | refine Qa rfl ?_ | refine Qh ?_ | refine Ql ?_ | refine Qm ?_ | refine Qo rfl ?_ | refine Qq rfl ?_)
  refine st_call (fun _ => rfl) rfl ?_
  refine ACalls.mono (hba _) ?_
  rintro r H' ⟨rfl, rfl⟩
  first | refine nx rfl rfl ?_ | refine nx0 ?_
  generalize v2.bar = v3 at *
  repeat' (first | ((refine Qa rfl ?_); (refine Q1 ?_); (refine QX rfl rfl ?_)) | refine Qh ?_ | refine Qs ?_)
  refine awp_ret ?_
  exact ⟨_, rfl, rfl, rfl⟩
end Go.Abs
namespace Go.Abs
theorem bytes_of {X : Nat → Prop} {x : AV} (h : hasC (E0 X) 2 38 [x]) : ∃ l : List UInt8, x = .sl 1 (l.map u8A) ∧ l.length ≤ maxLen := by
  have h1 : ∃ es, [x] = [.sl 1 es] ∧ es.length ≤ maxLen ∧ ∀ y ∈ es, ∃ ys, y = elA false ys ∧ ∃ n, ys = [.int .u8 n] ∧ IntKind.u8.min ≤ n ∧ n ≤ IntKind.u8.max := h
  obtain ⟨es, h2, hlen, h3⟩ := h1
  simp only [List.cons.injEq, and_true] at h2
  subst h2
  obtain ⟨l, rfl⟩ := list_of (f := u8A) fun y hy => by
    obtain ⟨ys, rfl, n, rfl, h4, h5⟩ := h3 y hy
    have h4' : 0 ≤ n := h4
    have h5' : n ≤ 255 := h5
    refine ⟨UInt8.ofNat n.toNat, ?_⟩
    simp only [elA, u8A, List.headD_cons, Bool.false_eq_true, if_false]
    congr 1
    rw [UInt8.toNat_ofNat']
    omega
  exact ⟨l, rfl, by simpa using hlen⟩
section
open Go.RowKit Go.ChangeShapes Go.WideShapes
theorem arg_avS {E : Env} {H : Type} {enc : TypeId × Value → H} {W : World} (hok : E.Ok) (hX : ∀ b, ¬ E.X b) {f : Nat} {t : TypeId} {fs : List (Nat × TypeId)} {v : Value} {d : DataW H} {ps : List MemPlace} {base : Nat} (hp : plainT E f t = true) (hk : (E.ti t).k = .struct fs)
    (hval : Value.okWide E.P W .any base t v) (h : DataW.Trod enc E.P W 0 (fun _ => true) true t v d ps) : ∃ xs, E.Rel [] W (.agg xs) v ∧ hasC E f t xs := by
  obtain ⟨fuel, hf⟩ := h
  obtain ⟨xs, h1, h2, h3⟩ := trod_av hok hX f fuel t _ _ hp hf
  have ht : Nat.blt t E.n = true := by
    cases f with
    | zero => simp [plainT] at hp
    | succ f =>
      simp only [plainT, Bool.and_eq_true] at hp
      exact hp.1
  obtain ⟨F, hF, -⟩ := tk_struct hok ht hk
  obtain ⟨cs, rfl, -⟩ := okWide_struct hF hval
  exact ⟨xs, ⟨cs.toList, by simp, h1⟩, h2⟩
end
end Go.Abs
namespace Go.Abs
structure Sp where
  pos : Int
  add : UInt8
def spA (p : Sp) : AV := .agg [.int .i64 p.pos, u8A p.add]
@[simp] theorem spA_ids {n : Nat} {p : Sp} : IdsLt n (spA p) := ⟨trivial, trivial, trivial⟩
structure Cs where
  ver : Int
  log : Int
  rs : List Rec
  pads : List Bool
  sp : List Sp
  more : Int
def csL (c : Cs) : List AV := [.int .i64 c.ver, .int .i64 c.log, .sl 4 (c.rs.map recA), .sl 1 (c.pads.map boA), .sl 2 (c.sp.map spA), .int .i64 c.more]
structure CsOk (c : Cs) : Prop where
  rs : c.rs.length ≤ maxLen
  pads : c.pads.length ≤ maxLen
  sp : c.sp.length ≤ maxLen
  key : ∀ r ∈ c.rs, r.key.length ≤ maxLen ∧ r.val.length ≤ maxLen
  more : -9223372036854775808 ≤ c.more ∧ c.more ≤ 9223372036854775807
theorem byte_of2 {X : Nat → Prop} {ys : List AV} (h : hasC (E0 X) 1 5 ys) : ∃ b, ys = [u8A b] := by
  have h1 : ∃ n, ys = [.int .u8 n] ∧ IntKind.u8.min ≤ n ∧ n ≤ IntKind.u8.max := h
  obtain ⟨n, rfl, h4, h5⟩ := h1
  have h4' : 0 ≤ n := h4
  have h5' : n ≤ 255 := h5
  refine ⟨UInt8.ofNat n.toNat, ?_⟩
  simp only [u8A]
  congr 2
  rw [UInt8.toNat_ofNat']
  omega
theorem bools_of {X : Nat → Prop} {x : AV} (h : hasC (E0 X) 2 62 [x]) : ∃ l : List Bool, x = .sl 1 (l.map boA) ∧ l.length ≤ maxLen := by
  have h1 : ∃ es, [x] = [.sl 1 es] ∧ es.length ≤ maxLen ∧ ∀ y ∈ es, ∃ ys, y = elA false ys ∧ ∃ b, ys = [.bool b] := h
  obtain ⟨es, h2, hlen, h3⟩ := h1
  simp only [List.cons.injEq, and_true] at h2
  subst h2
  obtain ⟨l, rfl⟩ := list_of (f := boA) fun y hy => by
    obtain ⟨ys, rfl, b, rfl⟩ := h3 y hy
    exact ⟨b, rfl⟩
  exact ⟨l, rfl, by simpa using hlen⟩
theorem rec_of {X : Nat → Prop} {ys : List AV} (h : hasC (E0 X) 3 83 ys) : ∃ r : Rec, ys = recL r ∧ r.key.length ≤ maxLen ∧ r.val.length ≤ maxLen := by
  have h1 : hasF (E0 X) (hasC (E0 X) 2) [(0, 3), (1, 38), (2, 38), (3, 3)] ys := h
  obtain ⟨_, _, rfl, ⟨k, rfl, _⟩, a, _, rfl, ha, b, _, rfl, hb, _, _, rfl, ⟨e, rfl, _⟩, rfl⟩ := h1
  have ha1 : ∃ es, a = [.sl 1 es] ∧ es.length ≤ maxLen ∧ ∀ y ∈ es, ∃ ys, y = elA false ys ∧ hasC (E0 X) 1 5 ys := ha
  have hb1 : ∃ es, b = [.sl 1 es] ∧ es.length ≤ maxLen ∧ ∀ y ∈ es, ∃ ys, y = elA false ys ∧ hasC (E0 X) 1 5 ys := hb
  obtain ⟨_, rfl, _⟩ := ha1
  obtain ⟨_, rfl, _⟩ := hb1
  obtain ⟨l, h2, h3⟩ := bytes_of ha
  obtain ⟨l2, h4, h5⟩ := bytes_of hb
  rw [h2, h4]
  exact ⟨⟨k, l, l2, e⟩, rfl, h3, h5⟩
theorem list_of2 {α : Type} {f : α → AV} {P : α → Prop} : ∀ {es : List AV}, (∀ y ∈ es, ∃ a, y = f a ∧ P a) → ∃ l : List α, es = l.map f ∧ ∀ a ∈ l, P a
  | [], _ => ⟨[], rfl, fun a h => by simp at h⟩
  | y :: es, h => by
    obtain ⟨a, rfl, ha⟩ := h y (by simp)
    obtain ⟨l, rfl, hl⟩ := list_of2 fun z hz => h z (List.mem_cons_of_mem _ hz)
    exact ⟨a :: l, rfl, fun b hb => by
      rcases List.mem_cons.1 hb with rfl | hb
      · exact ha
      · exact hl b hb⟩
theorem recs_of {X : Nat → Prop} {ys : List AV} (h : hasC (E0 X) 4 61 ys) : ∃ l : List Rec, ys = [.sl 4 (l.map recA)] ∧ l.length ≤ maxLen ∧ ∀ r ∈ l, r.key.length ≤ maxLen ∧ r.val.length ≤ maxLen := by
  have h1 : ∃ es, ys = [.sl 4 es] ∧ es.length ≤ maxLen ∧ ∀ y ∈ es, ∃ ys, y = elA true ys ∧ hasC (E0 X) 3 83 ys := h
  obtain ⟨es, rfl, hlen, h3⟩ := h1
  obtain ⟨l, rfl, h4⟩ := list_of2 (f := recA) (P := fun r => r.key.length ≤ maxLen ∧ r.val.length ≤ maxLen) fun y hy => by
    obtain ⟨ys, rfl, h5⟩ := h3 y hy
    obtain ⟨r, rfl, h6⟩ := rec_of h5
    exact ⟨r, rfl, h6⟩
  exact ⟨l, rfl, by simpa using hlen, h4⟩
theorem spoils_of {X : Nat → Prop} {ys : List AV} (h : hasC (E0 X) 4 63 ys) : ∃ l : List Sp, ys = [.sl 2 (l.map spA)] ∧ l.length ≤ maxLen := by
  have h1 : ∃ es, ys = [.sl 2 es] ∧ es.length ≤ maxLen ∧ ∀ y ∈ es, ∃ ys, y = elA true ys ∧ hasF (E0 X) (hasC (E0 X) 2) [(0, 3), (1, 5)] ys := h
  obtain ⟨es, rfl, hlen, h3⟩ := h1
  obtain ⟨l, rfl⟩ := list_of (f := spA) fun y hy => by
    obtain ⟨ys, rfl, _, _, rfl, ⟨n, rfl, _⟩, b, _, rfl, hb, rfl⟩ := h3 y hy
    obtain ⟨c, rfl⟩ := byte_of2 (X := X) hb
    exact ⟨⟨n, c⟩, rfl⟩
  exact ⟨l, rfl, by simpa using hlen⟩
theorem case_of {X : Nat → Prop} {xs : List AV} (h : hasC (E0 X) 5 65 xs) : ∃ c : Cs, xs = csL c ∧ CsOk c := by
  have h1 : hasF (E0 X) (hasC (E0 X) 4) [(0, 3), (1, 3), (2, 61), (3, 62), (4, 63), (5, 3)] xs := h
  obtain ⟨_, _, rfl, ⟨v, rfl, _⟩, _, _, rfl, ⟨l, rfl, _⟩, a, _, rfl, ha, b, _, rfl, hb, c, _, rfl, hc, _, _, rfl, ⟨m, rfl, hm1, hm2⟩, rfl⟩ := h1
  obtain ⟨rs, rfl, h2, h3⟩ := recs_of ha
  obtain ⟨sp, rfl, h4⟩ := spoils_of hc
  have hb1 : ∃ es, b = [.sl 1 es] ∧ es.length ≤ maxLen ∧ ∀ y ∈ es, ∃ ys, y = elA false ys ∧ hasC (E0 X) 3 4 ys := hb
  obtain ⟨_, rfl, _⟩ := hb1
  obtain ⟨pads, h5, h6⟩ := bools_of hb
  rw [h5]
  exact ⟨⟨v, l, rs, pads, sp, m⟩, rfl, h2, h6, h4, h3, hm1, hm2⟩
end Go.Abs

