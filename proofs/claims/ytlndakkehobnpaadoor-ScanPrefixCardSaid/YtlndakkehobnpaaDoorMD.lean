/- crc: the walk. Joined texts, each with what its own name promises; no condition beyond those stated. -/
import Derived.Test.YtlndakkehobnpaaDoorMC
namespace Go.Abs
def crcT (i : Nat) : Nat := (crcTab[i]?).getD 0
def stepN (c x : Nat) : Nat := ((((c ^^^ x) >>> 4) ^^^ crcT ((c ^^^ x) &&& 15)) >>> 4) ^^^ crcT ((((c ^^^ x) >>> 4) ^^^ crcT ((c ^^^ x) &&& 15)) &&& 15)
def crcM : Nat := 4294967295
def updN (c : Nat) (l : List UInt8) : Nat := (l.foldl (fun c x => stepN c x.toNat) (c ^^^ crcM)) ^^^ crcM
theorem wrap32 {n : Nat} (h : n < 4294967296) : IntKind.u32.wrap (n : Int) = n := by
  simp [IntKind.wrap, IntKind.signed, IntKind.bits]
  omega
theorem xor32 {a b : Nat} (ha : a < 4294967296) (hb : b < 4294967296) : ibits .xor .u32 (a : Int) (b : Int) = ((a ^^^ b : Nat) : Int) := by
  have h1 : ibits .xor .u32 (a : Int) (b : Int) = IntKind.u32.wrap (((BitVec.ofInt 32 (a : Int) ^^^ BitVec.ofInt 32 (b : Int)).toNat : Nat) : Int) := rfl
  rw [h1, BitVec.toNat_xor]
  have h2 : ∀ n : Nat, n < 4294967296 → (BitVec.ofInt 32 (n : Int)).toNat = n := fun n h => by
    rw [BitVec.ofInt_natCast, BitVec.toNat_ofNat]; exact Nat.mod_eq_of_lt h
  rw [h2 a ha, h2 b hb, wrap32 (Nat.xor_lt_two_pow (n := 32) ha hb)]
theorem and32 {a b : Nat} (ha : a < 4294967296) (hb : b < 4294967296) : ibits .and .u32 (a : Int) (b : Int) = ((a &&& b : Nat) : Int) := by
  have h1 : ibits .and .u32 (a : Int) (b : Int) = IntKind.u32.wrap (((BitVec.ofInt 32 (a : Int) &&& BitVec.ofInt 32 (b : Int)).toNat : Nat) : Int) := rfl
  rw [h1, BitVec.toNat_and]
  have h2 : ∀ n : Nat, n < 4294967296 → (BitVec.ofInt 32 (n : Int)).toNat = n := fun n h => by
    rw [BitVec.ofInt_natCast, BitVec.toNat_ofNat]; exact Nat.mod_eq_of_lt h
  rw [h2 a ha, h2 b hb, wrap32 (Nat.lt_of_le_of_lt Nat.and_le_left ha)]
theorem crcT_lt (i : Nat) : crcT i < 4294967296 := by
  unfold crcT
  rcases h : crcTab[i]? with _ | y
  · decide
  · have h1 : ∀ y ∈ crcTab, y < 4294967296 := by decide
    exact h1 y (List.mem_of_getElem? h)
theorem stepN_lt {c x : Nat} (hc : c < 4294967296) (hx : x < 4294967296) : stepN c x < 4294967296 := by
  have h1 : c ^^^ x < 2 ^ 32 := Nat.xor_lt_two_pow hc hx
  have h2 : (c ^^^ x) >>> 4 < 2 ^ 32 := Nat.lt_of_le_of_lt (Nat.shiftRight_le _ _) h1
  have h3 := Nat.xor_lt_two_pow h2 (crcT_lt ((c ^^^ x) &&& 15))
  have h4 := Nat.lt_of_le_of_lt (Nat.shiftRight_le _ 4) h3
  exact Nat.xor_lt_two_pow h4 (crcT_lt _)
theorem updN_lt {c : Nat} (hc : c < 4294967296) (l : List UInt8) : updN c l < 4294967296 := by
  have h0 : c ^^^ crcM < 2 ^ 32 := Nat.xor_lt_two_pow hc (by decide)
  have : ∀ (l : List UInt8) (c : Nat), c < 4294967296 → l.foldl (fun c x => stepN c x.toNat) c < 4294967296 := by
    intro l
    induction l with
    | nil => intro c h; exact h
    | cons x l ih => intro c h; exact ih _ (stepN_lt h (by have := x.toNat_lt; omega))
  exact Nat.xor_lt_two_pow (n := 32) (this l _ h0) (by decide)
theorem shr4 (c : Nat) : (c : Int).fdiv (2 ^ (min (4 : Int).toNat IntKind.u32.bits)) = ((c >>> 4 : Nat) : Int) := by
  have h : (2 : Int) ^ (min (4 : Int).toNat IntKind.u32.bits) = ((2 ^ 4 : Nat) : Int) := by decide
  rw [h, Int.fdiv_eq_ediv_of_nonneg _ (by omega), Nat.shiftRight_eq_div_pow]
  exact (Int.natCast_ediv c (2 ^ 4)).symm
theorem crcT_at {i : Nat} (h : i < 16) : (crcTab.map u32A)[i]? = some (u32A (crcT i)) := by
  have h1 : crcTab.length = 16 := rfl
  rw [List.getElem?_map, crcT, List.getElem?_eq_getElem (by omega)]
  rfl
theorem and15i {a : Nat} (ha : a < 4294967296) : ibits .and .u32 (a : Int) 15 = ((a &&& 15 : Nat) : Int) := and32 ha (by decide)
theorem hok_nil : HOk 0 [] := fun _ _ h => by simp at h
theorem and15 (c : Nat) : c &&& 15 < 16 := by have : c &&& 15 ≤ 15 := Nat.and_le_right; omega
attribute [local irreducible] AStep aops AWp Nx awM
set_option maxHeartbeats 0 in
theorem crcStep_c (X : Nat → Prop) (c : Nat) (hc : c < 4294967296) (x : UInt8) :
    ACalls (E0 X) 159 [u32A c, u8A x] [] (fun r H' => r = u32A (stepN c x.toNat) ∧ H' = []) := by
  have hx : x.toNat < 4294967296 := by have := x.toNat_lt; omega
  have h1 : c ^^^ x.toNat < 4294967296 := Nat.xor_lt_two_pow (n := 32) hc hx
  have h2 : (c ^^^ x.toNat) >>> 4 < 4294967296 := Nat.lt_of_le_of_lt (Nat.shiftRight_le _ _) h1
  have h3 : ((c ^^^ x.toNat) >>> 4) ^^^ crcT ((c ^^^ x.toNat) &&& 15) < 4294967296 := Nat.xor_lt_two_pow (n := 32) h2 (crcT_lt _)
  refine acalls_of Proofs.Tryd.func159 rfl Proofs.Tryd.ntmps159 (by kernel_rfl) rfl ?_
  intro hH hargs
  clear hH hargs
  repeat' (first | ((refine Qa rfl ?_); (first | refine Q0 ?_ | refine Q1 ?_ | refine Q2 rfl ?_ | refine QG rfl rfl rfl rfl ?_); (refine QX rfl rfl ?_)) | refine Qa rfl ?_ | refine Qh ?_ | refine Ql ?_ | refine Qo rfl ?_)
  rw [wrap32 hx, xor32 hc hx]
  refine st_shr rfl rfl (by decide) ?_
  first | refine nx rfl rfl ?_ | refine nx0 ?_
  rw [shr4]
  repeat' (first | ((refine Qa rfl ?_); (first | refine Q0 ?_ | refine Q2 rfl ?_); (refine QX rfl rfl ?_)) | refine Qa rfl ?_)
  rw [and15i h1]
  refine st_index_fp (j := (c ^^^ x.toNat) &&& 15) rfl (and15 _) (crcT_at (and15 _)) rfl rfl rfl rfl rfl rfl ?_
  first | refine nx rfl rfl ?_ | refine nx0 ?_
  repeat' (first | ((refine Qa rfl ?_); (first | refine Q0 ?_ | refine Q1 ?_ | refine Q2 rfl ?_ | refine Q3 rfl rfl rfl ?_); (refine QX rfl rfl ?_)) | refine Qa rfl ?_ | refine Qh ?_ | refine Ql ?_ | refine Qo rfl ?_)
  rw [xor32 h2 (crcT_lt _)]
  refine st_shr rfl rfl (by decide) ?_
  first | refine nx rfl rfl ?_ | refine nx0 ?_
  rw [shr4]
  repeat' (first | ((refine Qa rfl ?_); (first | refine Q0 ?_ | refine Q2 rfl ?_); (refine QX rfl rfl ?_)) | refine Qa rfl ?_)
  rw [and15i h3]
  refine st_index_fp (j := (((c ^^^ x.toNat) >>> 4) ^^^ crcT ((c ^^^ x.toNat) &&& 15)) &&& 15) rfl (and15 _) (crcT_at (and15 _)) rfl rfl rfl rfl rfl rfl ?_
  first | refine nx rfl rfl ?_ | refine nx0 ?_
  repeat' (first | ((refine Qa rfl ?_); (first | refine Q1 ?_ | refine Q2 rfl ?_ | refine Q3 rfl rfl rfl ?_); (refine QX rfl rfl ?_)) | refine Qh ?_ | refine Qs ?_)
  refine awp_ret ?_
  refine ⟨_, rfl, ?_, ?_⟩
  · exact congrArg (AV.int .u32) (xor32 (Nat.lt_of_le_of_lt (Nat.shiftRight_le _ 4) h3) (crcT_lt _))
  · rfl
theorem notM (c : Nat) (hc : c < 4294967296) : ibits .xor .u32 (IntKind.u32.max) (c : Int) = ((c ^^^ crcM : Nat) : Int) := by
  have h : (IntKind.u32.max) = ((4294967295 : Nat) : Int) := by decide
  rw [h, xor32 (by decide) hc, Nat.xor_comm]; rfl
set_option maxHeartbeats 0 in
theorem crcUpd_c (X : Nat → Prop) (c : Nat) (hc : c < 4294967296) (l : List UInt8) (hl : l.length ≤ 1073741824) :
    ACalls (E0 X) 139 [u32A c, .sl 1 (l.map u8A)] [] (fun r H' => r = u32A (updN c l) ∧ H' = []) := by
  have hall : ∀ (k : Nat), (l.take k).foldl (fun c x => stepN c x.toNat) (c ^^^ crcM) < 4294967296 := fun k => by
    have h0 : c ^^^ crcM < 2 ^ 32 := Nat.xor_lt_two_pow hc (by decide)
    have : ∀ (l : List UInt8) (c : Nat), c < 4294967296 → l.foldl (fun c x => stepN c x.toNat) c < 4294967296 := by
      intro l
      induction l with
      | nil => intro c h; exact h
      | cons x l ih => intro c h; exact ih _ (stepN_lt h (by have := x.toNat_lt; omega))
    exact this _ _ h0
  refine acalls_of Proofs.Tryd.func139 rfl Proofs.Tryd.ntmps139 (by kernel_rfl) rfl ?_
  intro hH hargs
  clear hH hargs
  repeat' (first | ((refine Qa rfl ?_); (first | refine Q0 ?_ | refine Q1 ?_ | refine Q7 rfl rfl rfl ?_ | refine QD rfl ?_); (refine QX rfl rfl ?_)) | refine Qh ?_ | refine Ql ?_ | refine Qn ?_ | refine Qo rfl ?_)
  refine awp_loop2 (fun i : Nat => ⟨[(0, u32A ((l.take i).foldl (fun c x => stepN c x.toNat) (c ^^^ crcM))), (9, .sl 1 (l.map u8A)), (10, .int .i64 (l.length : Int)), (11, .int .i64 (i : Int))], []⟩) (fun i => i ≤ l.length) (fun i => l.length - i) 0 (Nat.zero_le _) ?_ ?_
  · refine imp_cutk 0 (Nat.zero_le _) hok_nil rfl (by simp) ?_
    refine fa_cons ⟨?_, trivial⟩ ?_
    · exact congrArg (AV.int .u32) (notM c hc)
    repeat' (first | exact fa_nil | refine fa_cons ⟨?_, ?_⟩ ?_)
    all_goals (try first | exact rfl | exact trivial | (simp [IdsLt]; done) | (simp [get_cons]; done) | (simp [get_cons, *]; done) | (refine congrArg (AV.int .i64) (wrap_eq ?_ ?_ ?_) <;> (first | omega | (simp; omega))))
  · rintro i hi
    repeat' (first | ((refine Qa rfl ?_); (refine Q2 rfl ?_); (refine QX rfl rfl ?_)) | refine Qh ?_ | refine Ql ?_ | refine Qo rfl ?_)
    refine awp_cond_dec rfl (fun h3 => ?_) (fun h3 => ?_)
    · have hi3 : i < l.length := by omega
      obtain ⟨q, hq⟩ : ∃ q, l[i]? = some q := ⟨_, List.getElem?_eq_getElem hi3⟩
      have hn : (l.take (i + 1)).foldl (fun c x => stepN c x.toNat) (c ^^^ crcM) = stepN ((l.take i).foldl (fun c x => stepN c x.toNat) (c ^^^ crcM)) q.toNat := by
        rw [List.take_add_one, hq, List.foldl_append]; rfl
      repeat' (first | refine Qa rfl ?_ | refine Ql ?_ | refine Qm ?_ | refine Qn ?_ | refine Qo rfl ?_)
      refine st_ixm hq rfl rfl rfl rfl rfl rfl rfl (by first | rfl | omega) rfl ?_
      first | refine nx rfl rfl ?_ | refine nx0 ?_
      repeat' (first | ((refine Qa rfl ?_); (first | refine Q0 ?_ | refine Q1 ?_ | refine Q3 rfl rfl rfl ?_); (refine QX rfl rfl ?_)) | refine Qa rfl ?_ | refine Qh ?_ | refine Qo rfl ?_)
      refine st_call (fun _ => rfl) rfl ?_
      refine ACalls.mono (crcStep_c X _ (hall i) q) ?_
      rintro r H' ⟨rfl, rfl⟩
      first | refine nx rfl rfl ?_ | refine nx0 ?_
      rw [← hn]
      repeat' (first | ((refine Qa rfl ?_); (first | refine Q0 ?_ | refine Q1 ?_ | refine Q2 rfl ?_); (refine QX rfl rfl ?_)) | refine Qh ?_ | refine Qo rfl ?_ | refine Qs ?_)
      refine ⟨i + 1, by omega, by omega, imp_cutk 0 (Nat.zero_le _) hok_nil rfl (by simp) ?_⟩
      repeat' (first | exact fa_nil | refine fa_cons ⟨?_, ?_⟩ ?_)
      all_goals (try first | exact rfl | exact trivial | (simp [IdsLt]; done) | (simp [get_cons]; done) | (simp [get_cons, *]; done) | (refine congrArg (AV.int .i64) (wrap_eq ?_ ?_ ?_) <;> (first | omega | (simp; omega))))
    · have hi3 : i = l.length := by omega
      subst hi3
      have h9 := hall l.length
      rw [List.take_length] at h9 ⊢
      repeat' (first | ((refine Qa rfl ?_); (first | refine Q0 ?_ | refine Q1 ?_ | refine QD rfl ?_); (refine QX rfl rfl ?_)) | refine Qh ?_ | refine Ql ?_ | refine Qo rfl ?_ | refine Qr ?_ | refine Qs ?_)
      refine awp_ret ?_
      refine ⟨_, rfl, ?_, ?_⟩
      · exact congrArg (AV.int .u32) (notM _ h9)
      · rfl
set_option maxHeartbeats 0 in
theorem crcSum_c (X : Nat → Prop) (l : List UInt8) (hl : l.length ≤ 1073741824) :
    ACalls (E0 X) 140 [.sl 1 (l.map u8A)] [] (fun r H' => r = u32A (updN 0 l) ∧ H' = []) := by
  refine acalls_of Proofs.Tryd.func140 rfl Proofs.Tryd.ntmps140 (by kernel_rfl) rfl ?_
  intro hH hargs
  clear hH hargs
  repeat' (first | ((refine Qa rfl ?_); (first | refine Q0 ?_ | refine Q1 ?_); (refine QX rfl rfl ?_)) | refine Qa rfl ?_ | refine Qh ?_ | refine Ql ?_ | refine Qo rfl ?_)
  refine st_call (fun _ => rfl) rfl ?_
  refine ACalls.mono (crcUpd_c X 0 (by decide) l hl) ?_
  rintro r H' ⟨rfl, rfl⟩
  first | refine nx rfl rfl ?_ | refine nx0 ?_
  repeat' (first | ((refine Qa rfl ?_); (refine Q1 ?_); (refine QX rfl rfl ?_)) | refine Qh ?_ | refine Qs ?_)
  refine awp_ret ?_
  refine ⟨_, rfl, ?_, ?_⟩
  · rfl
  · rfl
end Go.Abs
namespace Go.Abs
theorem hok_arr (l : List UInt8) : HOk 1 [some (.arr (l.map u8A) 5)] := fun j o ho => by
  match j, ho with
  | 0, ho => cases ho; exact idsL_map fun _ => u8A_ids
attribute [local irreducible] AStep aops AWp Nx awM
set_option maxHeartbeats 0 in
theorem beq_c (X : Nat → Prop) (a b : List UInt8) : ACalls (E0 X) 112 [.sl 1 (a.map u8A), .sl 1 (b.map u8A)] [] (fun r H' => r = .bool (decide (a = b)) ∧ H' = []) := by
  refine acalls_of Proofs.Tryd.func112 rfl Proofs.Tryd.ntmps112 (by kernel_rfl) rfl ?_
  intro hH hargs
  clear hH hargs
  repeat' (first | ((refine Qa rfl ?_); (first | refine Q0 ?_ | refine Q1 ?_); (refine QX rfl rfl ?_)) | refine Qa rfl ?_ | refine Qh ?_ | refine Ql ?_ | refine Qo rfl ?_)
  refine st_bstr (l := a) rfl rfl rfl rfl rfl rfl rfl ?_
  first | refine nx rfl rfl ?_ | refine nx0 ?_
  repeat' (first | ((refine Qa rfl ?_); (refine Q0 ?_); (refine QX rfl rfl ?_)) | refine Qa rfl ?_)
  refine st_bstr (l := b) rfl rfl rfl rfl rfl rfl rfl ?_
  first | refine nx rfl rfl ?_ | refine nx0 ?_
  repeat' (first | ((refine Qa rfl ?_); (first | refine Q1 ?_ | refine Q2 rfl ?_); (refine QX rfl rfl ?_)) | refine Qh ?_ | refine Qs ?_)
  refine awp_ret ?_
  refine ⟨_, rfl, ?_, ?_⟩
  · rfl
  · rfl
set_option maxHeartbeats 0 in
theorem grow_c (X : Nat → Prop) (n : Nat) (h0 : 0 < n) (hn : n ≤ 1073741824) : ACalls (E0 X) 158 [.nils, .int .i64 n] [] (fun r H' => r = .own 0 0 0 ∧ H' = [some (.arr ((([] : List UInt8)).map u8A) 5)]) := by
  refine acalls_of Proofs.Tryd.func158 rfl Proofs.Tryd.ntmps158 (by kernel_rfl) rfl ?_
  intro hH hargs
  clear hH hargs
  repeat' (first | ((refine Qa rfl ?_); (first | refine Q0 ?_ | refine Q1 ?_ | refine Q2 rfl ?_); (refine QX rfl rfl ?_)) | refine Qa rfl ?_ | refine Qh ?_ | refine Ql ?_ | refine Qm ?_ | refine Qo rfl ?_ | refine Qq rfl ?_)
  refine st_cap_nil rfl rfl rfl ?_
  first | refine nx rfl rfl ?_ | refine nx0 ?_
  repeat' (first | ((refine Qa rfl ?_); (first | refine Q0 ?_ | refine Q1 ?_ | refine Q2 rfl ?_ | refine Q7 rfl rfl rfl ?_); (refine QX rfl rfl ?_)) | refine Qh ?_ | refine Ql ?_ | refine Qo rfl ?_ | refine Qs ?_)
  have hw : IntKind.i64.wrap ((n : Int) - 0) = (n : Int) := wrap_eq (by omega) (by omega) (by omega)
  have hw2 : IntKind.i64.wrap ((n : Int) - IntKind.i64.wrap (0 - ((0 : Nat) : Int))) = (n : Int) := by
    rw [show IntKind.i64.wrap (0 - ((0 : Nat) : Int)) = 0 from rfl]; exact hw
  rw [hw2]
  refine awp_cond_dec rfl (fun h8 => ?_) (fun h8 => ?_)
  · skip
    repeat' (first | ((refine Qa rfl ?_); (refine Q0 ?_); (refine QX rfl rfl ?_)) | refine Qa rfl ?_ | refine Qo rfl ?_)
    refine st_cap_nil rfl rfl rfl ?_
    first | refine nx rfl rfl ?_ | refine nx0 ?_
    repeat' (refine Qa rfl ?_)
    refine st_slice_nil rfl rfl rfl rfl (bnd_none) (bnd_some rfl rfl) ?_
    first | refine nx rfl rfl ?_ | refine nx0 ?_
    repeat' (first | ((refine Qa rfl ?_); (refine Q0 ?_); (refine QX rfl rfl ?_)) | refine Qa rfl ?_)
    refine st_append_z (n := n) rfl h0 hn rfl rfl rfl rfl rfl rfl rfl rfl rfl rfl ?_
    first | refine nx rfl rfl ?_ | refine nx0 ?_
    repeat' (first | ((refine Qa rfl ?_); (first | refine Q0 ?_ | refine Q7 rfl rfl rfl ?_); (refine QX rfl rfl ?_)) | refine Qa rfl ?_)
    refine st_slo (l := 0) (h := 0) (lo' := 0) (n' := 0) (bnd_none) (bnd_some rfl rfl) (by omega) (by first | omega | (simp; omega)) (by omega) (by omega) rfl rfl rfl rfl rfl rfl rfl ?_
    first | refine nx rfl rfl ?_ | refine nx0 ?_
    repeat' (first | ((refine Qa rfl ?_); (first | refine Q0 ?_ | refine Q1 ?_); (refine QX rfl rfl ?_)) | refine Qh ?_ | refine Ql ?_ | refine Qo rfl ?_ | refine Qs ?_)
    refine awp_pre (imp_shrink (id := 0) (n := 0) (es := List.replicate n (u8A 0)) (e := 5) rfl) ?_
    refine awp_ret ?_
    refine ⟨_, rfl, ?_, ?_⟩
    · rfl
    · simp
  · omega
def mayB (kind salt sector : Int) : Bool := decide (1 ≤ kind ∧ kind ≤ 4 ∧ 0 ≤ salt ∧ 0 ≤ sector ∧ sector < 1048576)
set_option maxHeartbeats 0 in
theorem possible_c (X : Nat → Prop) (kind salt sector : Int) : ACalls (E0 X) 137 [.int .i64 kind, .int .i64 salt, .int .i64 sector] [] (fun r H' => r = .bool (mayB kind salt sector) ∧ H' = []) := by
  refine acalls_of Proofs.Tryd.func137 rfl Proofs.Tryd.ntmps137 (by kernel_rfl) rfl ?_
  intro hH hargs
  clear hH hargs
  repeat' (first | ((refine Qa rfl ?_); (first | refine Q0 ?_ | refine Q1 ?_ | refine Q2 rfl ?_ | refine Q5 rfl ?_); (refine QX rfl rfl ?_)) | refine Qh ?_ | refine Qi rfl ?_ | refine Ql ?_ | refine Qo rfl ?_ | refine Qs ?_ | ((fail_if_success refine QV rfl ?_); refine Qy rfl rfl (fun _ => ?_) (fun _ => ?_)))
  all_goals (refine awp_ret ?_; refine ⟨_, rfl, ?_, rfl⟩; simp [mayB, get_cons, one, *])
def sl8A (l : List UInt8) : AV := .sl 1 (l.map u8A)
@[simp] theorem sl8_ids {n : Nat} {l : List UInt8} : IdsLt n (sl8A l) := idsL_map fun _ => u8A_ids
theorem len_take {ls : List (List UInt8)} {i : Nat} {q : List UInt8} (h : ls[i]? = some q) : (ls.take (i + 1)).flatten.length = (ls.take i).flatten.length + q.length := by
  rw [List.take_add_one, h]; simp
theorem len_le (ls : List (List UInt8)) (i : Nat) : (ls.take i).flatten.length ≤ ls.flatten.length := by
  have h : ls.flatten = (ls.take i).flatten ++ (ls.drop i).flatten := by rw [← List.flatten_append, List.take_append_drop]
  rw [h]; simp
set_option maxHeartbeats 0 in
theorem concat_own (X : Nat → Prop) (ls : List (List UInt8)) (h0 : 0 < ls.flatten.length) (hn : ls.flatten.length ≤ 1048576) (hl : ls.length ≤ 1048576) :
    ACalls (E0 X) 138 [.sl 1 (ls.map sl8A)] [] (fun r H' => r = .own 0 0 ls.flatten.length ∧ H' = [some (.arr (ls.flatten.map u8A) 5)]) := by
  refine acalls_of Proofs.Tryd.func138 rfl Proofs.Tryd.ntmps138 (by kernel_rfl) rfl ?_
  intro hH hargs
  clear hH hargs
  repeat' (first | ((refine Qa rfl ?_); (first | refine Q0 ?_ | refine Q1 ?_ | refine Q7 rfl rfl rfl ?_); (refine QX rfl rfl ?_)) | refine Qh ?_ | refine Ql ?_ | refine Qn ?_ | refine Qo rfl ?_)
  refine awp_loop2 (fun i : Nat => ⟨[(0, .sl 1 (ls.map sl8A)), (3, .int .i64 ((ls.take i).flatten.length : Int)), (9, .sl 1 (ls.map sl8A)), (10, .int .i64 (ls.length : Int)), (11, .int .i64 (i : Int))], []⟩) (fun i => i ≤ ls.length) (fun i => ls.length - i) 0 (Nat.zero_le _) ?_ ?_
  · refine imp_cutk 0 (Nat.zero_le _) hok_nil rfl (by simp) ?_
    repeat' (first | exact fa_nil | refine fa_cons ⟨?_, ?_⟩ ?_)
    all_goals (try first | exact rfl | exact trivial | (simp [IdsLt]; done) | (simp [get_cons]; done) | (simp [get_cons, *]; done) | (refine congrArg (AV.int .i64) (wrap_eq ?_ ?_ ?_) <;> (first | omega | (simp; omega))))
  rintro i hi
  repeat' (first | ((refine Qa rfl ?_); (refine Q2 rfl ?_); (refine QX rfl rfl ?_)) | refine Qh ?_ | refine Ql ?_ | refine Qo rfl ?_)
  refine awp_cond_dec rfl (fun h3 => ?_) (fun h3 => ?_)
  · have hi3 : i < ls.length := by omega
    obtain ⟨q, hq⟩ : ∃ q, ls[i]? = some q := ⟨_, List.getElem?_eq_getElem hi3⟩
    have hs := len_take hq
    have hle := len_le ls (i + 1)
    have hw : IntKind.i64.wrap (((ls.take i).flatten.length : Int) + ((q.map u8A).length : Int)) = ((ls.take (i + 1)).flatten.length : Int) := wrap_eq (by rw [hs]; simp) (by omega) (by omega)
    repeat' (first | refine Qa rfl ?_ | refine Ql ?_ | refine Qm ?_ | refine Qn ?_ | refine Qo rfl ?_)
    refine st_ixm hq rfl rfl rfl rfl rfl rfl rfl (by first | rfl | omega) rfl ?_
    first | refine nx rfl rfl ?_ | refine nx0 ?_
    repeat' (first | ((refine Qa rfl ?_); (first | refine Q0 ?_ | refine Q1 ?_ | refine Q2 rfl ?_ | refine Q3 rfl rfl rfl ?_ | refine Q7 rfl rfl rfl ?_); (refine QX rfl rfl ?_)) | refine Qh ?_ | refine Ql ?_ | refine Qo rfl ?_ | refine Qs ?_)
    rw [hw]
    refine awp_cond rfl (fun h9 => ?_) (fun _ => ?_)
    · simp at h9; omega
    repeat' (first | ((refine Qa rfl ?_); (first | refine Q0 ?_ | refine Q2 rfl ?_); (refine QX rfl rfl ?_)) | refine Qh ?_ | refine Qm ?_ | refine Qo rfl ?_ | refine Qs ?_)
    refine ⟨i + 1, by omega, by omega, imp_cutk 0 (Nat.zero_le _) hok_nil rfl (by simp) ?_⟩
    repeat' (first | exact fa_nil | refine fa_cons ⟨?_, ?_⟩ ?_)
    all_goals (try first | exact rfl | exact trivial | (simp [IdsLt]; done) | (simp [get_cons]; done) | (simp [get_cons, *]; done) | (refine congrArg (AV.int .i64) (wrap_eq ?_ ?_ ?_) <;> (first | omega | (simp; omega))))
  have hi3 : i = ls.length := by omega
  subst hi3
  rw [List.take_length]
  repeat' (first | ((refine Qa rfl ?_); (refine Q0 ?_); (refine QX rfl rfl ?_)) | refine Qa rfl ?_ | refine Ql ?_ | refine Qo rfl ?_ | refine Qr ?_)
  refine st_call (fun _ => rfl) rfl ?_
  refine ACalls.mono (grow_c X _ h0 (by omega)) ?_
  rintro r H' ⟨rfl, rfl⟩
  first | refine nx rfl rfl ?_ | refine nx0 ?_
  repeat' (first | ((refine Qa rfl ?_); (first | refine Q0 ?_ | refine Q1 ?_ | refine Q7 rfl rfl rfl ?_); (refine QX rfl rfl ?_)) | refine Qh ?_ | refine Ql ?_ | refine Qn ?_ | refine Qo rfl ?_)
  refine awp_loop2 (fun i : Nat => ⟨[(6, .own 0 0 (ls.take i).flatten.length), (25, .sl 1 (ls.map sl8A)), (26, .int .i64 (ls.length : Int)), (27, .int .i64 (i : Int))], [some (.arr ((ls.take i).flatten.map u8A) 5)]⟩) (fun i => i ≤ ls.length) (fun i => ls.length - i) 0 (Nat.zero_le _) ?_ ?_
  · refine imp_cutk 1 (Nat.zero_le _) (hok_arr _) rfl (by simp) ?_
    repeat' (first | exact fa_nil | refine fa_cons ⟨?_, ?_⟩ ?_)
    all_goals (try first | exact rfl | exact trivial | (simp [IdsLt]; done) | (simp [get_cons]; done) | (simp [get_cons, *]; done) | (refine congrArg (AV.int .i64) (wrap_eq ?_ ?_ ?_) <;> (first | omega | (simp; omega))))
  rintro i hi
  repeat' (first | ((refine Qa rfl ?_); (refine Q2 rfl ?_); (refine QX rfl rfl ?_)) | refine Qh ?_ | refine Ql ?_ | refine Qo rfl ?_)
  refine awp_cond_dec rfl (fun h4 => ?_) (fun h4 => ?_)
  · have hi4 : i < ls.length := by omega
    obtain ⟨q, hq⟩ : ∃ q, ls[i]? = some q := ⟨_, List.getElem?_eq_getElem hi4⟩
    have hs := len_take hq
    have hle := len_le ls (i + 1)
    repeat' (first | refine Qa rfl ?_ | refine Ql ?_ | refine Qm ?_ | refine Qn ?_ | refine Qo rfl ?_)
    refine st_ixm hq rfl rfl rfl rfl rfl rfl rfl (by first | rfl | omega) rfl ?_
    first | refine nx rfl rfl ?_ | refine nx0 ?_
    repeat' (first | ((refine Qa rfl ?_); (first | refine Q0 ?_ | refine Q1 ?_ | refine Q3 rfl rfl rfl ?_); (refine QX rfl rfl ?_)) | refine Qa rfl ?_ | refine Qh ?_ | refine Qo rfl ?_)
    refine st_app (oid := some 0) (es := (ls.take i).flatten.map u8A) (out := (ls.take (i + 1)).flatten.map u8A) (n := (ls.take (i + 1)).flatten.length) (dst_own rfl (List.length_map _).symm) (rfl) (oneEs_u8 _) (by rw [List.take_add_one, hq]; simp) (by rw [hs, List.length_map, List.length_map]) (by show _ ≤ 9223372036854775807; omega) (by show _ * 1 ≤ _; omega) rfl rfl rfl rfl rfl rfl rfl rfl ?_
    first | refine nx rfl rfl ?_ | refine nx0 ?_
    repeat' (first | ((refine Qa rfl ?_); (first | refine Q0 ?_ | refine Q1 ?_ | refine Q2 rfl ?_); (refine QX rfl rfl ?_)) | refine Qh ?_ | refine Qo rfl ?_ | refine Qs ?_)
    refine ⟨i + 1, by omega, by omega, ?_⟩
    refine imp_tid 0 [1] (H' := [some (.arr ((ls.take (i + 1)).flatten.map u8A) 5)]) (os := [.arr ((ls.take (i + 1)).flatten.map u8A) 5]) (Nat.le_refl _) (Nat.zero_le _) (by simp) (by simp) (by simp [HOk]) rfl rfl ?_ ?_
    · refine fa_cons (ren_own rfl) (fa_cons (ren_lt rfl (idsL_map fun _ => sl8_ids)) (fa_cons (ren_lt rfl trivial) (fa_cons (ren_lt ?_ trivial) fa_nil)))
      exact congrArg (AV.int .i64) (wrap_eq (by omega) (by omega) (by omega))
    · exact os_cons rfl (renO_old 0 (fun i h => absurd h (Nat.not_lt_zero i)) (idsL_map fun _ => u8A_ids)) os_nil
  have hi4 : i = ls.length := by omega
  subst hi4
  rw [List.take_length]
  repeat' (first | ((refine Qa rfl ?_); (first | refine Q0 ?_ | refine Q1 ?_); (refine QX rfl rfl ?_)) | refine Qh ?_ | refine Ql ?_ | refine Qo rfl ?_ | refine Qr ?_ | refine Qs ?_)
  refine awp_ret ?_
  refine ⟨_, rfl, ?_, ?_⟩
  · rfl
  · rfl
theorem concat_c (X : Nat → Prop) (ls : List (List UInt8)) (h0 : 0 < ls.flatten.length) (hn : ls.flatten.length ≤ 1048576) (hl : ls.length ≤ 1048576) :
    ACalls (E0 X) 138 [.sl 1 (ls.map sl8A)] [] (fun r H' => r = .sl 1 (ls.flatten.map u8A) ∧ H' = []) :=
  ACalls.froz 1 (concat_own X ls h0 hn hl) (List.length_map _).symm rfl rfl hok_nil (idsL_map fun _ => u8A_ids)
end Go.Abs
namespace Go.Abs
/-- The byte of n at a shift. -/
def byteAt (n s : Nat) : UInt8 := UInt8.ofNat (n / 2 ^ s % 256)
def putB (n w i : Nat) : List UInt8 := (List.range i).map fun j => byteAt n (8 * (w - 1 - j))
def putN (b : List UInt8) (n w : Nat) : List UInt8 := b ++ putB n w w
theorem putB_len (n w i : Nat) : (putB n w i).length = i := by simp [putB]
theorem putB_succ (n w i : Nat) : putB n w (i + 1) = putB n w i ++ [byteAt n (8 * (w - 1 - i))] := by simp [putB, List.range_succ]
theorem putN_len (b : List UInt8) (n w : Nat) : (putN b n w).length = b.length + w := by simp [putN, putB_len]
theorem byte_conv (n s : Nat) (hs : s ≤ 64) : AV.int .u8 (IntKind.u8.wrap ((n : Int).fdiv (2 ^ (min ((s : Nat) : Int).toNat IntKind.u64.bits)))) = u8A (byteAt n s) := by
  have h : (2 : Int) ^ (min ((s : Nat) : Int).toNat IntKind.u64.bits) = ((2 ^ s : Nat) : Int) := by
    have : min ((s : Nat) : Int).toNat IntKind.u64.bits = s := by simp [IntKind.bits]; omega
    rw [this]; simp
  have h2 : (n : Int).fdiv ((2 ^ s : Nat) : Int) = ((n / 2 ^ s : Nat) : Int) := by
    rw [Int.fdiv_eq_ediv_of_nonneg _ (Int.natCast_nonneg _)]; exact (Int.natCast_ediv n (2 ^ s)).symm
  have h3 : IntKind.u8.wrap ((n / 2 ^ s : Nat) : Int) = ((n / 2 ^ s % 256 : Nat) : Int) := by
    simp [IntKind.wrap, IntKind.signed, IntKind.bits]
  rw [h, h2, h3]
  simp only [u8A, byteAt]
  congr 1
  rw [UInt8.toNat_ofNat']
  omega
attribute [local irreducible] AStep aops AWp Nx awM
set_option maxHeartbeats 0 in
theorem put_own (X : Nat → Prop) (b : List UInt8) (n w : Nat) (hw : 1 ≤ w) (hw8 : w ≤ 8) (hb : b.length ≤ 1048576) :
    ACalls (E0 X) 102 [.sl 1 (b.map u8A), .int .u64 (n : Int), .int .i64 (w : Int)] [] (fun r H' => r = .own 0 0 (b.length + w) ∧ H' = [some (.arr ((putN b n w).map u8A) 5)]) := by
  refine acalls_of Proofs.Tryd.func102 rfl Proofs.Tryd.ntmps102 (by kernel_rfl) rfl ?_
  intro hH hargs
  clear hH hargs
  repeat' (first | ((refine Qa rfl ?_); (first | refine Q0 ?_ | refine Q1 ?_); (refine QX rfl rfl ?_)) | refine Qa rfl ?_ | refine Qh ?_ | refine Ql ?_ | refine Qo rfl ?_)
  refine st_call (fun _ => rfl) rfl ?_
  refine ACalls.mono (clone_sl X b (by omega)) ?_
  rintro r H' ⟨rfl, rfl⟩
  first | refine nx rfl rfl ?_ | refine nx0 ?_
  repeat' (first | ((refine Qa rfl ?_); (first | refine Q0 ?_ | refine Q1 ?_ | refine Q2 rfl ?_ | refine Q5 rfl ?_); (refine QX rfl rfl ?_)) | refine Qh ?_ | refine Qi rfl ?_ | refine Ql ?_ | refine Qo rfl ?_ | refine Qp rfl ?_ | refine Qs ?_ | ((fail_if_success refine QV rfl ?_); refine Qy rfl rfl (fun _ => ?_) (fun _ => ?_)))
  · omega
  rename_i h1
  refine awp_cond_dec rfl (fun h2 => ?_) (fun h2 => ?_)
  · omega
  have e1 : IntKind.i64.wrap (8 * IntKind.i64.wrap ((w : Int) - 1)) = 8 * ((w : Int) - 1 - 0) := by
    have h3 : IntKind.i64.wrap ((w : Int) - 1) = (w : Int) - 1 := wrap_in (by omega) (by omega)
    rw [h3, wrap_in (by omega) (by omega)]; omega
  repeat' (first | ((refine Qa rfl ?_); (first | refine Q0 ?_ | refine Q1 ?_ | refine Q2 rfl ?_); (refine QX rfl rfl ?_)) | refine Qh ?_ | refine Ql ?_ | refine Qm ?_ | refine Qn ?_ | refine Qo rfl ?_)
  rw [e1]
  refine awp_loop2 (fun i : Nat => ⟨[(1, .int .u64 (n : Int)), (7, .own 0 0 (b.length + i)), (8, .int .i64 (8 * ((w : Int) - 1 - (i : Int))))], [some (.arr ((b ++ putB n w i).map u8A) 5)]⟩) (fun i => i ≤ w) (fun i => w - i) 0 (Nat.zero_le _) ?_ ?_
  · refine imp_cutk 1 (Nat.zero_le _) (hok_arr _) (by simp [putB]) (by simp) ?_
    repeat' (first | exact fa_nil | refine fa_cons ⟨?_, ?_⟩ ?_)
    all_goals (try first | exact rfl | exact trivial | (simp [IdsLt]; done) | (simp [get_cons]; done) | (simp [get_cons, *]; done) | (refine congrArg (AV.int .i64) (wrap_eq ?_ ?_ ?_) <;> (first | omega | (simp; omega))))
  rintro i hi
  repeat' (first | ((refine Qa rfl ?_); (first | refine Q0 ?_ | refine Q2 rfl ?_); (refine QX rfl rfl ?_)) | refine Qh ?_ | refine Ql ?_ | refine Qo rfl ?_ | refine Qs ?_)
  refine awp_cond_dec rfl (fun h3 => ?_) (fun h3 => ?_)
  · have hi3 : i < w := by omega
    have hsh : 8 * ((w : Int) - 1 - (i : Int)) = ((8 * (w - 1 - i) : Nat) : Int) := by omega
    rw [hsh]
    repeat' (first | ((refine Qa rfl ?_); (refine Q0 ?_); (refine QX rfl rfl ?_)) | refine Qa rfl ?_ | refine Ql ?_ | refine Qm ?_ | refine Qn ?_ | refine Qo rfl ?_)
    refine st_shr rfl rfl (by omega) ?_
    first | refine nx rfl rfl ?_ | refine nx0 ?_
    repeat' (first | ((refine Qa rfl ?_); (first | refine QG rfl rfl rfl rfl ?_ | refine QR rfl rfl rfl rfl rfl rfl rfl rfl rfl rfl rfl rfl ?_); (refine QX rfl rfl ?_)) | refine Qa rfl ?_)
    rw [byte_conv n _ (by omega)]
    refine st_app (oid := some 0) (es := (b ++ putB n w i).map u8A) (out := (b ++ putB n w (i + 1)).map u8A) (n := b.length + (i + 1)) (dst_own rfl (by simp [putB_len])) (rfl) (oneEs_u8 [byteAt n (8 * (w - 1 - i))]) (by rw [putB_succ]; simp) (by simp [putB_len]; omega) (by show _ ≤ 9223372036854775807; omega) (by show _ * 1 ≤ _; omega) rfl rfl rfl rfl rfl rfl rfl rfl ?_
    first | refine nx rfl rfl ?_ | refine nx0 ?_
    repeat' (first | ((refine Qa rfl ?_); (first | refine Q0 ?_ | refine Q1 ?_ | refine Q2 rfl ?_); (refine QX rfl rfl ?_)) | refine Qh ?_ | refine Qo rfl ?_ | refine Qs ?_)
    refine ⟨i + 1, by omega, by omega, ?_⟩
    refine imp_tid 0 [1] (H' := [some (.arr ((b ++ putB n w (i + 1)).map u8A) 5)]) (os := [.arr ((b ++ putB n w (i + 1)).map u8A) 5]) (Nat.le_refl _) (Nat.zero_le _) (by simp) (by simp) (by simp [HOk]) rfl rfl ?_ ?_
    · refine fa_cons (ren_lt rfl trivial) (fa_cons (ren_own rfl) (fa_cons (ren_lt ?_ trivial) fa_nil))
      exact congrArg (AV.int .i64) (wrap_eq (by omega) (by omega) (by omega))
    · exact os_cons rfl (renO_old 0 (fun i h => absurd h (Nat.not_lt_zero i)) (idsL_map fun _ => u8A_ids)) os_nil
  have hi3 : i = w := by omega
  subst hi3
  repeat' (first | ((refine Qa rfl ?_); (first | refine Q0 ?_ | refine Q1 ?_); (refine QX rfl rfl ?_)) | refine Qh ?_ | refine Ql ?_ | refine Qo rfl ?_ | refine Qr ?_ | refine Qs ?_)
  refine awp_ret ?_
  refine ⟨_, rfl, ?_, ?_⟩
  · rfl
  · rfl
theorem put_c (X : Nat → Prop) (b : List UInt8) (n w : Nat) (hw : 1 ≤ w) (hw8 : w ≤ 8) (hb : b.length ≤ 1048576) :
    ACalls (E0 X) 102 [.sl 1 (b.map u8A), .int .u64 (n : Int), .int .i64 (w : Int)] [] (fun r H' => r = .sl 1 ((putN b n w).map u8A) ∧ H' = []) :=
  ACalls.froz 1 (put_own X b n w hw hw8 hb) (by rw [List.length_map, putN_len]) rfl rfl hok_nil (idsL_map fun _ => u8A_ids)
theorem rel_nils {E : Env} {m : Mu} {w : World} {v : Value} (k : Nat) (h : E.Rel m w .nils v) : E.Rel m w (.sl k []) v := by
  simp only [Env.Rel, Abs.Rel] at h ⊢
  subst h
  exact ⟨none, 0, [], rfl, Nat.le_refl _, Nat.zero_le _, by simp [Abs.RelL], by simp, by simp [Fz, flat]⟩
theorem ACalls.weak {E : Env} {f : FuncId} {args args' : List AV} {H : Hp} {R : AV → Hp → Prop} (h : ACalls E f args' H R) (hw : ∀ m w vs, E.RelL m w args vs → E.RelL m w args' vs) : ACalls E f args H R :=
  ⟨h.1, fun m w vs h1 h2 h3 h4 => h.2 m w vs h1 h2 (hw m w vs h3) h4⟩
theorem putnil_c (X : Nat → Prop) (n w : Nat) (hw : 1 ≤ w) (hw8 : w ≤ 8) :
    ACalls (E0 X) 102 [.nils, .int .u64 (n : Int), .int .i64 (w : Int)] [] (fun r H' => r = .sl 1 ((putN [] n w).map u8A) ∧ H' = []) :=
  ACalls.weak (put_c X [] n w hw hw8 (by simp)) fun m w vs h => by
    obtain ⟨u1, r1, rfl, h1, h⟩ := relL_cons.1 h
    exact RelL.cons (rel_nils 1 h1) h
end Go.Abs
namespace Go.Abs
theorem byte_of (k : Nat) : AV.int .u8 (IntKind.u8.wrap (k : Int)) = u8A (UInt8.ofNat (k % 256)) := by
  have h3 : IntKind.u8.wrap (k : Int) = ((k % 256 : Nat) : Int) := by
    simp [IntKind.wrap, IntKind.signed, IntKind.bits]
  rw [h3]
  simp only [u8A]
  congr 1
  rw [UInt8.toNat_ofNat']
  omega
theorem wrap64 {n : Nat} (h : n < 18446744073709551616) : IntKind.u64.wrap (n : Int) = n := by
  simp [IntKind.wrap, IntKind.signed, IntKind.bits]
  omega
def frB (kind : Nat) (p : List UInt8) : List UInt8 := UInt8.ofNat (kind % 256) :: (p ++ List.replicate (59 - p.length) 0)
def frSum (salt sector : Nat) (b : List UInt8) : Nat := updN (updN 0 (putN (putN [] salt 8) sector 4)) b
def encF (kind salt sector : Nat) (p : List UInt8) : List UInt8 := putN (frB kind p) (frSum salt sector (frB kind p)) 4
theorem frB_len {kind : Nat} {p : List UInt8} (hp : p.length ≤ 59) : (frB kind p).length = 60 := by simp [frB]; omega
theorem encF_len {kind salt sector : Nat} {p : List UInt8} (hp : p.length ≤ 59) : (encF kind salt sector p).length = 64 := by rw [encF, putN_len, frB_len hp]
attribute [local irreducible] AStep aops AWp Nx awM
set_option maxHeartbeats 0 in
set_option maxRecDepth 100000 in
theorem fenc_c (X : Nat → Prop) (kind salt sector : Nat) (p : List UInt8) (hm : 1 ≤ kind ∧ kind ≤ 4 ∧ sector < 1048576) (hs : salt < 9223372036854775808) (hp : p.length ≤ 59) :
    ACalls (E0 X) 103 [.int .i64 (kind : Int), .int .i64 (salt : Int), .int .i64 (sector : Int), .sl 1 (p.map u8A)] [] (fun r H' => r = .tup [.sl 1 ((encF kind salt sector p).map u8A), .int .i64 0] ∧ H' = []) := by
  have hmay : mayB (kind : Int) (salt : Int) (sector : Int) = true := by simp [mayB]; omega
  have hpos := possible_c X kind salt sector
  rw [hmay] at hpos
  have hcc := concat_c X [[UInt8.ofNat (kind % 256)], p, List.replicate (59 - p.length) 0] (by simp) (by simp; omega) (by simp)
  rw [show [[UInt8.ofNat (kind % 256)], p, List.replicate (59 - p.length) 0].flatten = frB kind p by simp [frB]] at hcc
  have hmk : IntKind.i64.wrap (59 - ((p.map u8A).length : Int)) = ((59 - p.length : Nat) : Int) := by rw [List.length_map]; exact wrap_eq (by omega) (by omega) (by omega)
  have hbl := frB_len (kind := kind) hp
  refine acalls_of Proofs.Tryd.func103 rfl Proofs.Tryd.ntmps103 (by kernel_rfl) rfl ?_
  intro hH hargs
  clear hH hargs
  repeat' (first | ((refine Qa rfl ?_); (first | refine Q0 ?_ | refine Q1 ?_); (refine QX rfl rfl ?_)) | refine Qa rfl ?_ | refine Qh ?_ | refine Ql ?_ | refine Qn ?_ | refine Qo rfl ?_)
  refine st_call (fun _ => rfl) rfl ?_
  refine ACalls.mono (hpos) ?_
  rintro r H' ⟨rfl, rfl⟩
  first | refine nx rfl rfl ?_ | refine nx0 ?_
  repeat' (first | ((refine Qa rfl ?_); (first | refine Q0 ?_ | refine Q1 ?_ | refine Q2 rfl ?_ | refine Q7 rfl rfl rfl ?_ | refine QD rfl ?_); (refine QX rfl rfl ?_)) | refine Qh ?_ | refine Ql ?_ | refine Qo rfl ?_ | refine Qq rfl ?_ | refine Qs ?_)
  refine awp_cond_dec rfl (fun h9 => ?_) (fun h9 => ?_)
  · exfalso; simp at h9; omega
  repeat' (first | ((refine Qa rfl ?_); (first | refine Q0 ?_ | refine Q2 rfl ?_ | refine Q7 rfl rfl rfl ?_ | refine QG rfl rfl rfl rfl ?_ | refine QR rfl rfl rfl rfl rfl rfl rfl rfl rfl rfl rfl rfl ?_); (refine QX rfl rfl ?_)) | refine Qa rfl ?_ | refine Ql ?_ | refine Qm ?_ | refine Qo rfl ?_)
  rw [byte_of]
  refine st_mks (n := 59 - p.length) (el := u8A 0) rfl rfl (hmk) (hmk) ?_ ?_ rfl rfl rfl rfl rfl rfl (.inr rfl) (.inr rfl) rfl rfl ?_
  · show 1 * _ ≤ 281474976710656
    first
    | omega
    | (simp; omega)
  · show _ ≤ 9223372036854775807
    omega
  first | refine nx rfl rfl ?_ | refine nx0 ?_
  rw [show List.replicate (59 - p.length) (u8A 0) = (List.replicate (59 - p.length) (0 : UInt8)).map u8A by simp]
  repeat' (first | ((refine Qa rfl ?_); (refine QR rfl rfl rfl rfl rfl rfl rfl rfl rfl rfl rfl rfl ?_); (refine QX rfl rfl ?_)) | refine Qa rfl ?_)
  refine st_call (fun _ => rfl) rfl ?_
  refine ACalls.mono (hcc) ?_
  rintro r H' ⟨rfl, rfl⟩
  first | refine nx rfl rfl ?_ | refine nx0 ?_
  generalize hfb : frB kind p = b at *
  repeat' (first | ((refine Qa rfl ?_); (first | refine Q0 ?_ | refine Q1 ?_ | refine QG rfl rfl rfl rfl ?_); (refine QX rfl rfl ?_)) | refine Qa rfl ?_ | refine Qh ?_ | refine Ql ?_ | refine Qo rfl ?_)
  rw [wrap64 (by omega)]
  refine st_call (fun _ => rfl) rfl ?_
  refine ACalls.mono (putnil_c X salt 8 (by decide) (by decide)) ?_
  rintro r H' ⟨rfl, rfl⟩
  first | refine nx rfl rfl ?_ | refine nx0 ?_
  repeat' (first | ((refine Qa rfl ?_); (first | refine Q0 ?_ | refine QG rfl rfl rfl rfl ?_); (refine QX rfl rfl ?_)) | refine Qa rfl ?_)
  rw [wrap64 (by omega)]
  refine st_call (fun _ => rfl) rfl ?_
  refine ACalls.mono (put_c X (putN [] salt 8) sector 4 (by decide) (by decide) (by rw [putN_len]; simp)) ?_
  rintro r H' ⟨rfl, rfl⟩
  first | refine nx rfl rfl ?_ | refine nx0 ?_
  repeat' (first | ((refine Qa rfl ?_); (first | refine Q0 ?_ | refine Q1 ?_); (refine QX rfl rfl ?_)) | refine Qa rfl ?_ | refine Qh ?_ | refine Ql ?_ | refine Qo rfl ?_)
  refine st_call (fun _ => rfl) rfl ?_
  refine ACalls.mono (crcSum_c X (putN (putN [] salt 8) sector 4) (by rw [putN_len, putN_len]; simp)) ?_
  rintro r H' ⟨rfl, rfl⟩
  first | refine nx rfl rfl ?_ | refine nx0 ?_
  repeat' (first | ((refine Qa rfl ?_); (refine Q0 ?_); (refine QX rfl rfl ?_)) | refine Qa rfl ?_)
  refine st_call (fun _ => rfl) rfl ?_
  refine ACalls.mono (crcUpd_c X (updN 0 (putN (putN [] salt 8) sector 4)) (updN_lt (by decide) _) b (by omega)) ?_
  rintro r H' ⟨rfl, rfl⟩
  first | refine nx rfl rfl ?_ | refine nx0 ?_
  have hlt : updN (updN 0 (putN (putN [] salt 8) sector 4)) b < 4294967296 := updN_lt (updN_lt (by decide) _) _
  repeat' (first | ((refine Qa rfl ?_); (first | refine Q0 ?_ | refine Q1 ?_ | refine QG rfl rfl rfl rfl ?_); (refine QX rfl rfl ?_)) | refine Qa rfl ?_ | refine Qh ?_ | refine Ql ?_ | refine Qo rfl ?_)
  rw [wrap64 (by omega)]
  refine st_call (fun _ => rfl) rfl ?_
  refine ACalls.mono (put_c X b (updN (updN 0 (putN (putN [] salt 8) sector 4)) b) 4 (by decide) (by decide) (by omega)) ?_
  rintro r H' ⟨rfl, rfl⟩
  first | refine nx rfl rfl ?_ | refine nx0 ?_
  repeat' (first | ((refine Qa rfl ?_); (refine Q1 ?_); (refine QX rfl rfl ?_)) | refine Qh ?_ | refine Qs ?_)
  refine awp_ret ?_
  refine ⟨_, rfl, ?_, ?_⟩
  · rw [encF, hfb]; rfl
  · rfl
def decF (kind salt sector : Nat) (b : List UInt8) : Option (List UInt8) :=
  if b.length = 64 ∧ encF kind salt sector ((b.drop 1).take 59) = b then some ((b.drop 1).take 59) else none
def optA (o : Option (List UInt8)) : AV := match o with
  | some p => .tup [.sl 1 (p.map u8A), .bool true]
  | none => .tup [.nils, .bool false]
set_option maxHeartbeats 0 in
set_option maxRecDepth 100000 in
theorem fdec_c (X : Nat → Prop) (kind salt sector : Nat) (b : List UInt8) (hm : 1 ≤ kind ∧ kind ≤ 4 ∧ sector < 1048576) (hs : salt < 9223372036854775808) (_hb : b.length ≤ 1048576) :
    ACalls (E0 X) 107 [.int .i64 (kind : Int), .int .i64 (salt : Int), .int .i64 (sector : Int), .sl 1 (b.map u8A)] [] (fun r H' => r = optA (decF kind salt sector b) ∧ H' = []) := by
  refine acalls_of Proofs.Tryd.func107 rfl Proofs.Tryd.ntmps107 (by kernel_rfl) rfl ?_
  intro hH hargs
  clear hH hargs
  repeat' (first | ((refine Qa rfl ?_); (first | refine Q0 ?_ | refine Q1 ?_ | refine Q2 rfl ?_ | refine Q7 rfl rfl rfl ?_); (refine QX rfl rfl ?_)) | refine Qh ?_ | refine Ql ?_ | refine Qo rfl ?_ | refine Qs ?_)
  refine awp_cond_dec rfl (fun h1 => ?_) (fun h1 => ?_)
  · have h2 : ¬ b.length = 64 := by rw [List.length_map] at h1; omega
    repeat' (first | ((refine Qa rfl ?_); (refine Q1 ?_); (refine QX rfl rfl ?_)) | refine Qh ?_ | refine Ql ?_ | refine Qo rfl ?_ | refine Qs ?_)
    refine awp_ret ?_
    refine ⟨_, rfl, ?_, ?_⟩
    · simp only [decF]; rw [if_neg (fun h => h2 h.1)]; rfl
    · rfl
  have h2 : b.length = 64 := by rw [List.length_map] at h1; omega
  repeat' (first | ((refine Qa rfl ?_); (refine Q0 ?_); (refine QX rfl rfl ?_)) | refine Qa rfl ?_ | refine Ql ?_ | refine Qm ?_ | refine Qo rfl ?_)
  refine st_sls (l := 1) (h := 60) (ys := (b.drop 1).take 59) (bnd_some rfl rfl) (bnd_some rfl rfl) (by omega) (by omega) (by rw [List.drop_take]) rfl rfl rfl rfl rfl ?_
  first | refine nx rfl rfl ?_ | refine nx0 ?_
  have hpl : ((b.drop 1).take 59).length = 59 := by simp; omega
  have hcl : ACalls (E0 X) 67 [.sl 1 (((b.drop 1).take 59).map u8A)] [] (fun r H' => r = .sl 1 (((b.drop 1).take 59).map u8A) ∧ H' = []) := ACalls.froz 1 (clone_sl X ((b.drop 1).take 59) (by omega)) (List.length_map _).symm rfl rfl hok_nil (idsL_map fun _ => u8A_ids)
  have hd : decF kind salt sector b = if encF kind salt sector ((b.drop 1).take 59) = b then some ((b.drop 1).take 59) else none := by simp only [decF, h2, true_and]
  rw [hd]
  generalize (b.drop 1).take 59 = p at *
  repeat' (refine Qa rfl ?_)
  refine st_call (fun _ => rfl) rfl ?_
  refine ACalls.mono (hcl) ?_
  rintro r H' ⟨rfl, rfl⟩
  first | refine nx rfl rfl ?_ | refine nx0 ?_
  repeat' (first | ((refine Qa rfl ?_); (first | refine Q0 ?_ | refine Q1 ?_); (refine QX rfl rfl ?_)) | refine Qa rfl ?_ | refine Qh ?_ | refine Ql ?_ | refine Qo rfl ?_)
  refine st_call (fun _ => rfl) rfl ?_
  refine ACalls.mono (fenc_c X kind salt sector p hm hs (by omega)) ?_
  rintro r H' ⟨rfl, rfl⟩
  first | refine nx rfl rfl ?_ | refine nx0 ?_
  repeat' (first | ((refine Qa rfl ?_); (first | refine Q0 ?_ | refine Q1 ?_ | refine Q2 rfl ?_ | refine QC rfl rfl ?_); (refine QX rfl rfl ?_)) | refine Qa rfl ?_ | refine Qh ?_ | refine Ql ?_ | refine Qo rfl ?_)
  refine st_call (fun _ => rfl) rfl ?_
  refine ACalls.mono (beq_c X (encF kind salt sector p) b) ?_
  rintro r H' ⟨rfl, rfl⟩
  first | refine nx rfl rfl ?_ | refine nx0 ?_
  repeat' (first | ((refine Qa rfl ?_); (first | refine Q5 rfl ?_ | refine QD rfl ?_); (refine QX rfl rfl ?_)) | refine Qh ?_ | refine Qs ?_)
  refine awp_cond rfl (fun h9 => ?_) (fun h9 => ?_)
  · have h8 : ¬ encF kind salt sector p = b := by simpa using h9
    repeat' (first | ((refine Qa rfl ?_); (refine Q1 ?_); (refine QX rfl rfl ?_)) | refine Qh ?_ | refine Ql ?_ | refine Qo rfl ?_ | refine Qs ?_)
    refine awp_ret ?_
    refine ⟨_, rfl, ?_, ?_⟩
    · rw [if_neg h8]; rfl
    · rfl
  · have h8 : encF kind salt sector p = b := by simpa using h9
    repeat' (first | ((refine Qa rfl ?_); (first | refine Q0 ?_ | refine Q1 ?_); (refine QX rfl rfl ?_)) | refine Qh ?_ | refine Ql ?_ | refine Qm ?_ | refine Qo rfl ?_ | refine Qs ?_)
    refine awp_ret ?_
    refine ⟨_, rfl, ?_, ?_⟩
    · rw [if_pos h8]; rfl
    · rfl
end Go.Abs
namespace Go.Abs
theorem ACalls.cut0 {E : Env} {f : FuncId} {args : List AV} {v : AV} (h : ACalls E f args [] (fun r _ => r = v)) (hv : IdsLt 0 v) : ACalls E f args [] (fun r H' => r = v ∧ H' = []) :=
  h.imp fun r H' e => ⟨v, [], ⟨rfl, rfl⟩, by subst e; exact imp_cutk 0 (Nat.zero_le _) hok_nil rfl (Nat.zero_le _) (fa_cons ⟨rfl, hv⟩ fa_nil)⟩
structure La where
  id : Int
  ver : Int
  rs : Int
  regs : Int
def laL (l : La) : List AV := [.int .i64 l.id, .int .i64 l.ver, .int .i64 l.rs, .int .i64 l.regs]
def laA (l : La) : AV := .agg (laL l)
@[simp] theorem laA_ids {n : Nat} {l : La} : IdsLt n (laA l) := ⟨trivial, trivial, trivial, trivial, trivial⟩
structure Pl where
  kind : Int
  mig : Int
  idx : Int
  tail : Int
  t : La
def plA (p : Pl) : AV := .agg [.int .i64 p.kind, .int .i64 p.mig, .int .i64 p.idx, .int .i64 p.tail, .int .i64 p.t.id, .int .i64 p.t.ver, .int .i64 p.t.rs, .int .i64 p.t.regs]
@[simp] theorem plA_ids {n : Nat} {p : Pl} : IdsLt n (plA p) := ⟨trivial, trivial, trivial, trivial, trivial, trivial, trivial, trivial, trivial⟩
def formB (l : La) : Bool := decide (1 ≤ l.id) && (decide (l.id ≤ 4294967295) && ((decide (l.ver = 1) || decide (l.ver = 2)) && (decide (2 ≤ l.rs) && (decide (l.rs ≤ 2048) && (decide (ibits .and .i64 l.rs (IntKind.i64.wrap (l.rs - 1)) = 0) && (decide (4 ≤ l.regs) && decide (l.regs ≤ 16)))))))
def validB (p : Pl) : Bool := !decide (p.mig < 1) && (!decide (4294967295 < p.mig) && (!decide (p.tail < 0) && (!decide (281474976710655 < p.tail) && (formB p.t && ((decide (p.kind = 1) && decide (p.idx = 0)) || (decide (p.kind = 2) && (decide (1 ≤ p.idx) && decide (p.idx < 36))))))))
attribute [local irreducible] AStep aops AWp Nx awM
set_option maxHeartbeats 0 in
set_option maxRecDepth 100000 in
theorem form_c (X : Nat → Prop) (l : La) : ACalls (E0 X) 88 [laA l] [] (fun r H' => r = .bool (formB l) ∧ H' = []) := by
  refine ACalls.cut0 ?_ trivial
  refine acalls_of Proofs.Tryd.func88 rfl Proofs.Tryd.ntmps88 (by kernel_rfl) rfl ?_
  intro hH hargs
  clear hH hargs
  repeat' (first | ((refine Qa rfl ?_); (first | refine Q0 ?_ | refine Q1 ?_ | refine Q2 rfl ?_ | refine Q3 rfl rfl rfl ?_ | refine Q4 rfl rfl rfl rfl rfl ?_ | refine Q5 rfl ?_ | refine QK rfl ?_); (refine QX rfl rfl ?_)) | refine Qh ?_ | refine Qi rfl ?_ | refine Ql ?_ | refine Qo rfl ?_ | refine Qs ?_ | ((fail_if_success refine QV rfl ?_); refine Qy rfl rfl (fun _ => ?_) (fun _ => ?_)))
  all_goals (refine awp_ret ?_; refine ⟨_, rfl, ?_⟩; simp [formB, get_cons, one, *])
def secI (mig idx : Int) : Int := if mig < 1 ∨ idx < 0 ∨ 36 ≤ idx then -1 else 2 + (mig + 1) % 2 * 36 + idx
end Go.Abs
namespace Go.Abs
def len8 (j : Nat) : Nat := if j = 0 then 0 else Nat.log2 j + 1
def len8L : List UInt8 := (List.range 256).map fun j => UInt8.ofNat (len8 j)
def lenN (x : Nat) : Nat := if 256 ≤ x then 8 + len8 (x / 256) else len8 x
attribute [local irreducible] AStep aops AWp Nx awM
def layN (l : La) : List UInt8 := [UInt8.ofNat (l.ver.toNat % 256), UInt8.ofNat ((lenN l.rs.toNat - 1) % 256), UInt8.ofNat (l.regs.toNat % 256)]
def putL (b : List UInt8) (l : La) : List UInt8 := putN b l.id.toNat 4 ++ layN l
theorem putL_len (b : List UInt8) (l : La) : (putL b l).length = b.length + 7 := by simp [putL, putN_len, layN]
structure LaOk (l : La) : Prop where
  id : 0 ≤ l.id ∧ l.id ≤ 4294967295
  ver : 0 ≤ l.ver ∧ l.ver ≤ 255
  rs : 0 ≤ l.rs ∧ l.rs < 65536
  regs : 0 ≤ l.regs ∧ l.regs ≤ 255
theorem ACalls.frz0 {E : Env} {f : FuncId} {args : List AV} {es : List AV} {e : TypeId} (k : Nat) (h : ACalls E f args [] (fun r H' => ∃ id n, r = .own id 0 n ∧ n = es.length ∧ H'[id]? = some (some (.arr es e)))) (he : Nat.blt e E.n = true) (hk : Nat.beq (E.ti e).sz k = true) (hes : IdsLtL 0 es) :
    ACalls E f args [] (fun r H' => r = .sl k es ∧ H' = []) :=
  h.imp fun r H' ⟨id, n, h1, h2, h3⟩ => by
    subst h1; subst h2
    refine ⟨_, _, ⟨rfl, rfl⟩, ?_⟩
    refine (imp_freeze (id := id) (k := k) (es := es) (e := e) h3 he hk).trans ?_
    refine imp_cutk 0 (Nat.zero_le _) hok_nil rfl (Nat.zero_le _) ?_
    refine fa_cons ⟨?_, hes⟩ fa_nil
    simp [get_cons, frz]
theorem put_at (X : Nat → Prop) (H : Hp) (x : AV) (b : List UInt8) (n w : Nat) (hw : 1 ≤ w) (hw8 : w ≤ 8) (hb : b.length ≤ 1048576) (hx : srcA (E0 X) H 1 x = some (b.map u8A)) :
    ACalls (E0 X) 102 [x, .int .u64 (n : Int), .int .i64 (w : Int)] H (fun r H' => r = .own H.length 0 (b.length + w) ∧ H' = H ++ [some (.arr ((putN b n w).map u8A) 5)]) := by
  refine (acalls_make (E := E0 X) (P := fun v H' => v = .own 0 0 (b.length + w) ∧ H' = [some (.arr ((putN b n w).map u8A) 5)]) (fun X => put_own X b n w hw hw8 hb) (fun r h' h => by
    obtain ⟨h1, h2⟩ := h; subst h1; subst h2; exact ⟨rfl, by simp [noFzH, noFzO, noFz_map (f := u8A) (fun _ => rfl)]⟩) (Bor.sl (u8_ids _) hx (Bor.same trivial (Bor.same trivial .nil)))).mono ?_
  rintro r H' ⟨r0, h', ⟨rfl, rfl⟩, rfl, rfl⟩
  refine ⟨by simp [rnA], ?_⟩
  show H ++ [some (AO.arr (rnL _ (List.map u8A _)) _)] = _
  rw [rnL_map (fun _ => rfl)]
end Go.Abs
namespace Go.Abs
structure PlN where
  kind : Nat
  mig : Nat
  idx : Nat
  tail : Nat
  t : La
def PlN.pl (p : PlN) : Pl := ⟨p.kind, p.mig, p.idx, p.tail, p.t⟩
def payP (p : PlN) : List UInt8 := putL (putN (putN [UInt8.ofNat (p.kind % 256)] p.mig 4 ++ [UInt8.ofNat (p.idx % 256)]) p.tail 6) p.t
def encP (p : PlN) (sector : Nat) : List UInt8 := encF 4 0 sector (payP p)
theorem payP_len (p : PlN) : (payP p).length = 19 := by simp [payP, putL_len, putN_len]
theorem encP_len (p : PlN) (s : Nat) : (encP p s).length = 64 := encF_len (by rw [payP_len]; decide)
attribute [local irreducible] AStep aops AWp Nx awM
end Go.Abs
namespace Go.Abs
def numN (l : List UInt8) : Nat := l.foldl (fun n x => n * 256 + x.toNat) 0
theorem numN_snoc (l : List UInt8) (x : UInt8) : numN (l ++ [x]) = numN l * 256 + x.toNat := by simp [numN]
theorem numN_lt (l : List UInt8) : numN l < 256 ^ l.length := by
  have : ∀ (l : List UInt8), numN l.reverse < 256 ^ l.length := by
    intro l
    induction l with
    | nil => simp [numN]
    | cons x l ih =>
      rw [List.reverse_cons, numN_snoc, List.length_cons, Nat.pow_succ]
      have := x.toNat_lt
      omega
  have h := this l.reverse
  simpa using h
theorem or64 {n x : Nat} (hx : x < 256) (h : n * 256 + x < 18446744073709551616) : ibits .or .u64 ((n * 256 : Nat) : Int) (x : Int) = ((n * 256 + x : Nat) : Int) := by
  have h1 : ibits .or .u64 ((n * 256 : Nat) : Int) (x : Int) = IntKind.u64.wrap (((BitVec.ofInt 64 ((n * 256 : Nat) : Int) ||| BitVec.ofInt 64 (x : Int)).toNat : Nat) : Int) := rfl
  rw [h1, BitVec.toNat_or]
  have h2 : ∀ n : Nat, n < 18446744073709551616 → (BitVec.ofInt 64 (n : Int)).toNat = n := fun n h => by
    rw [BitVec.ofInt_natCast, BitVec.toNat_ofNat]; exact Nat.mod_eq_of_lt h
  have h5 : n * 256 < 18446744073709551616 := Nat.lt_of_le_of_lt (Nat.le_add_right _ _) h
  have h6 : x < 18446744073709551616 := Nat.lt_trans hx (by decide)
  rw [h2 (n * 256) h5, h2 x h6]
  have h3 : n * 256 ||| x = n * 256 + x := by
    have := Nat.two_pow_add_eq_or_of_lt (i := 8) (b := x) (by omega) n
    have h4 : (2 : Nat) ^ 8 = 256 := by decide
    rw [h4] at this
    rw [Nat.mul_comm n 256]
    exact this.symm
  rw [h3, wrap64 h]
theorem shl8 {n : Nat} (h : n * 256 < 18446744073709551616) : IntKind.u64.wrap ((n : Int) * 2 ^ (min (8 : Int).toNat IntKind.u64.bits)) = ((n * 256 : Nat) : Int) := by
  have h1 : (2 : Int) ^ (min (8 : Int).toNat IntKind.u64.bits) = 256 := by decide
  rw [h1]
  exact wrap64 (n := n * 256) h
def rdrC (bs : List UInt8) (s lo : Nat) : AO := .cells [.own s lo (bs.length - lo), .bool false] 193
def rdrH (bs : List UInt8) (lo : Nat) : Hp := [some (.arr (bs.map u8A) 5), some (rdrC bs 0 lo)]
theorem hok_rdr (bs : List UInt8) (lo : Nat) : HOk 2 (rdrH bs lo) := fun j o ho => by
  match j, ho with
  | 0, ho => cases ho; exact idsL_map fun _ => u8A_ids
  | 1, ho => cases ho; exact ⟨by simp [IdsLt], trivial, trivial⟩
attribute [local irreducible] AStep aops AWp Nx awM
set_option maxHeartbeats 0 in
theorem newr_c (X : Nat → Prop) (bs : List UInt8) (hb : bs.length ≤ 1000) : ACalls (E0 X) 108 [.sl 1 (bs.map u8A)] [] (fun r H' => r = .ptr 1 0 ∧ H' = rdrH bs 0) := by
  refine acalls_of Proofs.Tryd.func108 rfl Proofs.Tryd.ntmps108 (by kernel_rfl) rfl ?_
  intro hH hargs
  clear hH hargs
  repeat' (first | ((refine Qa rfl ?_); (first | refine Q0 ?_ | refine Q1 ?_); (refine QX rfl rfl ?_)) | refine Qa rfl ?_ | refine Qh ?_ | refine Ql ?_ | refine Qo rfl ?_)
  refine st_call (fun _ => rfl) rfl ?_
  refine ACalls.mono (clone_sl X bs (by omega)) ?_
  rintro r H' ⟨rfl, rfl⟩
  first | refine nx rfl rfl ?_ | refine nx0 ?_
  repeat' (first | ((refine Qa rfl ?_); (first | refine Q1 ?_ | refine QK rfl ?_ | refine QP rfl rfl rfl rfl rfl rfl ?_); (refine QX rfl rfl ?_)) | refine Qh ?_ | refine Qs ?_)
  refine awp_ret ?_
  refine ⟨_, rfl, ?_, ?_⟩
  · rfl
  · rfl
set_option maxHeartbeats 0 in
theorem take_c (X : Nat → Prop) (bs : List UInt8) (lo n : Nat) (h : lo + n ≤ bs.length) (_hb : bs.length ≤ 1000) :
    ACalls (E0 X) 143 [.ptr 1 0, .int .i64 (n : Int)] (rdrH bs lo) (fun r H' => r = .own 0 lo n ∧ H' = rdrH bs (lo + n)) := by
  refine acalls_of Proofs.Tryd.func143 rfl Proofs.Tryd.ntmps143 (by kernel_rfl) rfl ?_
  intro hH hargs
  clear hH hargs
  repeat' (first | ((refine Qa rfl ?_); (first | refine Q0 ?_ | refine Q1 ?_ | refine Q2 rfl ?_ | refine Q3 rfl rfl rfl ?_ | refine Q4 rfl rfl rfl rfl rfl ?_ | refine Q5 rfl ?_ | refine Q6 rfl ?_ | refine Q7 rfl rfl rfl ?_ | refine QH rfl rfl rfl ?_); (refine QX rfl rfl ?_)) | refine Qh ?_ | refine Ql ?_ | refine Qm ?_ | refine Qo rfl ?_ | refine Qq rfl ?_ | refine Qs ?_)
  refine awp_cond_dec rfl (fun h1 => ?_) (fun h1 => ?_)
  · omega
  repeat' (first | ((refine Qa rfl ?_); (first | refine Q0 ?_ | refine Q3 rfl rfl rfl ?_ | refine Q4 rfl rfl rfl rfl rfl ?_ | refine Q6 rfl ?_); (refine QX rfl rfl ?_)) | refine Qa rfl ?_ | refine Ql ?_ | refine Qm ?_ | refine Qo rfl ?_)
  refine st_slo (l := 0) (h := n) (lo' := lo) (n' := n) (bnd_none) (bnd_some rfl rfl) (by omega) (by first | omega | (simp; omega)) (by omega) (by omega) rfl rfl rfl rfl rfl rfl rfl ?_
  first | refine nx rfl rfl ?_ | refine nx0 ?_
  repeat' (first | ((refine Qa rfl ?_); (first | refine Q0 ?_ | refine Q1 ?_ | refine Q3 rfl rfl rfl ?_ | refine Q4 rfl rfl rfl rfl rfl ?_ | refine Q6 rfl ?_); (refine QX rfl rfl ?_)) | refine Qa rfl ?_ | refine Qh ?_ | refine Ql ?_ | refine Qo rfl ?_)
  refine st_slo (l := n) (h := bs.length - lo) (lo' := lo + n) (n' := bs.length - (lo + n)) (bnd_some rfl rfl) (bnd_none) (by omega) (by first | omega | (simp; omega)) (by omega) (by omega) rfl rfl rfl rfl rfl rfl rfl ?_
  first | refine nx rfl rfl ?_ | refine nx0 ?_
  repeat' (first | ((refine Qa rfl ?_); (first | refine Q0 ?_ | refine Q1 ?_ | refine Q4 rfl rfl rfl rfl rfl ?_ | refine Q6 rfl ?_); (refine QX rfl rfl ?_)) | (refine Qb rfl ?_; try (refine QS rfl rfl rfl rfl rfl rfl rfl ?_; (refine QX rfl rfl ?_))) | refine Qh ?_ | refine Ql ?_ | refine Qo rfl ?_ | refine Qs ?_)
  refine awp_ret ?_
  refine ⟨_, rfl, ?_, ?_⟩
  · rfl
  · rfl
set_option maxHeartbeats 0 in
theorem num_c (X : Nat → Prop) (bs : List UInt8) (lo w : Nat) (hw : 1 ≤ w) (hw8 : w ≤ 8) (h : lo + w ≤ bs.length) (hb : bs.length ≤ 1000) :
    ACalls (E0 X) 110 [.ptr 1 0, .int .i64 (w : Int)] (rdrH bs lo) (fun r H' => r = .int .u64 (numN ((bs.drop lo).take w) : Int) ∧ H' = rdrH bs (lo + w)) := by
  have hlw : ((bs.drop lo).take w).length = w := by simp; omega
  refine acalls_of Proofs.Tryd.func110 rfl Proofs.Tryd.ntmps110 (by kernel_rfl) rfl ?_
  intro hH hargs
  clear hH hargs
  repeat' (first | ((refine Qa rfl ?_); (first | refine Q0 ?_ | refine Q1 ?_ | refine Q2 rfl ?_ | refine Q5 rfl ?_); (refine QX rfl rfl ?_)) | refine Qa rfl ?_ | refine Qh ?_ | refine Qi rfl ?_ | refine Ql ?_ | refine Qo rfl ?_ | refine Qp rfl ?_ | refine Qs ?_ | ((fail_if_success refine QV rfl ?_); refine Qy rfl rfl (fun _ => ?_) (fun _ => ?_)))
  · omega
  refine awp_cond rfl (fun h9 => ?_) (fun _ => ?_)
  · simp at h9; omega
  repeat' (first | ((refine Qa rfl ?_); (first | refine Q0 ?_ | refine Q1 ?_); (refine QX rfl rfl ?_)) | refine Qa rfl ?_ | refine Qh ?_ | refine Ql ?_ | refine Qm ?_ | refine Qo rfl ?_)
  refine st_call (fun _ => rfl) rfl ?_
  refine ACalls.mono (take_c X bs lo w h hb) ?_
  rintro r H' ⟨rfl, rfl⟩
  first | refine nx rfl rfl ?_ | refine nx0 ?_
  repeat' (first | ((refine Qa rfl ?_); (first | refine Q0 ?_ | refine Q7 rfl rfl rfl ?_); (refine QX rfl rfl ?_)) | refine Qh ?_ | refine Qn ?_)
  refine awp_loop2 (fun i : Nat => ⟨[(5, .int .u64 (numN ((bs.drop lo).take i) : Int)), (16, .own 0 lo w), (17, .int .i64 (w : Int)), (18, .int .i64 (i : Int))], rdrH bs (lo + w)⟩) (fun i => i ≤ w) (fun i => w - i) 0 (Nat.zero_le _) ?_ ?_
  · refine imp_cutk 2 (Nat.le_refl _) (hok_rdr _ _) rfl (by simp) ?_
    repeat' (first | exact fa_nil | refine fa_cons ⟨?_, ?_⟩ ?_)
    all_goals (try first | exact rfl | exact trivial | (simp [IdsLt]; done) | (simp [get_cons]; done) | (simp [get_cons, *]; done) | (refine congrArg (AV.int .i64) (wrap_eq ?_ ?_ ?_) <;> (first | omega | (simp; omega))))
  rintro i hi
  repeat' (first | ((refine Qa rfl ?_); (refine Q2 rfl ?_); (refine QX rfl rfl ?_)) | refine Qh ?_ | refine Ql ?_ | refine Qo rfl ?_)
  refine awp_cond_dec rfl (fun h3 => ?_) (fun h3 => ?_)
  · have hi3 : i < w := by omega
    obtain ⟨q, hq⟩ : ∃ q, bs[lo + i]? = some q := ⟨_, List.getElem?_eq_getElem (by omega)⟩
    have hn : numN ((bs.drop lo).take (i + 1)) = numN ((bs.drop lo).take i) * 256 + q.toNat := by
      rw [List.take_add_one, List.getElem?_drop, hq]
      exact numN_snoc _ _
    have hlt := numN_lt ((bs.drop lo).take i)
    have hli : ((bs.drop lo).take i).length = i := by simp; omega
    rw [hli] at hlt
    have hp : 256 ^ i ≤ 256 ^ 7 := Nat.pow_le_pow_right (by decide) (by omega)
    have h7 : (256 : Nat) ^ 7 = 72057594037927936 := by decide
    have hq8 := q.toNat_lt
    repeat' (first | refine Qa rfl ?_ | refine Ql ?_ | refine Qm ?_ | refine Qn ?_ | refine Qo rfl ?_)
    refine st_ixo (j := i) (p := lo + i) (rfl) (by first | omega | assumption | (simp; omega)) (by omega) rfl rfl rfl rfl rfl rfl rfl rfl ?_
    first | refine nx rfl rfl ?_ | refine nx0 ?_
    repeat' (refine Qa rfl ?_)
    refine st_load_pe rfl rfl (y := u8A q) (by simp [hq]) rfl rfl rfl ?_
    first | refine nx rfl rfl ?_ | refine nx0 ?_
    repeat' (first | ((refine Qa rfl ?_); (first | refine Q0 ?_ | refine Q1 ?_); (refine QX rfl rfl ?_)) | refine Qa rfl ?_ | refine Qh ?_ | refine Qo rfl ?_)
    refine st_shl rfl rfl (by decide) ?_
    first | refine nx rfl rfl ?_ | refine nx0 ?_
    repeat' (first | ((refine Qa rfl ?_); (first | refine Q0 ?_ | refine Q1 ?_ | refine Q2 rfl ?_ | refine QG rfl rfl rfl rfl ?_); (refine QX rfl rfl ?_)) | refine Qh ?_ | refine Qo rfl ?_ | refine Qs ?_)
    rw [shl8 (by omega), wrap64 (by omega), or64 (by omega) (by omega), ← hn]
    refine ⟨i + 1, by omega, by omega, imp_cutk 2 (Nat.le_refl _) (hok_rdr _ _) rfl (by simp) ?_⟩
    repeat' (first | exact fa_nil | refine fa_cons ⟨?_, ?_⟩ ?_)
    all_goals (try first | exact rfl | exact trivial | (simp [IdsLt]; done) | (simp [get_cons]; done) | (simp [get_cons, *]; done) | (refine congrArg (AV.int .i64) (wrap_eq ?_ ?_ ?_) <;> (first | omega | (simp; omega))))
  have hi3 : i = w := by omega
  subst hi3
  repeat' (first | ((refine Qa rfl ?_); (first | refine Q0 ?_ | refine Q1 ?_); (refine QX rfl rfl ?_)) | refine Qh ?_ | refine Ql ?_ | refine Qo rfl ?_ | refine Qr ?_ | refine Qs ?_)
  refine awp_ret ?_
  refine ⟨_, rfl, ?_, ?_⟩
  · rfl
  · rfl
end Go.Abs

