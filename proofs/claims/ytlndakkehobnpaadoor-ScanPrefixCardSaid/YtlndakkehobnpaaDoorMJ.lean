/- LogSector: the walk. Joined texts, each with what its own name promises; no condition beyond those stated. -/
import Derived.Test.YtlndakkehobnpaaDoorME
import Derived.Test.YtlndakkehobnpaaDoorMC
import Derived.Test.YtlndakkehobnpaaDoorMB
namespace Go.Abs
attribute [local irreducible] AStep aops AWp Nx awM
end Go.Abs
namespace Go.Abs
structure EqI (a b : List UInt8) where
  k : Nat
  hk : k ≤ a.length
  h : ∀ j, j < k → a[j]? = b[j]?
def eqS (a b : List UInt8) (i : EqI a b) : St :=
  ⟨[(0, .sl 1 (a.map u8A)), (1, .sl 1 (b.map u8A)), (12, .int .i64 a.length), (13, .int .i64 i.k)], []⟩

theorem u8_get {l : List UInt8} {k : Nat} {p : UInt8} (h : l[k]? = some p) : (l.map u8A)[k]? = some (u8A p) := by simp [h]

attribute [local irreducible] AStep aops AWp Nx awM
set_option maxHeartbeats 0 in
theorem eqb_c (X : Nat → Prop) (a b : List UInt8) (ha : a.length ≤ 4611686018427387904) :
    ACalls (E0 X) 28 [.sl 1 (a.map u8A), .sl 1 (b.map u8A)] [] (fun r H' => r = .bool (decide (a = b)) ∧ H' = []) := by
  refine acalls_of Proofs.Tryd.func28 rfl Proofs.Tryd.ntmps28 (by kernel_rfl) rfl ?_
  intro hH hargs
  refine awp_seq ?_
  refine awp_region rfl ?_
  repeat' (first
      | (first
         | refine bs rfl ?_
         | refine bs0 rfl ?_
         first
         | refine st_move ?_
         | refine st_assign ?_
         | refine st_bin rfl ?_
         | refine st_load rfl rfl rfl ?_
         | refine st_fieldAddr rfl rfl rfl rfl rfl ?_
         | refine st_pick rfl ?_
         | refine st_nilCheck rfl ?_
         | refine st_store_ptr rfl rfl rfl rfl rfl rfl rfl ?_
         | refine st_len_sl rfl rfl rfl ?_
         | refine st_len_str rfl rfl rfl ?_
         | refine st_extract rfl rfl ?_
         | refine st_un rfl ?_
         | refine st_min rfl rfl ?_
         | refine st_max rfl rfl ?_
         | refine st_conv rfl rfl rfl rfl ?_
         | refine st_eql rfl rfl rfl ?_
         | refine st_neq rfl rfl rfl ?_
         | refine st_alloc rfl rfl ?_
         | refine st_box rfl ?_
         | refine st_field rfl rfl rfl rfl rfl ?_
         | refine st_build rfl rfl rfl rfl rfl ?_
         refine nx rfl rfl ?_)
      | refine aops_nil ?_
      | refine bskip rfl ?_
      | refine bskip0 rfl ?_
      | refine bguard rfl rfl (fun _ => ?_) (fun _ => ?_)
      | refine bguardB rfl rfl (fun _ => ?_) (fun _ => ?_))
  refine awp_seq ?_
  refine awp_seq ?_
  refine awp_region rfl ?_
  repeat' (first
      | (first
         | refine bs rfl ?_
         | refine bs0 rfl ?_
         first
         | refine st_move ?_
         | refine st_assign ?_
         | refine st_bin rfl ?_
         | refine st_load rfl rfl rfl ?_
         | refine st_fieldAddr rfl rfl rfl rfl rfl ?_
         | refine st_pick rfl ?_
         | refine st_nilCheck rfl ?_
         | refine st_store_ptr rfl rfl rfl rfl rfl rfl rfl ?_
         | refine st_len_sl rfl rfl rfl ?_
         | refine st_len_str rfl rfl rfl ?_
         | refine st_extract rfl rfl ?_
         | refine st_un rfl ?_
         | refine st_min rfl rfl ?_
         | refine st_max rfl rfl ?_
         | refine st_conv rfl rfl rfl rfl ?_
         | refine st_eql rfl rfl rfl ?_
         | refine st_neq rfl rfl rfl ?_
         | refine st_alloc rfl rfl ?_
         | refine st_box rfl ?_
         | refine st_field rfl rfl rfl rfl rfl ?_
         | refine st_build rfl rfl rfl rfl rfl ?_
         refine nx rfl rfl ?_)
      | refine aops_nil ?_
      | refine bskip rfl ?_
      | refine bskip0 rfl ?_
      | refine bguard rfl rfl (fun _ => ?_) (fun _ => ?_)
      | refine bguardB rfl rfl (fun _ => ?_) (fun _ => ?_))
  refine awp_cond rfl (fun hne => ?_) (fun heq => ?_)
  · refine awp_seq ?_
    refine awp_region rfl ?_
    repeat' (first
        | (first
           | refine bs rfl ?_
           | refine bs0 rfl ?_
           first
           | refine st_move ?_
           | refine st_assign ?_
           | refine st_bin rfl ?_
           | refine st_load rfl rfl rfl ?_
           | refine st_fieldAddr rfl rfl rfl rfl rfl ?_
           | refine st_pick rfl ?_
           | refine st_nilCheck rfl ?_
           | refine st_store_ptr rfl rfl rfl rfl rfl rfl rfl ?_
           | refine st_len_sl rfl rfl rfl ?_
           | refine st_len_str rfl rfl rfl ?_
           | refine st_extract rfl rfl ?_
           | refine st_un rfl ?_
           | refine st_min rfl rfl ?_
           | refine st_max rfl rfl ?_
           | refine st_conv rfl rfl rfl rfl ?_
           | refine st_eql rfl rfl rfl ?_
           | refine st_neq rfl rfl rfl ?_
           | refine st_alloc rfl rfl ?_
           | refine st_box rfl ?_
           | refine st_field rfl rfl rfl rfl rfl ?_
           | refine st_build rfl rfl rfl rfl rfl ?_
           refine nx rfl rfl ?_)
        | refine aops_nil ?_
        | refine bskip rfl ?_
        | refine bskip0 rfl ?_
        | refine bguard rfl rfl (fun _ => ?_) (fun _ => ?_)
        | refine bguardB rfl rfl (fun _ => ?_) (fun _ => ?_))
    refine awp_ret ?_
    refine ⟨_, rfl, ?_, rfl⟩
    show AV.bool false = _
    have : a ≠ b := fun h => by subst h; simp at hne
    simp [this]
  · have hlen : a.length = b.length := by simp at heq; omega
    refine awp_skip ?_
    refine awp_seq ?_
    refine awp_seq ?_
    refine awp_region rfl ?_
    repeat' (first
        | (first
           | refine bs rfl ?_
           | refine bs0 rfl ?_
           first
           | refine st_move ?_
           | refine st_assign ?_
           | refine st_bin rfl ?_
           | refine st_load rfl rfl rfl ?_
           | refine st_fieldAddr rfl rfl rfl rfl rfl ?_
           | refine st_pick rfl ?_
           | refine st_nilCheck rfl ?_
           | refine st_store_ptr rfl rfl rfl rfl rfl rfl rfl ?_
           | refine st_len_sl rfl rfl rfl ?_
           | refine st_len_str rfl rfl rfl ?_
           | refine st_extract rfl rfl ?_
           | refine st_un rfl ?_
           | refine st_min rfl rfl ?_
           | refine st_max rfl rfl ?_
           | refine st_conv rfl rfl rfl rfl ?_
           | refine st_eql rfl rfl rfl ?_
           | refine st_neq rfl rfl rfl ?_
           | refine st_alloc rfl rfl ?_
           | refine st_box rfl ?_
           | refine st_field rfl rfl rfl rfl rfl ?_
           | refine st_build rfl rfl rfl rfl rfl ?_
           refine nx rfl rfl ?_)
        | refine aops_nil ?_
        | refine bskip rfl ?_
        | refine bskip0 rfl ?_
        | refine bguard rfl rfl (fun _ => ?_) (fun _ => ?_)
        | refine bguardB rfl rfl (fun _ => ?_) (fun _ => ?_))
    refine awp_block ?_
    refine awp_loop (eqS a b) (fun i => a.length - i.k) ⟨0, Nat.zero_le _, fun j h => absurd h (Nat.not_lt_zero j)⟩ ?_ ?_
    · refine imp_tidy0 (fa_cons (ren_val rfl ?_) (fa_cons (ren_val rfl ?_) (fa_cons (ren_val ?_ trivial) (fa_cons (ren_val rfl trivial) fa_nil))))
      · exact u8_ids a
      · exact u8_ids b
      · simp [get_cons]
    · rintro ⟨k, hk, h⟩
      show AWp (E0 X) _ _ _ _ ⟨[(0, .sl 1 (a.map u8A)), (1, .sl 1 (b.map u8A)), (12, .int .i64 a.length), (13, .int .i64 k)], []⟩
      refine awp_seq ?_
      refine awp_region rfl ?_
      repeat' (first
          | (first
             | refine bs rfl ?_
             | refine bs0 rfl ?_
             first
             | refine st_move ?_
             | refine st_assign ?_
             | refine st_bin rfl ?_
             | refine st_load rfl rfl rfl ?_
             | refine st_fieldAddr rfl rfl rfl rfl rfl ?_
             | refine st_pick rfl ?_
             | refine st_nilCheck rfl ?_
             | refine st_store_ptr rfl rfl rfl rfl rfl rfl rfl ?_
             | refine st_len_sl rfl rfl rfl ?_
             | refine st_len_str rfl rfl rfl ?_
             | refine st_extract rfl rfl ?_
             | refine st_un rfl ?_
             | refine st_min rfl rfl ?_
             | refine st_max rfl rfl ?_
             | refine st_conv rfl rfl rfl rfl ?_
             | refine st_eql rfl rfl rfl ?_
             | refine st_neq rfl rfl rfl ?_
             | refine st_alloc rfl rfl ?_
             | refine st_box rfl ?_
             | refine st_field rfl rfl rfl rfl rfl ?_
             | refine st_build rfl rfl rfl rfl rfl ?_
             refine nx rfl rfl ?_)
          | refine aops_nil ?_
          | refine bskip rfl ?_
          | refine bskip0 rfl ?_
          | refine bguard rfl rfl (fun _ => ?_) (fun _ => ?_)
          | refine bguardB rfl rfl (fun _ => ?_) (fun _ => ?_))
      refine awp_seq ?_
      refine awp_cond_dec rfl (fun hlt => ?_) (fun hge => ?_)
      · have hka : k < a.length := of_decide_eq_true (by simpa using hlt)
        obtain ⟨p, hp⟩ : ∃ p, a[k]? = some p := ⟨_, List.getElem?_eq_getElem hka⟩
        obtain ⟨q, hq⟩ : ∃ q, b[k]? = some q := ⟨_, List.getElem?_eq_getElem (hlen ▸ hka)⟩
        refine awp_skip ?_
        refine awp_seq ?_
        refine awp_block ?_
        refine awp_seq ?_
        refine awp_region rfl ?_
        repeat' (first
            | (first
               | refine bs rfl ?_
               | refine bs0 rfl ?_
               first
               | refine st_move ?_
               | refine st_assign ?_
               | refine st_bin rfl ?_
               | refine st_load rfl rfl rfl ?_
               | refine st_fieldAddr rfl rfl rfl rfl rfl ?_
               | refine st_pick rfl ?_
               | refine st_nilCheck rfl ?_
               | refine st_store_ptr rfl rfl rfl rfl rfl rfl rfl ?_
               | refine st_len_sl rfl rfl rfl ?_
               | refine st_len_str rfl rfl rfl ?_
               | refine st_extract rfl rfl ?_
               | refine st_un rfl ?_
               | refine st_min rfl rfl ?_
               | refine st_max rfl rfl ?_
               | refine st_conv rfl rfl rfl rfl ?_
               | refine st_eql rfl rfl rfl ?_
               | refine st_neq rfl rfl rfl ?_
               | refine st_alloc rfl rfl ?_
               | refine st_box rfl ?_
               | refine st_field rfl rfl rfl rfl rfl ?_
               | refine st_build rfl rfl rfl rfl rfl ?_
               refine nx rfl rfl ?_)
            | refine aops_nil ?_
            | refine bskip rfl ?_
            | refine bskip0 rfl ?_
            | refine bguard rfl rfl (fun _ => ?_) (fun _ => ?_)
            | refine bguardB rfl rfl (fun _ => ?_) (fun _ => ?_))
        refine awp_seq ?_
        refine awp_region_draw (ef := []) (so := []) (ord := [0, 1, 2, 3, 4, 5, 6, 7, 8]) rfl (by kernel_rfl) rfl ?_
        repeat (apply ds rfl rfl rfl rfl
                · first
                  | refine st_move ?_
                  | refine st_assign ?_
                  | refine st_bin rfl ?_
                  | refine st_load rfl rfl rfl ?_
                  | refine st_fieldAddr rfl rfl rfl rfl rfl ?_
                  | refine st_pick rfl ?_
                  | refine st_nilCheck rfl ?_
                  | refine st_len_sl rfl rfl rfl ?_
                  | refine st_len_str rfl rfl rfl ?_
                  | refine st_un rfl ?_
                  | refine st_field rfl rfl rfl rfl rfl ?_
                  exact nx rfl rfl ⟨rfl, rfl⟩)
        apply ds rfl rfl rfl rfl
        · refine st_index_sl (k := 1) (es := a.map u8A) (e := 5) (kk := .i64) (n := k) (j := k) (y := u8A p) rfl rfl rfl ?_ ?_ rfl rfl (u8_get hp) rfl rfl ?_
          · rfl
          · rfl
          exact nx rfl rfl ⟨rfl, rfl⟩
        repeat (apply ds rfl rfl rfl rfl
                · first
                  | refine st_move ?_
                  | refine st_assign ?_
                  | refine st_bin rfl ?_
                  | refine st_load rfl rfl rfl ?_
                  | refine st_fieldAddr rfl rfl rfl rfl rfl ?_
                  | refine st_pick rfl ?_
                  | refine st_nilCheck rfl ?_
                  | refine st_len_sl rfl rfl rfl ?_
                  | refine st_len_str rfl rfl rfl ?_
                  | refine st_un rfl ?_
                  | refine st_field rfl rfl rfl rfl rfl ?_
                  exact nx rfl rfl ⟨rfl, rfl⟩)
        apply ds rfl rfl rfl rfl
        · refine st_index_sl (k := 1) (es := b.map u8A) (e := 5) (kk := .i64) (n := k) (j := k) (y := u8A q) rfl rfl rfl ?_ ?_ rfl rfl (u8_get hq) rfl rfl ?_
          · rfl
          · rfl
          exact nx rfl rfl ⟨rfl, rfl⟩
        repeat (apply ds rfl rfl rfl rfl
                · first
                  | refine st_move ?_
                  | refine st_assign ?_
                  | refine st_bin rfl ?_
                  | refine st_load rfl rfl rfl ?_
                  | refine st_fieldAddr rfl rfl rfl rfl rfl ?_
                  | refine st_pick rfl ?_
                  | refine st_nilCheck rfl ?_
                  | refine st_len_sl rfl rfl rfl ?_
                  | refine st_len_str rfl rfl rfl ?_
                  | refine st_un rfl ?_
                  | refine st_field rfl rfl rfl rfl rfl ?_
                  exact nx rfl rfl ⟨rfl, rfl⟩)
        refine ds_nil ?_
        refine awp_cond rfl (fun hne => ?_) (fun heq => ?_)
        · refine awp_seq ?_
          refine awp_region rfl ?_
          repeat' (first
              | (first
                 | refine bs rfl ?_
                 | refine bs0 rfl ?_
                 first
                 | refine st_move ?_
                 | refine st_assign ?_
                 | refine st_bin rfl ?_
                 | refine st_load rfl rfl rfl ?_
                 | refine st_fieldAddr rfl rfl rfl rfl rfl ?_
                 | refine st_pick rfl ?_
                 | refine st_nilCheck rfl ?_
                 | refine st_store_ptr rfl rfl rfl rfl rfl rfl rfl ?_
                 | refine st_len_sl rfl rfl rfl ?_
                 | refine st_len_str rfl rfl rfl ?_
                 | refine st_extract rfl rfl ?_
                 | refine st_un rfl ?_
                 | refine st_min rfl rfl ?_
                 | refine st_max rfl rfl ?_
                 | refine st_conv rfl rfl rfl rfl ?_
                 | refine st_eql rfl rfl rfl ?_
                 | refine st_neq rfl rfl rfl ?_
                 | refine st_alloc rfl rfl ?_
                 | refine st_box rfl ?_
                 | refine st_field rfl rfl rfl rfl rfl ?_
                 | refine st_build rfl rfl rfl rfl rfl ?_
                 refine nx rfl rfl ?_)
              | refine aops_nil ?_
              | refine bskip rfl ?_
              | refine bskip0 rfl ?_
              | refine bguard rfl rfl (fun _ => ?_) (fun _ => ?_)
              | refine bguardB rfl rfl (fun _ => ?_) (fun _ => ?_))
          refine awp_ret ?_
          refine ⟨_, rfl, ?_, rfl⟩
          show AV.bool false = _
          have : a ≠ b := fun h => by subst h; rw [hp] at hq; cases hq; simp at hne
          simp [this]
        · have hpq : p = q := by
            have h9 : (p.toNat : Int) = q.toNat := by simpa using heq
            exact UInt8.toNat_inj.1 (by omega)
          refine awp_skip ?_
          refine awp_region rfl ?_
          repeat' (first
              | (first
                 | refine bs rfl ?_
                 | refine bs0 rfl ?_
                 first
                 | refine st_move ?_
                 | refine st_assign ?_
                 | refine st_bin rfl ?_
                 | refine st_load rfl rfl rfl ?_
                 | refine st_fieldAddr rfl rfl rfl rfl rfl ?_
                 | refine st_pick rfl ?_
                 | refine st_nilCheck rfl ?_
                 | refine st_store_ptr rfl rfl rfl rfl rfl rfl rfl ?_
                 | refine st_len_sl rfl rfl rfl ?_
                 | refine st_len_str rfl rfl rfl ?_
                 | refine st_extract rfl rfl ?_
                 | refine st_un rfl ?_
                 | refine st_min rfl rfl ?_
                 | refine st_max rfl rfl ?_
                 | refine st_conv rfl rfl rfl rfl ?_
                 | refine st_eql rfl rfl rfl ?_
                 | refine st_neq rfl rfl rfl ?_
                 | refine st_alloc rfl rfl ?_
                 | refine st_box rfl ?_
                 | refine st_field rfl rfl rfl rfl rfl ?_
                 | refine st_build rfl rfl rfl rfl rfl ?_
                 refine nx rfl rfl ?_)
              | refine aops_nil ?_
              | refine bskip rfl ?_
              | refine bskip0 rfl ?_
              | refine bguard rfl rfl (fun _ => ?_) (fun _ => ?_)
              | refine bguardB rfl rfl (fun _ => ?_) (fun _ => ?_))
          refine then_i ?_
          refine ⟨⟨k + 1, by omega, fun j hj => ?_⟩, by show _ - (k + 1) < _ - k; omega, ?_⟩
          · rcases Nat.lt_or_ge j k with h1 | h1
            · exact h j h1
            · have : j = k := by omega
              subst this
              rw [hp, hq, hpq]
          · refine imp_tidy0 (fa_cons (ren_val rfl ?_) (fa_cons (ren_val rfl ?_) (fa_cons (ren_val rfl trivial) (fa_cons (ren_val ?_ trivial) fa_nil))))
            · exact u8_ids a
            · exact u8_ids b
            · show AV.int .i64 (IntKind.i64.wrap (k + 1)) = _
              rw [wrap_in (by omega) (by omega)]; rfl
      · have hkl : k = a.length := by
          have : ¬ (k < a.length) := fun hh => hge (by exact_mod_cast hh)
          omega
        have hab : a = b := by
          refine List.ext_getElem? fun j => ?_
          rcases Nat.lt_or_ge j k with h1 | h1
          · exact h j h1
          · rw [List.getElem?_eq_none (by omega), List.getElem?_eq_none (by omega)]
        refine awp_exit ?_
        refine then_x ?_
        refine then_x ?_
        refine blk_x ?_
        refine awp_seq ?_
        refine awp_region rfl ?_
        repeat' (first
            | (first
               | refine bs rfl ?_
               | refine bs0 rfl ?_
               first
               | refine st_move ?_
               | refine st_assign ?_
               | refine st_bin rfl ?_
               | refine st_load rfl rfl rfl ?_
               | refine st_fieldAddr rfl rfl rfl rfl rfl ?_
               | refine st_pick rfl ?_
               | refine st_nilCheck rfl ?_
               | refine st_store_ptr rfl rfl rfl rfl rfl rfl rfl ?_
               | refine st_len_sl rfl rfl rfl ?_
               | refine st_len_str rfl rfl rfl ?_
               | refine st_extract rfl rfl ?_
               | refine st_un rfl ?_
               | refine st_min rfl rfl ?_
               | refine st_max rfl rfl ?_
               | refine st_conv rfl rfl rfl rfl ?_
               | refine st_eql rfl rfl rfl ?_
               | refine st_neq rfl rfl rfl ?_
               | refine st_alloc rfl rfl ?_
               | refine st_box rfl ?_
               | refine st_field rfl rfl rfl rfl rfl ?_
               | refine st_build rfl rfl rfl rfl rfl ?_
               refine nx rfl rfl ?_)
            | refine aops_nil ?_
            | refine bskip rfl ?_
            | refine bskip0 rfl ?_
            | refine bguard rfl rfl (fun _ => ?_) (fun _ => ?_)
            | refine bguardB rfl rfl (fun _ => ?_) (fun _ => ?_))
        refine awp_ret ?_
        exact ⟨_, rfl, by simp [hab] <;> rfl, rfl⟩
end Go.Abs
namespace Go.Abs
def crcP : Nat := 2197175160
def bitS (c : Nat) : Nat := (c >>> 1) ^^^ (if c &&& 1 = 1 then crcP else 0)
theorem and1 (c : Nat) : c &&& 1 = c % 2 := Nat.and_one_is_mod c
theorem xor_mod2 (a b : Nat) : (a ^^^ b) % 2 = (a % 2 + b % 2) % 2 := by
  have h : ∀ n : Nat, n % 2 = if n.testBit 0 then 1 else 0 := fun n => by
    rw [Nat.testBit_zero]
    by_cases h : n % 2 = 1
    · simp [h]
    · have : n % 2 = 0 := by omega
      simp [this]
  rw [h (a ^^^ b), h a, h b, Nat.testBit_xor]
  cases a.testBit 0 <;> cases b.testBit 0 <;> rfl
theorem bitS_xor (a b : Nat) : bitS (a ^^^ b) = bitS a ^^^ bitS b := by
  unfold bitS
  rw [and1, and1, and1, xor_mod2, Nat.shiftRight_xor_distrib]
  rcases Nat.mod_two_eq_zero_or_one a with ha | ha <;> rcases Nat.mod_two_eq_zero_or_one b with hb | hb <;> rw [ha, hb]
  · simp
  · simp [Nat.xor_assoc]
  · simp
    rw [Nat.xor_assoc, Nat.xor_comm (b >>> 1), ← Nat.xor_assoc]
  · simp
    have : ∀ x y : Nat, x ^^^ crcP ^^^ (y ^^^ crcP) = x ^^^ y := fun x y => by
      rw [Nat.xor_comm y, Nat.xor_assoc, ← Nat.xor_assoc crcP, Nat.xor_self, Nat.zero_xor]
    rw [this]
def bitK : Nat → Nat → Nat
  | 0, c => c
  | n + 1, c => bitK n (bitS c)
theorem bitK_xor : ∀ (n a b : Nat), bitK n (a ^^^ b) = bitK n a ^^^ bitK n b
  | 0, _, _ => rfl
  | n + 1, a, b => by simp only [bitK]; rw [bitS_xor, bitK_xor n]
theorem bitS_two (y : Nat) : bitS (y * 2) = y := by
  unfold bitS
  rw [and1, if_neg (by omega), Nat.shiftRight_eq_div_pow, Nat.xor_zero]
  omega
theorem bitK_nib {z : Nat} : bitK 4 z = (z >>> 4) ^^^ crcT (z &&& 15) := by
  have h1 : z = ((z >>> 4) * 16) ^^^ (z &&& 15) := by
    have e : (z >>> 4) * 16 = (z >>> 4) <<< 4 := by rw [Nat.shiftLeft_eq]
    rw [e]
    apply Nat.eq_of_testBit_eq
    intro i
    have h15 : (15 : Nat) = 2 ^ 4 - 1 := by decide
    rw [Nat.testBit_xor, Nat.testBit_shiftLeft, Nat.testBit_and, h15, Nat.testBit_two_pow_sub_one]
    by_cases hi : i < 4
    · have : ¬ i ≥ 4 := by omega
      simp [hi, this]
    · have h4 : i ≥ 4 := by omega
      rw [Nat.testBit_shiftRight]
      have : 4 + (i - 4) = i := by omega
      simp [hi, h4, this]
  have h2 : bitK 4 ((z >>> 4) * 16) = z >>> 4 := by
    have e : (z >>> 4) * 16 = (z >>> 4) * 2 * 2 * 2 * 2 := by omega
    rw [e]
    simp only [bitK, bitS_two]
  have h3 : bitK 4 (z &&& 15) = crcT (z &&& 15) := by
    have h4 : ((List.range 16).all fun l => decide (bitK 4 l = crcT l)) = true := by kernel_rfl
    have := List.all_eq_true.1 h4 (z &&& 15) (by simpa using and15 z)
    simpa using this
  rw [← h2, ← h3, ← bitK_xor, ← h1]
theorem bitK_add : ∀ (m n c : Nat), bitK (m + n) c = bitK n (bitK m c)
  | 0, n, c => by simp [bitK]
  | m + 1, n, c => by
    have : m + 1 + n = (m + n) + 1 := by omega
    rw [this]; simp only [bitK]; exact bitK_add m n _
theorem stepN_bits (c x : Nat) : stepN c x = bitK 8 (c ^^^ x) := by
  rw [show (8 : Nat) = 4 + 4 from rfl, bitK_add, bitK_nib, bitK_nib]
  rfl
/-- The reference's round: bit k of x. -/
def refK (x : Nat) : Nat → Nat → Nat
  | 0, c => c
  | k + 1, c => (refK x k c >>> 1) ^^^ (if (refK x k c ^^^ (x >>> k)) &&& 1 = 1 then crcP else 0)
attribute [local irreducible] AStep aops AWp Nx awM
end Go.Abs
namespace Go.Abs
attribute [local irreducible] AStep aops AWp Nx awM
end Go.Abs
namespace Go.Abs
def frI (kind : Nat) (p : List UInt8) (i : Nat) : List UInt8 := UInt8.ofNat (kind % 256) :: (p ++ List.replicate i 0)
attribute [local irreducible] AStep aops AWp Nx awM
end Go.Abs
namespace Go.Abs
attribute [local irreducible] AStep aops AWp Nx awM
end Go.Abs
namespace Go.Abs
def logF (n : Int) : Nat → Nat → Int
  | _, 0 => -1
  | k, m + 1 => if n = ((2 ^ k : Nat) : Int) then (k : Int) else logF n (k + 1) m
def logI (n : Int) : Int := logF n 0 12
attribute [local irreducible] AStep aops AWp Nx awM
end Go.Abs
namespace Go.Abs
attribute [local irreducible] AStep aops AWp Nx awM
end Go.Abs
namespace Go.Abs
def rdL (x0 x1 x2 x3 x4 x5 x6 : UInt8) : La :=
  ⟨(numN [x0, x1, x2, x3] : Nat), (x4.toNat : Int), if numN [x0, x1, x2, x3] = 0 ∧ x4.toNat = 0 ∧ x6.toNat = 0 ∧ x5.toNat = 0 then 0 else ((2 ^ min x5.toNat 12 : Nat) : Int), (x6.toNat : Int)⟩
attribute [local irreducible] AStep aops AWp Nx awM
end Go.Abs
namespace Go.Abs
def rdV : List UInt8 → La
  | [x0, x1, x2, x3, x4, x5, x6] => rdL x0 x1 x2 x3 x4 x5 x6
  | _ => ⟨0, 0, 0, 0⟩
def rparP (bs : List UInt8) : Pl := ⟨((bs[0]?.getD 0).toNat : Nat), (numN ((bs.drop 1).take 4) : Nat), ((bs[5]?.getD 0).toNat : Nat), (numN ((bs.drop 6).take 6) : Nat), rdV ((bs.drop 12).take 7)⟩
theorem b_back {n : Nat} (h : n ≤ 255) : (UInt8.ofNat (n % 256)).toNat = n := by
  rw [UInt8.toNat_ofNat']; omega
attribute [local irreducible] AStep aops AWp Nx awM
end Go.Abs

