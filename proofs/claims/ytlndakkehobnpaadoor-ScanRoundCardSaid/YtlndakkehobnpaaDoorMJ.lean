/- LogSector: the walk. Joined texts, each with what its own name promises; no condition beyond those stated. -/
import Derived.Test.YtlndakkehobnpaaDoorME
import Derived.Test.YtlndakkehobnpaaDoorMC
import Derived.Test.YtlndakkehobnpaaDoorMB
namespace Go.Abs
attribute [local irreducible] AStep aops AWp Nx awM
end Go.Abs
namespace Go.Abs
structure EqI (a b : List UInt8) where
  k : Nat
  hk : k ≤ a.length
  h : ∀ j, j < k → a[j]? = b[j]?
def eqS (a b : List UInt8) (i : EqI a b) : St :=
  ⟨[(0, .sl 1 (a.map u8A)), (1, .sl 1 (b.map u8A)), (12, .int .i64 a.length), (13, .int .i64 i.k)], []⟩

theorem u8_get {l : List UInt8} {k : Nat} {p : UInt8} (h : l[k]? = some p) : (l.map u8A)[k]? = some (u8A p) := by simp [h]

attribute [local irreducible] AStep aops AWp Nx awM
set_option maxHeartbeats 0 in
theorem eqb_c (X : Nat → Prop) (a b : List UInt8) (ha : a.length ≤ 4611686018427387904) :
    ACalls (E0 X) 28 [.sl 1 (a.map u8A), .sl 1 (b.map u8A)] [] (fun r H' => r = .bool (decide (a = b)) ∧ H' = []) := by
  refine acalls_of Proofs.Tryd.func28 rfl Proofs.Tryd.ntmps28 (by kernel_rfl) rfl ?_
  intro hH hargs
  refine awp_seq ?_
  refine awp_region rfl ?_
  repeat' (first
      | (first
         | refine bs rfl ?_
         | refine bs0 rfl ?_
         first
         | refine st_move ?_
         | refine st_assign ?_
         | refine st_bin rfl ?_
         | refine st_load rfl rfl rfl ?_
         | refine st_fieldAddr rfl rfl rfl rfl rfl ?_
         | refine st_pick rfl ?_
         | refine st_nilCheck rfl ?_
         | refine st_store_ptr rfl rfl rfl rfl rfl rfl rfl ?_
         | refine st_len_sl rfl rfl rfl ?_
         | refine st_len_str rfl rfl rfl ?_
         | refine st_extract rfl rfl ?_
         | refine st_un rfl ?_
         | refine st_min rfl rfl ?_
         | refine st_max rfl rfl ?_
         | refine st_conv rfl rfl rfl rfl ?_
         | refine st_eql rfl rfl rfl ?_
         | refine st_neq rfl rfl rfl ?_
         | refine st_alloc rfl rfl ?_
         | refine st_box rfl ?_
         | refine st_field rfl rfl rfl rfl rfl ?_
         | refine st_build rfl rfl rfl rfl rfl ?_
         refine nx rfl rfl ?_)
      | refine aops_nil ?_
      | refine bskip rfl ?_
      | refine bskip0 rfl ?_
      | refine bguard rfl rfl (fun _ => ?_) (fun _ => ?_)
      | refine bguardB rfl rfl (fun _ => ?_) (fun _ => ?_))
  refine awp_seq ?_
  refine awp_seq ?_
  refine awp_region rfl ?_
  repeat' (first
      | (first
         | refine bs rfl ?_
         | refine bs0 rfl ?_
         first
         | refine st_move ?_
         | refine st_assign ?_
         | refine st_bin rfl ?_
         | refine st_load rfl rfl rfl ?_
         | refine st_fieldAddr rfl rfl rfl rfl rfl ?_
         | refine st_pick rfl ?_
         | refine st_nilCheck rfl ?_
         | refine st_store_ptr rfl rfl rfl rfl rfl rfl rfl ?_
         | refine st_len_sl rfl rfl rfl ?_
         | refine st_len_str rfl rfl rfl ?_
         | refine st_extract rfl rfl ?_
         | refine st_un rfl ?_
         | refine st_min rfl rfl ?_
         | refine st_max rfl rfl ?_
         | refine st_conv rfl rfl rfl rfl ?_
         | refine st_eql rfl rfl rfl ?_
         | refine st_neq rfl rfl rfl ?_
         | refine st_alloc rfl rfl ?_
         | refine st_box rfl ?_
         | refine st_field rfl rfl rfl rfl rfl ?_
         | refine st_build rfl rfl rfl rfl rfl ?_
         refine nx rfl rfl ?_)
      | refine aops_nil ?_
      | refine bskip rfl ?_
      | refine bskip0 rfl ?_
      | refine bguard rfl rfl (fun _ => ?_) (fun _ => ?_)
      | refine bguardB rfl rfl (fun _ => ?_) (fun _ => ?_))
  refine awp_cond rfl (fun hne => ?_) (fun heq => ?_)
  · refine awp_seq ?_
    refine awp_region rfl ?_
    repeat' (first
        | (first
           | refine bs rfl ?_
           | refine bs0 rfl ?_
           first
           | refine st_move ?_
           | refine st_assign ?_
           | refine st_bin rfl ?_
           | refine st_load rfl rfl rfl ?_
           | refine st_fieldAddr rfl rfl rfl rfl rfl ?_
           | refine st_pick rfl ?_
           | refine st_nilCheck rfl ?_
           | refine st_store_ptr rfl rfl rfl rfl rfl rfl rfl ?_
           | refine st_len_sl rfl rfl rfl ?_
           | refine st_len_str rfl rfl rfl ?_
           | refine st_extract rfl rfl ?_
           | refine st_un rfl ?_
           | refine st_min rfl rfl ?_
           | refine st_max rfl rfl ?_
           | refine st_conv rfl rfl rfl rfl ?_
           | refine st_eql rfl rfl rfl ?_
           | refine st_neq rfl rfl rfl ?_
           | refine st_alloc rfl rfl ?_
           | refine st_box rfl ?_
           | refine st_field rfl rfl rfl rfl rfl ?_
           | refine st_build rfl rfl rfl rfl rfl ?_
           refine nx rfl rfl ?_)
        | refine aops_nil ?_
        | refine bskip rfl ?_
        | refine bskip0 rfl ?_
        | refine bguard rfl rfl (fun _ => ?_) (fun _ => ?_)
        | refine bguardB rfl rfl (fun _ => ?_) (fun _ => ?_))
    refine awp_ret ?_
    refine ⟨_, rfl, ?_, rfl⟩
    show AV.bool false = _
    have : a ≠ b := fun h => by subst h; simp at hne
    simp [this]
  · have hlen : a.length = b.length := by simp at heq; omega
    refine awp_skip ?_
    refine awp_seq ?_
    refine awp_seq ?_
    refine awp_region rfl ?_
    repeat' (first
        | (first
           | refine bs rfl ?_
           | refine bs0 rfl ?_
           first
           | refine st_move ?_
           | refine st_assign ?_
           | refine st_bin rfl ?_
           | refine st_load rfl rfl rfl ?_
           | refine st_fieldAddr rfl rfl rfl rfl rfl ?_
           | refine st_pick rfl ?_
           | refine st_nilCheck rfl ?_
           | refine st_store_ptr rfl rfl rfl rfl rfl rfl rfl ?_
           | refine st_len_sl rfl rfl rfl ?_
           | refine st_len_str rfl rfl rfl ?_
           | refine st_extract rfl rfl ?_
           | refine st_un rfl ?_
           | refine st_min rfl rfl ?_
           | refine st_max rfl rfl ?_
           | refine st_conv rfl rfl rfl rfl ?_
           | refine st_eql rfl rfl rfl ?_
           | refine st_neq rfl rfl rfl ?_
           | refine st_alloc rfl rfl ?_
           | refine st_box rfl ?_
           | refine st_field rfl rfl rfl rfl rfl ?_
           | refine st_build rfl rfl rfl rfl rfl ?_
           refine nx rfl rfl ?_)
        | refine aops_nil ?_
        | refine bskip rfl ?_
        | refine bskip0 rfl ?_
        | refine bguard rfl rfl (fun _ => ?_) (fun _ => ?_)
        | refine bguardB rfl rfl (fun _ => ?_) (fun _ => ?_))
    refine awp_block ?_
    refine awp_loop (eqS a b) (fun i => a.length - i.k) ⟨0, Nat.zero_le _, fun j h => absurd h (Nat.not_lt_zero j)⟩ ?_ ?_
    · refine imp_tidy0 (fa_cons (ren_val rfl ?_) (fa_cons (ren_val rfl ?_) (fa_cons (ren_val ?_ trivial) (fa_cons (ren_val rfl trivial) fa_nil))))
      · exact u8_ids a
      · exact u8_ids b
      · simp [get_cons]
    · rintro ⟨k, hk, h⟩
      show AWp (E0 X) _ _ _ _ ⟨[(0, .sl 1 (a.map u8A)), (1, .sl 1 (b.map u8A)), (12, .int .i64 a.length), (13, .int .i64 k)], []⟩
      refine awp_seq ?_
      refine awp_region rfl ?_
      repeat' (first
          | (first
             | refine bs rfl ?_
             | refine bs0 rfl ?_
             first
             | refine st_move ?_
             | refine st_assign ?_
             | refine st_bin rfl ?_
             | refine st_load rfl rfl rfl ?_
             | refine st_fieldAddr rfl rfl rfl rfl rfl ?_
             | refine st_pick rfl ?_
             | refine st_nilCheck rfl ?_
             | refine st_store_ptr rfl rfl rfl rfl rfl rfl rfl ?_
             | refine st_len_sl rfl rfl rfl ?_
             | refine st_len_str rfl rfl rfl ?_
             | refine st_extract rfl rfl ?_
             | refine st_un rfl ?_
             | refine st_min rfl rfl ?_
             | refine st_max rfl rfl ?_
             | refine st_conv rfl rfl rfl rfl ?_
             | refine st_eql rfl rfl rfl ?_
             | refine st_neq rfl rfl rfl ?_
             | refine st_alloc rfl rfl ?_
             | refine st_box rfl ?_
             | refine st_field rfl rfl rfl rfl rfl ?_
             | refine st_build rfl rfl rfl rfl rfl ?_
             refine nx rfl rfl ?_)
          | refine aops_nil ?_
          | refine bskip rfl ?_
          | refine bskip0 rfl ?_
          | refine bguard rfl rfl (fun _ => ?_) (fun _ => ?_)
          | refine bguardB rfl rfl (fun _ => ?_) (fun _ => ?_))
      refine awp_seq ?_
      refine awp_cond_dec rfl (fun hlt => ?_) (fun hge => ?_)
      · have hka : k < a.length := of_decide_eq_true (by simpa using hlt)
        obtain ⟨p, hp⟩ : ∃ p, a[k]? = some p := ⟨_, List.getElem?_eq_getElem hka⟩
        obtain ⟨q, hq⟩ : ∃ q, b[k]? = some q := ⟨_, List.getElem?_eq_getElem (hlen ▸ hka)⟩
        refine awp_skip ?_
        refine awp_seq ?_
        refine awp_block ?_
        refine awp_seq ?_
        refine awp_region rfl ?_
        repeat' (first
            | (first
               | refine bs rfl ?_
               | refine bs0 rfl ?_
               first
               | refine st_move ?_
               | refine st_assign ?_
               | refine st_bin rfl ?_
               | refine st_load rfl rfl rfl ?_
               | refine st_fieldAddr rfl rfl rfl rfl rfl ?_
               | refine st_pick rfl ?_
               | refine st_nilCheck rfl ?_
               | refine st_store_ptr rfl rfl rfl rfl rfl rfl rfl ?_
               | refine st_len_sl rfl rfl rfl ?_
               | refine st_len_str rfl rfl rfl ?_
               | refine st_extract rfl rfl ?_
               | refine st_un rfl ?_
               | refine st_min rfl rfl ?_
               | refine st_max rfl rfl ?_
               | refine st_conv rfl rfl rfl rfl ?_
               | refine st_eql rfl rfl rfl ?_
               | refine st_neq rfl rfl rfl ?_
               | refine st_alloc rfl rfl ?_
               | refine st_box rfl ?_
               | refine st_field rfl rfl rfl rfl rfl ?_
               | refine st_build rfl rfl rfl rfl rfl ?_
               refine nx rfl rfl ?_)
            | refine aops_nil ?_
            | refine bskip rfl ?_
            | refine bskip0 rfl ?_
            | refine bguard rfl rfl (fun _ => ?_) (fun _ => ?_)
            | refine bguardB rfl rfl (fun _ => ?_) (fun _ => ?_))
        refine awp_seq ?_
        refine awp_region_draw (ef := []) (so := []) (ord := [0, 1, 2, 3, 4, 5, 6, 7, 8]) rfl (by kernel_rfl) rfl ?_
        repeat (apply ds rfl rfl rfl rfl
                · first
                  | refine st_move ?_
                  | refine st_assign ?_
                  | refine st_bin rfl ?_
                  | refine st_load rfl rfl rfl ?_
                  | refine st_fieldAddr rfl rfl rfl rfl rfl ?_
                  | refine st_pick rfl ?_
                  | refine st_nilCheck rfl ?_
                  | refine st_len_sl rfl rfl rfl ?_
                  | refine st_len_str rfl rfl rfl ?_
                  | refine st_un rfl ?_
                  | refine st_field rfl rfl rfl rfl rfl ?_
                  exact nx rfl rfl ⟨rfl, rfl⟩)
        apply ds rfl rfl rfl rfl
        · refine st_index_sl (k := 1) (es := a.map u8A) (e := 5) (kk := .i64) (n := k) (j := k) (y := u8A p) rfl rfl rfl ?_ ?_ rfl rfl (u8_get hp) rfl rfl ?_
          · rfl
          · rfl
          exact nx rfl rfl ⟨rfl, rfl⟩
        repeat (apply ds rfl rfl rfl rfl
                · first
                  | refine st_move ?_
                  | refine st_assign ?_
                  | refine st_bin rfl ?_
                  | refine st_load rfl rfl rfl ?_
                  | refine st_fieldAddr rfl rfl rfl rfl rfl ?_
                  | refine st_pick rfl ?_
                  | refine st_nilCheck rfl ?_
                  | refine st_len_sl rfl rfl rfl ?_
                  | refine st_len_str rfl rfl rfl ?_
                  | refine st_un rfl ?_
                  | refine st_field rfl rfl rfl rfl rfl ?_
                  exact nx rfl rfl ⟨rfl, rfl⟩)
        apply ds rfl rfl rfl rfl
        · refine st_index_sl (k := 1) (es := b.map u8A) (e := 5) (kk := .i64) (n := k) (j := k) (y := u8A q) rfl rfl rfl ?_ ?_ rfl rfl (u8_get hq) rfl rfl ?_
          · rfl
          · rfl
          exact nx rfl rfl ⟨rfl, rfl⟩
        repeat (apply ds rfl rfl rfl rfl
                · first
                  | refine st_move ?_
                  | refine st_assign ?_
                  | refine st_bin rfl ?_
                  | refine st_load rfl rfl rfl ?_
                  | refine st_fieldAddr rfl rfl rfl rfl rfl ?_
                  | refine st_pick rfl ?_
                  | refine st_nilCheck rfl ?_
                  | refine st_len_sl rfl rfl rfl ?_
                  | refine st_len_str rfl rfl rfl ?_
                  | refine st_un rfl ?_
                  | refine st_field rfl rfl rfl rfl rfl ?_
                  exact nx rfl rfl ⟨rfl, rfl⟩)
        refine ds_nil ?_
        refine awp_cond rfl (fun hne => ?_) (fun heq => ?_)
        · refine awp_seq ?_
          refine awp_region rfl ?_
          repeat' (first
              | (first
                 | refine bs rfl ?_
                 | refine bs0 rfl ?_
                 first
                 | refine st_move ?_
                 | refine st_assign ?_
                 | refine st_bin rfl ?_
                 | refine st_load rfl rfl rfl ?_
                 | refine st_fieldAddr rfl rfl rfl rfl rfl ?_
                 | refine st_pick rfl ?_
                 | refine st_nilCheck rfl ?_
                 | refine st_store_ptr rfl rfl rfl rfl rfl rfl rfl ?_
                 | refine st_len_sl rfl rfl rfl ?_
                 | refine st_len_str rfl rfl rfl ?_
                 | refine st_extract rfl rfl ?_
                 | refine st_un rfl ?_
                 | refine st_min rfl rfl ?_
                 | refine st_max rfl rfl ?_
                 | refine st_conv rfl rfl rfl rfl ?_
                 | refine st_eql rfl rfl rfl ?_
                 | refine st_neq rfl rfl rfl ?_
                 | refine st_alloc rfl rfl ?_
                 | refine st_box rfl ?_
                 | refine st_field rfl rfl rfl rfl rfl ?_
                 | refine st_build rfl rfl rfl rfl rfl ?_
                 refine nx rfl rfl ?_)
              | refine aops_nil ?_
              | refine bskip rfl ?_
              | refine bskip0 rfl ?_
              | refine bguard rfl rfl (fun _ => ?_) (fun _ => ?_)
              | refine bguardB rfl rfl (fun _ => ?_) (fun _ => ?_))
          refine awp_ret ?_
          refine ⟨_, rfl, ?_, rfl⟩
          show AV.bool false = _
          have : a ≠ b := fun h => by subst h; rw [hp] at hq; cases hq; simp at hne
          simp [this]
        · have hpq : p = q := by
            have h9 : (p.toNat : Int) = q.toNat := by simpa using heq
            exact UInt8.toNat_inj.1 (by omega)
          refine awp_skip ?_
          refine awp_region rfl ?_
          repeat' (first
              | (first
                 | refine bs rfl ?_
                 | refine bs0 rfl ?_
                 first
                 | refine st_move ?_
                 | refine st_assign ?_
                 | refine st_bin rfl ?_
                 | refine st_load rfl rfl rfl ?_
                 | refine st_fieldAddr rfl rfl rfl rfl rfl ?_
                 | refine st_pick rfl ?_
                 | refine st_nilCheck rfl ?_
                 | refine st_store_ptr rfl rfl rfl rfl rfl rfl rfl ?_
                 | refine st_len_sl rfl rfl rfl ?_
                 | refine st_len_str rfl rfl rfl ?_
                 | refine st_extract rfl rfl ?_
                 | refine st_un rfl ?_
                 | refine st_min rfl rfl ?_
                 | refine st_max rfl rfl ?_
                 | refine st_conv rfl rfl rfl rfl ?_
                 | refine st_eql rfl rfl rfl ?_
                 | refine st_neq rfl rfl rfl ?_
                 | refine st_alloc rfl rfl ?_
                 | refine st_box rfl ?_
                 | refine st_field rfl rfl rfl rfl rfl ?_
                 | refine st_build rfl rfl rfl rfl rfl ?_
                 refine nx rfl rfl ?_)
              | refine aops_nil ?_
              | refine bskip rfl ?_
              | refine bskip0 rfl ?_
              | refine bguard rfl rfl (fun _ => ?_) (fun _ => ?_)
              | refine bguardB rfl rfl (fun _ => ?_) (fun _ => ?_))
          refine then_i ?_
          refine ⟨⟨k + 1, by omega, fun j hj => ?_⟩, by show _ - (k + 1) < _ - k; omega, ?_⟩
          · rcases Nat.lt_or_ge j k with h1 | h1
            · exact h j h1
            · have : j = k := by omega
              subst this
              rw [hp, hq, hpq]
          · refine imp_tidy0 (fa_cons (ren_val rfl ?_) (fa_cons (ren_val rfl ?_) (fa_cons (ren_val rfl trivial) (fa_cons (ren_val ?_ trivial) fa_nil))))
            · exact u8_ids a
            · exact u8_ids b
            · show AV.int .i64 (IntKind.i64.wrap (k + 1)) = _
              rw [wrap_in (by omega) (by omega)]; rfl
      · have hkl : k = a.length := by
          have : ¬ (k < a.length) := fun hh => hge (by exact_mod_cast hh)
          omega
        have hab : a = b := by
          refine List.ext_getElem? fun j => ?_
          rcases Nat.lt_or_ge j k with h1 | h1
          · exact h j h1
          · rw [List.getElem?_eq_none (by omega), List.getElem?_eq_none (by omega)]
        refine awp_exit ?_
        refine then_x ?_
        refine then_x ?_
        refine blk_x ?_
        refine awp_seq ?_
        refine awp_region rfl ?_
        repeat' (first
            | (first
               | refine bs rfl ?_
               | refine bs0 rfl ?_
               first
               | refine st_move ?_
               | refine st_assign ?_
               | refine st_bin rfl ?_
               | refine st_load rfl rfl rfl ?_
               | refine st_fieldAddr rfl rfl rfl rfl rfl ?_
               | refine st_pick rfl ?_
               | refine st_nilCheck rfl ?_
               | refine st_store_ptr rfl rfl rfl rfl rfl rfl rfl ?_
               | refine st_len_sl rfl rfl rfl ?_
               | refine st_len_str rfl rfl rfl ?_
               | refine st_extract rfl rfl ?_
               | refine st_un rfl ?_
               | refine st_min rfl rfl ?_
               | refine st_max rfl rfl ?_
               | refine st_conv rfl rfl rfl rfl ?_
               | refine st_eql rfl rfl rfl ?_
               | refine st_neq rfl rfl rfl ?_
               | refine st_alloc rfl rfl ?_
               | refine st_box rfl ?_
               | refine st_field rfl rfl rfl rfl rfl ?_
               | refine st_build rfl rfl rfl rfl rfl ?_
               refine nx rfl rfl ?_)
            | refine aops_nil ?_
            | refine bskip rfl ?_
            | refine bskip0 rfl ?_
            | refine bguard rfl rfl (fun _ => ?_) (fun _ => ?_)
            | refine bguardB rfl rfl (fun _ => ?_) (fun _ => ?_))
        refine awp_ret ?_
        exact ⟨_, rfl, by simp [hab] <;> rfl, rfl⟩
end Go.Abs
namespace Go.Abs
def crcP : Nat := 2197175160
def bitS (c : Nat) : Nat := (c >>> 1) ^^^ (if c &&& 1 = 1 then crcP else 0)
theorem and1 (c : Nat) : c &&& 1 = c % 2 := Nat.and_one_is_mod c
theorem xor_mod2 (a b : Nat) : (a ^^^ b) % 2 = (a % 2 + b % 2) % 2 := by
  have h : ∀ n : Nat, n % 2 = if n.testBit 0 then 1 else 0 := fun n => by
    rw [Nat.testBit_zero]
    by_cases h : n % 2 = 1
    · simp [h]
    · have : n % 2 = 0 := by omega
      simp [this]
  rw [h (a ^^^ b), h a, h b, Nat.testBit_xor]
  cases a.testBit 0 <;> cases b.testBit 0 <;> rfl
theorem bitS_xor (a b : Nat) : bitS (a ^^^ b) = bitS a ^^^ bitS b := by
  unfold bitS
  rw [and1, and1, and1, xor_mod2, Nat.shiftRight_xor_distrib]
  rcases Nat.mod_two_eq_zero_or_one a with ha | ha <;> rcases Nat.mod_two_eq_zero_or_one b with hb | hb <;> rw [ha, hb]
  · simp
  · simp [Nat.xor_assoc]
  · simp
    rw [Nat.xor_assoc, Nat.xor_comm (b >>> 1), ← Nat.xor_assoc]
  · simp
    have : ∀ x y : Nat, x ^^^ crcP ^^^ (y ^^^ crcP) = x ^^^ y := fun x y => by
      rw [Nat.xor_comm y, Nat.xor_assoc, ← Nat.xor_assoc crcP, Nat.xor_self, Nat.zero_xor]
    rw [this]
def bitK : Nat → Nat → Nat
  | 0, c => c
  | n + 1, c => bitK n (bitS c)
theorem bitK_xor : ∀ (n a b : Nat), bitK n (a ^^^ b) = bitK n a ^^^ bitK n b
  | 0, _, _ => rfl
  | n + 1, a, b => by simp only [bitK]; rw [bitS_xor, bitK_xor n]
theorem bitS_two (y : Nat) : bitS (y * 2) = y := by
  unfold bitS
  rw [and1, if_neg (by omega), Nat.shiftRight_eq_div_pow, Nat.xor_zero]
  omega
theorem bitK_nib {z : Nat} : bitK 4 z = (z >>> 4) ^^^ crcT (z &&& 15) := by
  have h1 : z = ((z >>> 4) * 16) ^^^ (z &&& 15) := by
    have e : (z >>> 4) * 16 = (z >>> 4) <<< 4 := by rw [Nat.shiftLeft_eq]
    rw [e]
    apply Nat.eq_of_testBit_eq
    intro i
    have h15 : (15 : Nat) = 2 ^ 4 - 1 := by decide
    rw [Nat.testBit_xor, Nat.testBit_shiftLeft, Nat.testBit_and, h15, Nat.testBit_two_pow_sub_one]
    by_cases hi : i < 4
    · have : ¬ i ≥ 4 := by omega
      simp [hi, this]
    · have h4 : i ≥ 4 := by omega
      rw [Nat.testBit_shiftRight]
      have : 4 + (i - 4) = i := by omega
      simp [hi, h4, this]
  have h2 : bitK 4 ((z >>> 4) * 16) = z >>> 4 := by
    have e : (z >>> 4) * 16 = (z >>> 4) * 2 * 2 * 2 * 2 := by omega
    rw [e]
    simp only [bitK, bitS_two]
  have h3 : bitK 4 (z &&& 15) = crcT (z &&& 15) := by
    have h4 : ((List.range 16).all fun l => decide (bitK 4 l = crcT l)) = true := by kernel_rfl
    have := List.all_eq_true.1 h4 (z &&& 15) (by simpa using and15 z)
    simpa using this
  rw [← h2, ← h3, ← bitK_xor, ← h1]
theorem bitK_add : ∀ (m n c : Nat), bitK (m + n) c = bitK n (bitK m c)
  | 0, n, c => by simp [bitK]
  | m + 1, n, c => by
    have : m + 1 + n = (m + n) + 1 := by omega
    rw [this]; simp only [bitK]; exact bitK_add m n _
theorem stepN_bits (c x : Nat) : stepN c x = bitK 8 (c ^^^ x) := by
  rw [show (8 : Nat) = 4 + 4 from rfl, bitK_add, bitK_nib, bitK_nib]
  rfl
/-- The reference's round: bit k of x. -/
def refK (x : Nat) : Nat → Nat → Nat
  | 0, c => c
  | k + 1, c => (refK x k c >>> 1) ^^^ (if (refK x k c ^^^ (x >>> k)) &&& 1 = 1 then crcP else 0)
theorem refK_bits (x c : Nat) : ∀ k, refK x k c ^^^ (x >>> k) = bitK k (c ^^^ x)
  | 0 => by simp [refK, bitK]
  | k + 1 => by
    have ih := refK_bits x c k
    have h1 : bitK (k + 1) (c ^^^ x) = bitS (bitK k (c ^^^ x)) := by rw [bitK_add k 1]; rfl
    rw [h1, ← ih]
    show ((refK x k c >>> 1) ^^^ (if (refK x k c ^^^ (x >>> k)) &&& 1 = 1 then crcP else 0)) ^^^ (x >>> (k + 1)) = bitS (refK x k c ^^^ (x >>> k))
    generalize refK x k c = r at *
    unfold bitS
    generalize (if (r ^^^ (x >>> k)) &&& 1 = 1 then crcP else 0) = q
    rw [Nat.shiftRight_xor_distrib, ← Nat.shiftRight_add, Nat.xor_assoc, Nat.xor_comm q, ← Nat.xor_assoc]
theorem refK_8 {x c : Nat} (hx : x < 256) : refK x 8 c = stepN c x := by
  have h := refK_bits x c 8
  have h1 : x >>> 8 = 0 := by rw [Nat.shiftRight_eq_div_pow]; omega
  rw [h1, Nat.xor_zero] at h
  rw [h, stepN_bits]
theorem refK_lt {x c : Nat} (hc : c < 4294967296) : ∀ k, refK x k c < 4294967296
  | 0 => hc
  | k + 1 => by
    have ih := refK_lt (x := x) hc k
    simp only [refK]
    have h2 : refK x k c >>> 1 < 2 ^ 32 := Nat.lt_of_le_of_lt (Nat.shiftRight_le _ _) ih
    refine Nat.xor_lt_two_pow (n := 32) h2 ?_
    split <;> decide
theorem shr1 (c : Nat) : (c : Int).fdiv (2 ^ (min (1 : Int).toNat IntKind.u32.bits)) = ((c >>> 1 : Nat) : Int) := by
  have h : (2 : Int) ^ (min (1 : Int).toNat IntKind.u32.bits) = ((2 ^ 1 : Nat) : Int) := by decide
  rw [h, Int.fdiv_eq_ediv_of_nonneg _ (by omega), Nat.shiftRight_eq_div_pow]
  exact (Int.natCast_ediv c (2 ^ 1)).symm
theorem shrk {x k : Nat} (hk : k < 8) : (x : Int).fdiv (2 ^ (min ((k : Nat) : Int).toNat IntKind.u8.bits)) = ((x >>> k : Nat) : Int) := by
  have h : (2 : Int) ^ (min ((k : Nat) : Int).toNat IntKind.u8.bits) = ((2 ^ k : Nat) : Int) := by
    have : min ((k : Nat) : Int).toNat IntKind.u8.bits = k := by simp [IntKind.bits]; omega
    rw [this]; simp
  rw [h, Int.fdiv_eq_ediv_of_nonneg _ (Int.natCast_nonneg _), Nat.shiftRight_eq_div_pow]
  exact (Int.natCast_ediv x (2 ^ k)).symm
theorem and1i {a : Nat} (ha : a < 4294967296) : ibits .and .u32 (a : Int) 1 = ((a &&& 1 : Nat) : Int) := and32 ha (by decide)
theorem xorP {a : Nat} (ha : a < 4294967296) : ibits .xor .u32 (a : Int) 2197175160 = ((a ^^^ crcP : Nat) : Int) := xor32 ha (by decide)
attribute [local irreducible] AStep aops AWp Nx awM
set_option maxHeartbeats 0 in
theorem rupd_c (X : Nat → Prop) (c : Nat) (hc : c < 4294967296) (l : List UInt8) (hl : l.length ≤ 1073741824) :
    ACalls (E0 X) 144 [u32A c, .sl 1 (l.map u8A)] [] (fun r H' => r = u32A (updN c l) ∧ H' = []) := by
  have hall : ∀ (k : Nat), (l.take k).foldl (fun c x => stepN c x.toNat) (c ^^^ crcM) < 4294967296 := fun k => by
    have h0 : c ^^^ crcM < 2 ^ 32 := Nat.xor_lt_two_pow hc (by decide)
    have : ∀ (l : List UInt8) (c : Nat), c < 4294967296 → l.foldl (fun c x => stepN c x.toNat) c < 4294967296 := by
      intro l
      induction l with
      | nil => intro c h; exact h
      | cons x l ih => intro c h; exact ih _ (stepN_lt h (by have := x.toNat_lt; omega))
    exact this _ _ h0
  refine acalls_of Proofs.Tryd.func144 rfl Proofs.Tryd.ntmps144 (by kernel_rfl) rfl ?_
  intro hH hargs
  clear hH hargs
  repeat' (first | ((refine Qa rfl ?_); (first | refine Q0 ?_ | refine Q1 ?_ | refine QD rfl ?_); (refine QX rfl rfl ?_)) | refine Qh ?_ | refine Ql ?_ | refine Qn ?_ | refine Qo rfl ?_)
  refine awp_loop2 (fun i : Nat => ⟨[(0, u32A ((l.take i).foldl (fun c x => stepN c x.toNat) (c ^^^ crcM))), (1, .sl 1 (l.map u8A)), (5, .int .i64 (i : Int))], []⟩) (fun i => i ≤ l.length) (fun i => l.length - i) 0 (Nat.zero_le _) ?_ ?_
  · refine imp_cutk 0 (Nat.zero_le _) hok_nil rfl (by simp) ?_
    refine fa_cons ⟨?_, trivial⟩ ?_
    · exact congrArg (AV.int .u32) (notM c hc)
    repeat' (first | exact fa_nil | refine fa_cons ⟨?_, ?_⟩ ?_)
    all_goals (try first | exact rfl | exact trivial | (simp [IdsLt]; done) | (simp [get_cons]; done) | (simp [get_cons, *]; done) | (refine congrArg (AV.int .i64) (wrap_eq ?_ ?_ ?_) <;> (first | omega | (simp; omega))))
  rintro i hi
  repeat' (first | ((refine Qa rfl ?_); (first | refine Q0 ?_ | refine Q2 rfl ?_ | refine Q7 rfl rfl rfl ?_); (refine QX rfl rfl ?_)) | refine Qh ?_ | refine Ql ?_ | refine Qo rfl ?_ | refine Qs ?_)
  refine awp_cond_dec rfl (fun h3 => ?_) (fun h3 => ?_)
  · have hi3 : i < l.length := by rw [List.length_map] at h3; omega
    obtain ⟨q, hq⟩ : ∃ q, l[i]? = some q := ⟨_, List.getElem?_eq_getElem hi3⟩
    have hq8 := q.toNat_lt
    have hn : (l.take (i + 1)).foldl (fun c x => stepN c x.toNat) (c ^^^ crcM) = refK q.toNat 8 ((l.take i).foldl (fun c x => stepN c x.toNat) (c ^^^ crcM)) := by
      rw [List.take_add_one, hq, List.foldl_append, refK_8 (by omega)]; rfl
    have hci := hall i
    generalize (l.take i).foldl (fun c x => stepN c x.toNat) (c ^^^ crcM) = ci at *
    repeat' (first | ((refine Qa rfl ?_); (refine Q1 ?_); (refine QX rfl rfl ?_)) | refine Qh ?_ | refine Ql ?_ | refine Qm ?_ | refine Qn ?_ | refine Qo rfl ?_)
    refine awp_loop2 (fun k : Nat => ⟨[(0, u32A (refK q.toNat k ci)), (1, .sl 1 (l.map u8A)), (5, .int .i64 (i : Int)), (6, .int .u64 (k : Int))], []⟩) (fun k => k ≤ 8) (fun k => 8 - k) 0 (Nat.zero_le _) ?_ ?_
    · refine imp_cutk 0 (Nat.zero_le _) hok_nil rfl (by simp) ?_
      repeat' (first | exact fa_nil | refine fa_cons ⟨?_, ?_⟩ ?_)
      all_goals (try first | exact rfl | exact trivial | (simp [IdsLt]; done) | (simp [get_cons]; done) | (simp [get_cons, *]; done) | (refine congrArg (AV.int .i64) (wrap_eq ?_ ?_ ?_) <;> (first | omega | (simp; omega))))
    rintro k hk
    have hck := refK_lt (x := q.toNat) hci k
    repeat' (first | ((refine Qa rfl ?_); (first | refine Q0 ?_ | refine Q2 rfl ?_); (refine QX rfl rfl ?_)) | refine Qh ?_ | refine Ql ?_ | refine Qo rfl ?_ | refine Qs ?_)
    refine awp_cond_dec rfl (fun h4 => ?_) (fun h4 => ?_)
    · have hk8 : k < 8 := by omega
      have hx : q.toNat >>> k < 256 := Nat.lt_of_le_of_lt (Nat.shiftRight_le _ _) (by omega)
      have hxx : refK q.toNat k ci ^^^ (q.toNat >>> k) < 4294967296 := Nat.xor_lt_two_pow (n := 32) hck (Nat.lt_trans hx (by decide))
      have hck1 : refK q.toNat k ci >>> 1 < 4294967296 := Nat.lt_of_le_of_lt (Nat.shiftRight_le _ _) hck
      have hkw : IntKind.u64.wrap ((k : Int) + 1) = ((k + 1 : Nat) : Int) := wrap64 (n := k + 1) (by omega)
      repeat' (first | ((refine Qa rfl ?_); (refine Q0 ?_); (refine QX rfl rfl ?_)) | refine Qa rfl ?_ | refine Ql ?_ | refine Qm ?_ | refine Qn ?_ | refine Qo rfl ?_)
      refine st_ixm hq rfl rfl rfl rfl rfl rfl rfl (by first | rfl | omega) rfl ?_
      first | refine nx rfl rfl ?_ | refine nx0 ?_
      repeat' (first | ((refine Qa rfl ?_); (first | refine Q0 ?_ | refine Q3 rfl rfl rfl ?_); (refine QX rfl rfl ?_)) | refine Qa rfl ?_)
      refine st_shr rfl rfl (by omega) ?_
      first | refine nx rfl rfl ?_ | refine nx0 ?_
      rw [shrk hk8]
      repeat' (first | ((refine Qa rfl ?_); (first | refine Q0 ?_ | refine Q1 ?_ | refine Q2 rfl ?_ | refine QG rfl rfl rfl rfl ?_); (refine QX rfl rfl ?_)) | refine Qa rfl ?_ | refine Qh ?_ | refine Ql ?_ | refine Qo rfl ?_)
      rw [wrap32 (by omega), xor32 hck (by omega), and1i hxx]
      refine st_shr rfl rfl (by decide) ?_
      first | refine nx rfl rfl ?_ | refine nx0 ?_
      rw [shr1]
      repeat' (first | ((refine Qa rfl ?_); (first | refine Q0 ?_ | refine Q1 ?_ | refine Q2 rfl ?_); (refine QX rfl rfl ?_)) | refine Qh ?_ | refine Ql ?_ | refine Qo rfl ?_ | refine Qs ?_)
      refine awp_cond_dec rfl (fun h5 => ?_) (fun h5 => ?_)
      · have h6 : (refK q.toNat k ci ^^^ (q.toNat >>> k)) &&& 1 = 1 := by omega
        have h7 : refK q.toNat (k + 1) ci = (refK q.toNat k ci >>> 1) ^^^ crcP := by simp only [refK]; rw [if_pos h6]
        repeat' (first | ((refine Qa rfl ?_); (first | refine Q0 ?_ | refine Q1 ?_ | refine Q2 rfl ?_); (refine QX rfl rfl ?_)) | refine Qh ?_ | refine Qo rfl ?_ | refine Qs ?_)
        rw [xorP hck1, ← h7, hkw]
        refine ⟨k + 1, by omega, by omega, imp_cutk 0 (Nat.zero_le _) hok_nil rfl (by simp) ?_⟩
        repeat' (first | exact fa_nil | refine fa_cons ⟨?_, ?_⟩ ?_)
        all_goals (try first | exact rfl | exact trivial | (simp [IdsLt]; done) | (simp [get_cons]; done) | (simp [get_cons, *]; done) | (refine congrArg (AV.int .i64) (wrap_eq ?_ ?_ ?_) <;> (first | omega | (simp; omega))))
      · have h6 : ¬ (refK q.toNat k ci ^^^ (q.toNat >>> k)) &&& 1 = 1 := by omega
        have h7 : refK q.toNat (k + 1) ci = refK q.toNat k ci >>> 1 := by simp only [refK]; rw [if_neg h6, Nat.xor_zero]
        repeat' (first | ((refine Qa rfl ?_); (first | refine Q0 ?_ | refine Q1 ?_ | refine Q2 rfl ?_); (refine QX rfl rfl ?_)) | refine Qh ?_ | refine Qm ?_ | refine Qo rfl ?_ | refine Qs ?_)
        rw [← h7, hkw]
        refine ⟨k + 1, by omega, by omega, imp_cutk 0 (Nat.zero_le _) hok_nil rfl (by simp) ?_⟩
        repeat' (first | exact fa_nil | refine fa_cons ⟨?_, ?_⟩ ?_)
        all_goals (try first | exact rfl | exact trivial | (simp [IdsLt]; done) | (simp [get_cons]; done) | (simp [get_cons, *]; done) | (refine congrArg (AV.int .i64) (wrap_eq ?_ ?_ ?_) <;> (first | omega | (simp; omega))))
    · have hk8 : k = 8 := by omega
      subst hk8
      rw [← hn]
      repeat' (first | ((refine Qa rfl ?_); (first | refine Q0 ?_ | refine Q1 ?_ | refine Q2 rfl ?_); (refine QX rfl rfl ?_)) | refine Qh ?_ | refine Qo rfl ?_ | refine Qr ?_ | refine Qs ?_)
      refine ⟨i + 1, by omega, by omega, imp_cutk 0 (Nat.zero_le _) hok_nil rfl (by simp) ?_⟩
      repeat' (first | exact fa_nil | refine fa_cons ⟨?_, ?_⟩ ?_)
      all_goals (try first | exact rfl | exact trivial | (simp [IdsLt]; done) | (simp [get_cons]; done) | (simp [get_cons, *]; done) | (refine congrArg (AV.int .i64) (wrap_eq ?_ ?_ ?_) <;> (first | omega | (simp; omega))))
  · have hi3 : i = l.length := by rw [List.length_map] at h3; omega
    subst hi3
    have h9 := hall l.length
    rw [List.take_length] at h9 ⊢
    repeat' (first | ((refine Qa rfl ?_); (first | refine Q0 ?_ | refine Q1 ?_ | refine QD rfl ?_); (refine QX rfl rfl ?_)) | refine Qh ?_ | refine Ql ?_ | refine Qo rfl ?_ | refine Qr ?_ | refine Qs ?_)
    refine awp_ret ?_
    refine ⟨_, rfl, ?_, ?_⟩
    · exact congrArg (AV.int .u32) (notM _ h9)
    · rfl
set_option maxHeartbeats 0 in
theorem rsum_c (X : Nat → Prop) (l : List UInt8) (hl : l.length ≤ 1073741824) :
    ACalls (E0 X) 114 [.sl 1 (l.map u8A)] [] (fun r H' => r = u32A (updN 0 l) ∧ H' = []) := by
  refine acalls_of Proofs.Tryd.func114 rfl Proofs.Tryd.ntmps114 (by kernel_rfl) rfl ?_
  intro hH hargs
  clear hH hargs
  repeat' (first | ((refine Qa rfl ?_); (first | refine Q0 ?_ | refine Q1 ?_); (refine QX rfl rfl ?_)) | refine Qa rfl ?_ | refine Qh ?_ | refine Ql ?_ | refine Qo rfl ?_)
  refine st_call (fun _ => rfl) rfl ?_
  refine ACalls.mono (rupd_c X 0 (by decide) l hl) ?_
  rintro r H' ⟨rfl, rfl⟩
  first | refine nx rfl rfl ?_ | refine nx0 ?_
  repeat' (first | ((refine Qa rfl ?_); (refine Q1 ?_); (refine QX rfl rfl ?_)) | refine Qh ?_ | refine Qs ?_)
  refine awp_ret ?_
  refine ⟨_, rfl, ?_, ?_⟩
  · rfl
  · rfl
end Go.Abs
namespace Go.Abs
attribute [local irreducible] AStep aops AWp Nx awM
set_option maxHeartbeats 0 in
theorem rput_own (X : Nat → Prop) (b : List UInt8) (n w : Nat) (hw : 1 ≤ w) (hw8 : w ≤ 8) (hb : b.length ≤ 1048576) :
    ACalls (E0 X) 63 [.sl 1 (b.map u8A), .int .u64 (n : Int), .int .i64 (w : Int)] [] (fun r H' => r = .own 0 0 (b.length + w) ∧ H' = [some (.arr ((putN b n w).map u8A) 5)]) := by
  refine acalls_of Proofs.Tryd.func63 rfl Proofs.Tryd.ntmps63 (by kernel_rfl) rfl ?_
  intro hH hargs
  clear hH hargs
  repeat' (first | ((refine Qa rfl ?_); (first | refine Q0 ?_ | refine Q1 ?_); (refine QX rfl rfl ?_)) | refine Qa rfl ?_ | refine Qh ?_ | refine Ql ?_ | refine Qo rfl ?_)
  refine st_app (oid := none) (es := []) (out := b.map u8A) (n := b.length) (rfl) (rfl) (oneEs_u8 _) (rfl) (by simp) (by show _ ≤ 9223372036854775807; omega) (by show _ * 1 ≤ _; omega) rfl rfl rfl rfl rfl rfl rfl rfl ?_
  first | refine nx rfl rfl ?_ | refine nx0 ?_
  repeat' (first | ((refine Qa rfl ?_); (first | refine Q0 ?_ | refine Q1 ?_ | refine Q2 rfl ?_ | refine Q5 rfl ?_); (refine QX rfl rfl ?_)) | refine Qh ?_ | refine Qi rfl ?_ | refine Ql ?_ | refine Qo rfl ?_ | refine Qp rfl ?_ | refine Qs ?_ | ((fail_if_success refine QV rfl ?_); refine Qy rfl rfl (fun _ => ?_) (fun _ => ?_)))
  · omega
  rename_i h1
  refine awp_cond_dec rfl (fun h2 => ?_) (fun h2 => ?_)
  · omega
  have e1 : IntKind.i64.wrap ((w : Int) - 1) = (w : Int) - 1 - ((0 : Nat) : Int) := by
    rw [wrap_in (by omega) (by omega)]; omega
  repeat' (first | ((refine Qa rfl ?_); (first | refine Q0 ?_ | refine Q1 ?_ | refine Q2 rfl ?_); (refine QX rfl rfl ?_)) | refine Qh ?_ | refine Ql ?_ | refine Qm ?_ | refine Qn ?_ | refine Qo rfl ?_)
  rw [e1]
  refine awp_loop2 (fun i : Nat => ⟨[(1, .int .u64 (n : Int)), (7, .own 0 0 (b.length + i)), (8, .int .i64 ((w : Int) - 1 - (i : Int)))], [some (.arr ((b ++ putB n w i).map u8A) 5)]⟩) (fun i => i ≤ w) (fun i => w - i) 0 (Nat.zero_le _) ?_ ?_
  · refine imp_cutk 1 (Nat.zero_le _) (hok_arr _) (by simp [putB]) (by simp) ?_
    repeat' (first | exact fa_nil | refine fa_cons ⟨?_, ?_⟩ ?_)
    all_goals (try first | exact rfl | exact trivial | (simp [IdsLt]; done) | (simp [get_cons]; done) | (simp [get_cons, *]; done) | (refine congrArg (AV.int .i64) (wrap_eq ?_ ?_ ?_) <;> (first | omega | (simp; omega))))
  rintro i hi
  repeat' (first | ((refine Qa rfl ?_); (first | refine Q0 ?_ | refine Q2 rfl ?_); (refine QX rfl rfl ?_)) | refine Qh ?_ | refine Ql ?_ | refine Qo rfl ?_ | refine Qs ?_)
  refine awp_cond_dec rfl (fun h3 => ?_) (fun h3 => ?_)
  · have hi3 : i < w := by omega
    have hsh : (w : Int) - 1 - (i : Int) = ((w - 1 - i : Nat) : Int) := by omega
    have e2 : IntKind.u64.wrap (IntKind.i64.wrap (8 * ((w - 1 - i : Nat) : Int))) = ((8 * (w - 1 - i) : Nat) : Int) := by
      have h4 : IntKind.i64.wrap (8 * ((w - 1 - i : Nat) : Int)) = ((8 * (w - 1 - i) : Nat) : Int) := wrap_eq (by omega) (by omega) (by omega)
      rw [h4, wrap64 (by omega)]
    rw [hsh]
    repeat' (first | ((refine Qa rfl ?_); (first | refine Q0 ?_ | refine Q2 rfl ?_ | refine QG rfl rfl rfl rfl ?_); (refine QX rfl rfl ?_)) | refine Qa rfl ?_ | refine Ql ?_ | refine Qm ?_ | refine Qn ?_ | refine Qo rfl ?_)
    rw [e2]
    refine st_shr rfl rfl (by omega) ?_
    first | refine nx rfl rfl ?_ | refine nx0 ?_
    repeat' (first | ((refine Qa rfl ?_); (first | refine QG rfl rfl rfl rfl ?_ | refine QR rfl rfl rfl rfl rfl rfl rfl rfl rfl rfl rfl rfl ?_); (refine QX rfl rfl ?_)) | refine Qa rfl ?_)
    rw [byte_conv n _ (by omega)]
    refine st_app (oid := some 0) (es := (b ++ putB n w i).map u8A) (out := (b ++ putB n w (i + 1)).map u8A) (n := b.length + (i + 1)) (dst_own rfl (by simp [putB_len])) (rfl) (oneEs_u8 [byteAt n (8 * (w - 1 - i))]) (by rw [putB_succ]; simp) (by simp [putB_len]; omega) (by show _ ≤ 9223372036854775807; omega) (by show _ * 1 ≤ _; omega) rfl rfl rfl rfl rfl rfl rfl rfl ?_
    first | refine nx rfl rfl ?_ | refine nx0 ?_
    repeat' (first | ((refine Qa rfl ?_); (first | refine Q0 ?_ | refine Q1 ?_ | refine Q2 rfl ?_); (refine QX rfl rfl ?_)) | refine Qh ?_ | refine Qo rfl ?_ | refine Qs ?_)
    refine ⟨i + 1, by omega, by omega, ?_⟩
    refine imp_tid 0 [1] (H' := [some (.arr ((b ++ putB n w (i + 1)).map u8A) 5)]) (os := [.arr ((b ++ putB n w (i + 1)).map u8A) 5]) (Nat.le_refl _) (Nat.zero_le _) (by simp) (by simp) (by simp [HOk]) rfl rfl ?_ ?_
    · refine fa_cons (ren_lt rfl trivial) (fa_cons (ren_own rfl) (fa_cons (ren_lt ?_ trivial) fa_nil))
      exact congrArg (AV.int .i64) (wrap_eq (by omega) (by omega) (by omega))
    · exact os_cons rfl (renO_old 0 (fun i h => absurd h (Nat.not_lt_zero i)) (idsL_map fun _ => u8A_ids)) os_nil
  have hi3 : i = w := by omega
  subst hi3
  repeat' (first | ((refine Qa rfl ?_); (first | refine Q0 ?_ | refine Q1 ?_); (refine QX rfl rfl ?_)) | refine Qh ?_ | refine Ql ?_ | refine Qo rfl ?_ | refine Qr ?_ | refine Qs ?_)
  refine awp_ret ?_
  refine ⟨_, rfl, ?_, ?_⟩
  · rfl
  · rfl
theorem rput_at (X : Nat → Prop) (H : Hp) (x : AV) (b : List UInt8) (n w : Nat) (hw : 1 ≤ w) (hw8 : w ≤ 8) (hb : b.length ≤ 1048576) (hx : srcA (E0 X) H 1 x = some (b.map u8A)) :
    ACalls (E0 X) 63 [x, .int .u64 (n : Int), .int .i64 (w : Int)] H (fun r H' => r = .own H.length 0 (b.length + w) ∧ H' = H ++ [some (.arr ((putN b n w).map u8A) 5)]) := by
  refine (acalls_make (E := E0 X) (P := fun v H' => v = .own 0 0 (b.length + w) ∧ H' = [some (.arr ((putN b n w).map u8A) 5)]) (fun X => rput_own X b n w hw hw8 hb) (fun r h' h => by
    obtain ⟨h1, h2⟩ := h; subst h1; subst h2; exact ⟨rfl, by simp [noFzH, noFzO, noFz_map (f := u8A) (fun _ => rfl)]⟩) (Bor.sl (u8_ids _) hx (Bor.same trivial (Bor.same trivial .nil)))).mono ?_
  rintro r H' ⟨r0, h', ⟨rfl, rfl⟩, rfl, rfl⟩
  refine ⟨by simp [rnA], ?_⟩
  show H ++ [some (AO.arr (rnL _ (List.map u8A _)) _)] = _
  rw [rnL_map (fun _ => rfl)]
theorem mul256 {n x : Nat} (h : n * 256 + x < 18446744073709551616) : IntKind.u64.wrap (IntKind.u64.wrap ((n : Int) * 256) + (x : Int)) = ((n * 256 + x : Nat) : Int) := by
  have h0 : (n : Int) * 256 = ((n * 256 : Nat) : Int) := by omega
  have h3 : n * 256 < 18446744073709551616 := Nat.lt_of_le_of_lt (Nat.le_add_right _ _) h
  rw [h0, wrap64 h3]
  have h2 : ((n * 256 : Nat) : Int) + (x : Int) = ((n * 256 + x : Nat) : Int) := by omega
  rw [h2, wrap64 h]
set_option maxHeartbeats 0 in
theorem rnum_c (X : Nat → Prop) (l : List UInt8) (hl : l.length ≤ 8) :
    ACalls (E0 X) 100 [.sl 1 (l.map u8A)] [] (fun r H' => r = .int .u64 (numN l : Int) ∧ H' = []) := by
  refine acalls_of Proofs.Tryd.func100 rfl Proofs.Tryd.ntmps100 (by kernel_rfl) rfl ?_
  intro hH hargs
  clear hH hargs
  repeat' (first | ((refine Qa rfl ?_); (refine Q1 ?_); (refine QX rfl rfl ?_)) | refine Qh ?_ | refine Ql ?_ | refine Qn ?_ | refine Qo rfl ?_)
  refine awp_loop2 (fun i : Nat => ⟨[(0, .sl 1 (l.map u8A)), (3, .int .u64 (numN (l.take i) : Int)), (4, .int .i64 (i : Int))], []⟩) (fun i => i ≤ l.length) (fun i => l.length - i) 0 (Nat.zero_le _) ?_ ?_
  · refine imp_cutk 0 (Nat.zero_le _) hok_nil rfl (by simp) ?_
    repeat' (first | exact fa_nil | refine fa_cons ⟨?_, ?_⟩ ?_)
    all_goals (try first | exact rfl | exact trivial | (simp [IdsLt]; done) | (simp [get_cons]; done) | (simp [get_cons, *]; done) | (refine congrArg (AV.int .i64) (wrap_eq ?_ ?_ ?_) <;> (first | omega | (simp; omega))))
  rintro i hi
  repeat' (first | ((refine Qa rfl ?_); (first | refine Q0 ?_ | refine Q2 rfl ?_ | refine Q7 rfl rfl rfl ?_); (refine QX rfl rfl ?_)) | refine Qh ?_ | refine Ql ?_ | refine Qo rfl ?_ | refine Qs ?_)
  refine awp_cond_dec rfl (fun h3 => ?_) (fun h3 => ?_)
  · have hi3 : i < l.length := by rw [List.length_map] at h3; omega
    obtain ⟨q, hq⟩ : ∃ q, l[i]? = some q := ⟨_, List.getElem?_eq_getElem hi3⟩
    have hn : numN (l.take (i + 1)) = numN (l.take i) * 256 + q.toNat := by
      rw [List.take_add_one, hq]; exact numN_snoc _ _
    have hlt := numN_lt (l.take i)
    have hli : (l.take i).length = i := by simp; omega
    rw [hli] at hlt
    have hp : 256 ^ i ≤ 256 ^ 7 := Nat.pow_le_pow_right (by decide) (by omega)
    have h7 : (256 : Nat) ^ 7 = 72057594037927936 := by decide
    have hq8 := q.toNat_lt
    repeat' (first | ((refine Qa rfl ?_); (first | refine Q0 ?_ | refine Q2 rfl ?_); (refine QX rfl rfl ?_)) | refine Qa rfl ?_ | refine Ql ?_ | refine Qm ?_ | refine Qn ?_ | refine Qo rfl ?_)
    refine st_ixm hq rfl rfl rfl rfl rfl rfl rfl (by first | rfl | omega) rfl ?_
    first | refine nx rfl rfl ?_ | refine nx0 ?_
    repeat' (first | ((refine Qa rfl ?_); (first | refine Q0 ?_ | refine Q1 ?_ | refine Q2 rfl ?_ | refine Q3 rfl rfl rfl ?_ | refine QG rfl rfl rfl rfl ?_); (refine QX rfl rfl ?_)) | refine Qh ?_ | refine Qo rfl ?_ | refine Qs ?_)
    rw [wrap64 (n := q.toNat) (by omega), mul256 (by omega), ← hn]
    refine ⟨i + 1, by omega, by omega, imp_cutk 0 (Nat.zero_le _) hok_nil rfl (by simp) ?_⟩
    repeat' (first | exact fa_nil | refine fa_cons ⟨?_, ?_⟩ ?_)
    all_goals (try first | exact rfl | exact trivial | (simp [IdsLt]; done) | (simp [get_cons]; done) | (simp [get_cons, *]; done) | (refine congrArg (AV.int .i64) (wrap_eq ?_ ?_ ?_) <;> (first | omega | (simp; omega))))
  · have hi3 : i = l.length := by rw [List.length_map] at h3; omega
    subst hi3
    rw [List.take_length]
    repeat' (first | ((refine Qa rfl ?_); (first | refine Q0 ?_ | refine Q1 ?_); (refine QX rfl rfl ?_)) | refine Qh ?_ | refine Ql ?_ | refine Qo rfl ?_ | refine Qr ?_ | refine Qs ?_)
    refine awp_ret ?_
    refine ⟨_, rfl, ?_, ?_⟩
    · rfl
    · rfl
theorem updN_app (a b : List UInt8) (c : Nat) : updN (updN c a) b = updN c (a ++ b) := by
  unfold updN
  rw [List.foldl_append]
  congr 2
  rw [Nat.xor_assoc, Nat.xor_self, Nat.xor_zero]
end Go.Abs
namespace Go.Abs
theorem eq_b (X : Nat → Prop) (H : Hp) (x y : AV) (a b : List UInt8) (ha : a.length ≤ 4611686018427387904) (hx : srcA (E0 X) H 1 x = some (a.map u8A)) (hy : srcA (E0 X) H 1 y = some (b.map u8A)) :
    ACalls (E0 X) 28 [x, y] H (fun r H' => r = .bool (decide (a = b)) ∧ H' = H) :=
  acalls_borrow (E := E0 X) (fun X => eqb_c X a b ha) rfl (Bor.sl (u8_ids _) hx (Bor.sl (u8_ids _) hy .nil))
def frI (kind : Nat) (p : List UInt8) (i : Nat) : List UInt8 := UInt8.ofNat (kind % 256) :: (p ++ List.replicate i 0)
theorem frI_len (kind : Nat) (p : List UInt8) (i : Nat) : (frI kind p i).length = 1 + p.length + i := by simp [frI]; omega
theorem frI_succ (kind : Nat) (p : List UInt8) (i : Nat) : frI kind p (i + 1) = frI kind p i ++ [0] := by simp [frI, List.replicate_succ']
attribute [local irreducible] AStep aops AWp Nx awM
set_option maxHeartbeats 0 in
set_option maxRecDepth 100000 in
theorem rfenc_x (X : Nat → Prop) (kind salt sector : Nat) (p : List UInt8) (hs : salt < 9223372036854775808) (hse : sector < 1048576) (hp : p.length ≤ 59) :
    ACalls (E0 X) 64 [.int .i64 (kind : Int), .int .i64 (salt : Int), .int .i64 (sector : Int), .sl 1 (p.map u8A)] [] (fun r H' => r = .own 4 0 64 ∧ 5 ≤ H'.length ∧ H'[4]? = some (some (.arr ((encF kind salt sector p).map u8A) 5))) := by
  refine acalls_of Proofs.Tryd.func64 rfl Proofs.Tryd.ntmps64 (by kernel_rfl) rfl ?_
  intro hH hargs
  clear hH hargs
  repeat' (first | ((refine Qa rfl ?_); (first | refine Q0 ?_ | refine Q1 ?_ | refine QG rfl rfl rfl rfl ?_); (refine QX rfl rfl ?_)) | refine Qa rfl ?_ | refine Qh ?_ | refine Ql ?_ | refine Qo rfl ?_)
  rw [byte_of]
  refine st_buildSlice_own rfl rfl rfl rfl rfl rfl rfl (.inr rfl) rfl (.inr rfl) ?_
  first | refine nx rfl rfl ?_ | refine nx0 ?_
  repeat' (first | ((refine Qa rfl ?_); (refine Q0 ?_); (refine QX rfl rfl ?_)) | refine Qa rfl ?_)
  refine st_app (oid := some 0) (es := [u8A (UInt8.ofNat (kind % 256))]) (out := (frI kind p 0).map u8A) (n := 1 + p.length) (dst_own rfl rfl) (rfl) (oneEs_u8 _) (by simp [frI]) (by simp) (by show _ ≤ 9223372036854775807; omega) (by show _ * 1 ≤ _; omega) rfl rfl rfl rfl rfl rfl rfl rfl ?_
  first | refine nx rfl rfl ?_ | refine nx0 ?_
  repeat' (first | ((refine Qa rfl ?_); (refine Q1 ?_); (refine QX rfl rfl ?_)) | refine Qh ?_ | refine Ql ?_ | refine Qn ?_)
  refine awp_loop2 (fun i : Nat => ⟨[(0, .int .i64 (kind : Int)), (1, .int .i64 (salt : Int)), (2, .int .i64 (sector : Int)), (9, .own 0 0 (1 + p.length + i))], [some (.arr ((frI kind p i).map u8A) 5)]⟩) (fun i => i ≤ 59 - p.length) (fun i => 59 - p.length - i) 0 (Nat.zero_le _) ?_ ?_
  · refine imp_tid 0 [1] (H' := [some (.arr ((frI kind p 0).map u8A) 5)]) (os := [.arr ((frI kind p 0).map u8A) 5]) (Nat.le_refl _) (Nat.zero_le _) (by simp) (by simp) (by simp [HOk]) rfl rfl ?_ ?_
    · exact fa_cons (ren_lt rfl trivial) (fa_cons (ren_lt rfl trivial) (fa_cons (ren_lt rfl trivial) (fa_cons (ren_own rfl) fa_nil)))
    · exact os_cons rfl (renO_old 0 (fun i h => absurd h (Nat.not_lt_zero i)) (idsL_map fun _ => u8A_ids)) os_nil
  rintro i hi
  repeat' (first | ((refine Qa rfl ?_); (first | refine Q0 ?_ | refine Q2 rfl ?_ | refine Q7 rfl rfl rfl ?_); (refine QX rfl rfl ?_)) | refine Qh ?_ | refine Ql ?_ | refine Qo rfl ?_ | refine Qs ?_)
  refine awp_cond_dec rfl (fun h3 => ?_) (fun h3 => ?_)
  · have hi3 : i < 59 - p.length := by omega
    repeat' (first | ((refine Qa rfl ?_); (first | refine Q0 ?_ | refine QR rfl rfl rfl rfl rfl rfl rfl rfl rfl rfl rfl rfl ?_); (refine QX rfl rfl ?_)) | refine Qa rfl ?_ | refine Qm ?_ | refine Qn ?_ | refine Qo rfl ?_)
    refine st_app (oid := some 0) (es := (frI kind p i).map u8A) (out := (frI kind p (i + 1)).map u8A) (n := 1 + p.length + (i + 1)) (dst_own rfl (by rw [List.length_map, frI_len])) (rfl) (oneEs_u8 [0]) (by rw [frI_succ, List.map_append]; rfl) (by rw [List.length_map, frI_len]; rfl) (by show _ ≤ 9223372036854775807; omega) (by show _ * 1 ≤ _; omega) rfl rfl rfl rfl rfl rfl rfl rfl ?_
    first | refine nx rfl rfl ?_ | refine nx0 ?_
    repeat' (first | ((refine Qa rfl ?_); (refine Q1 ?_); (refine QX rfl rfl ?_)) | refine Qh ?_ | refine Qs ?_ | refine Qu ?_)
    refine ⟨i + 1, by omega, by omega, ?_⟩
    refine imp_tid 0 [1] (H' := [some (.arr ((frI kind p (i + 1)).map u8A) 5)]) (os := [.arr ((frI kind p (i + 1)).map u8A) 5]) (Nat.le_refl _) (Nat.zero_le _) (by simp) (by simp) (by simp [HOk]) rfl rfl ?_ ?_
    · exact fa_cons (ren_lt rfl trivial) (fa_cons (ren_lt rfl trivial) (fa_cons (ren_lt rfl trivial) (fa_cons (ren_own rfl) fa_nil)))
    · exact os_cons rfl (renO_old 0 (fun i h => absurd h (Nat.not_lt_zero i)) (idsL_map fun _ => u8A_ids)) os_nil
  have hi3 : i = 59 - p.length := by omega
  subst hi3
  have hfb : frI kind p (59 - p.length) = frB kind p := rfl
  have hbl := frB_len (kind := kind) hp
  have hll : 1 + p.length + (59 - p.length) = 60 := by omega
  rw [hfb, hll]
  have henc : encF kind salt sector p = putN (frB kind p) (updN 0 (putN (putN [] salt 8) sector 4 ++ frB kind p)) 4 := by
    rw [← updN_app]; rfl
  rw [henc]
  generalize frB kind p = fb at *
  have hl8 : (putN [] salt 8).length = 8 := by rw [putN_len]; rfl
  have hl12 : (putN (putN [] salt 8) sector 4).length = 12 := by rw [putN_len, hl8]
  repeat' (first | ((refine Qa rfl ?_); (first | refine Q0 ?_ | refine QG rfl rfl rfl rfl ?_); (refine QX rfl rfl ?_)) | refine Qa rfl ?_ | refine Ql ?_ | refine Qo rfl ?_ | refine Qr ?_)
  rw [wrap64 (by omega)]
  refine st_call (fun _ => rfl) rfl ?_
  refine ACalls.mono (rput_at X _ _ [] salt 8 (by decide) (by decide) (by simp) rfl) ?_
  rintro r H' ⟨rfl, rfl⟩
  first | refine nx rfl rfl ?_ | refine nx0 ?_
  repeat' (first | ((refine Qa rfl ?_); (first | refine Q0 ?_ | refine QG rfl rfl rfl rfl ?_); (refine QX rfl rfl ?_)) | refine Qa rfl ?_)
  rw [wrap64 (by omega)]
  refine st_call (fun _ => rfl) rfl ?_
  refine ACalls.mono (rput_at X _ _ (putN [] salt 8) sector 4 (by decide) (by decide) (by omega) (src_ownm' rfl rfl rfl (by rw [hl8]; decide) (by rw [List.drop_zero, List.take_of_length_le (by rw [hl8]; decide)]))) ?_
  rintro r H' ⟨rfl, rfl⟩
  first | refine nx rfl rfl ?_ | refine nx0 ?_
  rw [hl8]
  repeat' (first | ((refine Qa rfl ?_); (first | refine Q0 ?_ | refine Q1 ?_); (refine QX rfl rfl ?_)) | refine Qa rfl ?_ | refine Qh ?_ | refine Ql ?_ | refine Qo rfl ?_)
  generalize putN (putN [] salt 8) sector 4 = pl at *
  refine st_app (oid := some 2) (es := pl.map u8A) (out := (pl ++ fb).map u8A) (n := 72) (dst_own rfl (by rw [List.length_map, hl12])) ((src_ownm' rfl rfl rfl (by omega) (by rw [List.drop_zero, List.take_of_length_le (by omega)]))) (oneEs_u8 _) (by rw [List.map_append]) (by rw [List.length_map, List.length_map]; omega) (by show _ ≤ 9223372036854775807; omega) (by show _ * 1 ≤ _; omega) rfl rfl rfl rfl rfl rfl rfl rfl ?_
  first | refine nx rfl rfl ?_ | refine nx0 ?_
  repeat' (refine Qa rfl ?_)
  have hsl : (pl ++ fb).length = 72 := by rw [List.length_append]; omega
  refine st_call (fun _ => rfl) rfl ?_
  refine ACalls.mono (acalls_borrow (E := E0 X) (fun X => rsum_c X (pl ++ fb) (by omega)) rfl (Bor.sl (u8_ids _) (src_ownm' rfl rfl rfl (by omega) (by rw [List.drop_zero, List.take_of_length_le (by omega)])) .nil)) ?_
  rintro r H' ⟨rfl, rfl⟩
  first | refine nx rfl rfl ?_ | refine nx0 ?_
  have hlt : updN 0 (pl ++ fb) < 4294967296 := updN_lt (by decide) _
  repeat' (first | ((refine Qa rfl ?_); (refine QG rfl rfl rfl rfl ?_); (refine QX rfl rfl ?_)) | refine Qa rfl ?_)
  rw [wrap64 (by omega)]
  refine st_call (fun _ => rfl) rfl ?_
  refine ACalls.mono (rput_at X _ _ fb (updN 0 (pl ++ fb)) 4 (by decide) (by decide) (by omega) (src_ownm' rfl rfl rfl (by omega) (by rw [List.drop_zero, List.take_of_length_le (by omega)]))) ?_
  rintro r H' ⟨rfl, rfl⟩
  first | refine nx rfl rfl ?_ | refine nx0 ?_
  repeat' (first | ((refine Qa rfl ?_); (refine Q1 ?_); (refine QX rfl rfl ?_)) | refine Qh ?_ | refine Qs ?_)
  refine awp_ret ?_
  refine ⟨_, rfl, ?_, ?_, rfl⟩
  · show AV.own 4 0 (fb.length + 4) = _
    rw [hbl]
  · show 5 ≤ 5
    decide
theorem rfenc_c (X : Nat → Prop) (kind salt sector : Nat) (p : List UInt8) (hs : salt < 9223372036854775808) (hse : sector < 1048576) (hp : p.length ≤ 59) :
    ACalls (E0 X) 64 [.int .i64 (kind : Int), .int .i64 (salt : Int), .int .i64 (sector : Int), .sl 1 (p.map u8A)] [] (fun r H' => r = .sl 1 ((encF kind salt sector p).map u8A) ∧ H' = []) :=
  ACalls.frz0 (e := 5) 1 ((rfenc_x X kind salt sector p hs hse hp).mono fun r H' ⟨h1, _, h2⟩ => ⟨4, 64, h1, by rw [List.length_map, encF_len hp], h2⟩) rfl rfl (idsL_map fun _ => u8A_ids)
theorem rfenc_own (X : Nat → Prop) (kind salt sector : Nat) (p : List UInt8) (hs : salt < 9223372036854775808) (hse : sector < 1048576) (hp : p.length ≤ 59) :
    ACalls (E0 X) 64 [.int .i64 (kind : Int), .int .i64 (salt : Int), .int .i64 (sector : Int), .sl 1 (p.map u8A)] [] (fun r H' => r = .own 0 0 64 ∧ H' = [some (.arr ((encF kind salt sector p).map u8A) 5)]) :=
  (rfenc_x X kind salt sector p hs hse hp).imp fun r H' ⟨h1, h3, h2⟩ => by
    subst h1
    refine ⟨_, _, ⟨rfl, rfl⟩, ?_⟩
    refine imp_tid 0 [4] (H' := [some (.arr ((encF kind salt sector p).map u8A) 5)]) (os := [.arr ((encF kind salt sector p).map u8A) 5]) (Nat.le_refl _) (Nat.zero_le _) (by simp) (by simp) (by simp [HOk]) rfl (by simp) ?_ ?_
    · exact fa_cons (ren_own rfl) fa_nil
    · exact os_cons h2 (renO_old 0 (fun i h => absurd h (Nat.not_lt_zero i)) (idsL_map fun _ => u8A_ids)) os_nil
theorem rfenc_at (X : Nat → Prop) (H : Hp) (x : AV) (kind salt sector : Nat) (p : List UInt8) (hs : salt < 9223372036854775808) (hse : sector < 1048576) (hp : p.length ≤ 59) (hx : srcA (E0 X) H 1 x = some (p.map u8A)) :
    ACalls (E0 X) 64 [.int .i64 (kind : Int), .int .i64 (salt : Int), .int .i64 (sector : Int), x] H (fun r H' => r = .own H.length 0 64 ∧ H' = H ++ [some (.arr ((encF kind salt sector p).map u8A) 5)]) := by
  refine (acalls_make (E := E0 X) (P := fun v H' => v = .own 0 0 64 ∧ H' = [some (.arr ((encF kind salt sector p).map u8A) 5)]) (fun X => rfenc_own X kind salt sector p hs hse hp) (fun r h' h => by
    obtain ⟨h1, h2⟩ := h; subst h1; subst h2; exact ⟨rfl, by simp [noFzH, noFzO, noFz_map (f := u8A) (fun _ => rfl)]⟩) (Bor.same trivial (Bor.same trivial (Bor.same trivial (Bor.sl (u8_ids _) hx .nil))))).mono ?_
  rintro r H' ⟨r0, h', ⟨rfl, rfl⟩, rfl, rfl⟩
  refine ⟨by simp [rnA], ?_⟩
  show H ++ [some (AO.arr (rnL _ (List.map u8A _)) _)] = _
  rw [rnL_map (fun _ => rfl)]
end Go.Abs
namespace Go.Abs
attribute [local irreducible] AStep aops AWp Nx awM
set_option maxHeartbeats 0 in
theorem may_c (X : Nat → Prop) (kind salt sector : Int) : ACalls (E0 X) 136 [.int .i64 kind, .int .i64 salt, .int .i64 sector] [] (fun r H' => r = .bool (mayB kind salt sector) ∧ H' = []) := by
  refine acalls_of Proofs.Tryd.func136 rfl Proofs.Tryd.ntmps136 (by kernel_rfl) rfl ?_
  intro hH hargs
  clear hH hargs
  repeat' (first | ((refine Qa rfl ?_); (first | refine Q0 ?_ | refine Q1 ?_ | refine Q2 rfl ?_ | refine Q5 rfl ?_); (refine QX rfl rfl ?_)) | refine Qh ?_ | refine Qi rfl ?_ | refine Ql ?_ | refine Qo rfl ?_ | refine Qs ?_ | ((fail_if_success refine QV rfl ?_); refine Qy rfl rfl (fun _ => ?_) (fun _ => ?_)))
  all_goals (refine awp_ret ?_; refine ⟨_, rfl, ?_, rfl⟩; simp [mayB, get_cons, one, *])
set_option maxHeartbeats 0 in
set_option maxRecDepth 100000 in
theorem rfdec_c (X : Nat → Prop) (kind salt sector : Nat) (b : List UInt8) (hm : 1 ≤ kind ∧ kind ≤ 4 ∧ sector < 1048576) (hs : salt < 9223372036854775808) (_hb : b.length ≤ 1048576) :
    ACalls (E0 X) 99 [.int .i64 (kind : Int), .int .i64 (salt : Int), .int .i64 (sector : Int), .sl 1 (b.map u8A)] [] (fun r H' => r = optA (decF kind salt sector b) ∧ H' = []) := by
  have hmay : mayB (kind : Int) (salt : Int) (sector : Int) = true := by simp [mayB]; omega
  have hpos := may_c X kind salt sector
  rw [hmay] at hpos
  refine acalls_of Proofs.Tryd.func99 rfl Proofs.Tryd.ntmps99 (by kernel_rfl) rfl ?_
  intro hH hargs
  clear hH hargs
  repeat' (first | ((refine Qa rfl ?_); (first | refine Q0 ?_ | refine Q1 ?_); (refine QX rfl rfl ?_)) | refine Qa rfl ?_ | refine Qh ?_ | refine Ql ?_ | refine Qo rfl ?_)
  refine st_call (fun _ => rfl) rfl ?_
  refine ACalls.mono (hpos) ?_
  rintro r H' ⟨rfl, rfl⟩
  first | refine nx rfl rfl ?_ | refine nx0 ?_
  repeat' (first | ((refine Qa rfl ?_); (first | refine Q0 ?_ | refine Q1 ?_ | refine Q2 rfl ?_ | refine Q5 rfl ?_ | refine Q7 rfl rfl rfl ?_ | refine QD rfl ?_); (refine QX rfl rfl ?_)) | refine Qa rfl ?_ | refine Qh ?_ | refine Qi rfl ?_ | refine Ql ?_ | refine Qo rfl ?_ | refine Qp rfl ?_ | refine Qs ?_ | ((fail_if_success refine QV rfl ?_); refine Qy rfl rfl (fun _ => ?_) (fun _ => ?_)))
  · rename_i h1
    have h2 : ¬ b.length = 64 := by rw [List.length_map] at h1; omega
    refine awp_ret ?_
    refine ⟨_, rfl, ?_, ?_⟩
    · simp only [decF]; rw [if_neg (fun h => h2 h.1)]; rfl
    · rfl
  rename_i h1
  have h2 : b.length = 64 := by rw [List.length_map] at h1; omega
  refine st_sls (l := 1) (h := 60) (ys := (b.drop 1).take 59) (bnd_some rfl rfl) (bnd_some rfl rfl) (by omega) (by omega) (by rw [List.drop_take]) rfl rfl rfl rfl rfl ?_
  first | refine nx rfl rfl ?_ | refine nx0 ?_
  have hpl : ((b.drop 1).take 59).length = 59 := by simp; omega
  have hd : decF kind salt sector b = if encF kind salt sector ((b.drop 1).take 59) = b then some ((b.drop 1).take 59) else none := by simp only [decF, h2, true_and]
  have hsl : ∀ {P : Prop}, True := fun {P} => trivial
  rw [hd]
  repeat' (refine Qa rfl ?_)
  refine st_call (fun _ => rfl) rfl ?_
  refine ACalls.mono (rfenc_c X kind salt sector ((b.drop 1).take 59) hs hm.2.2 (by omega)) ?_
  rintro r H' ⟨rfl, rfl⟩
  first | refine nx rfl rfl ?_ | refine nx0 ?_
  repeat' (refine Qa rfl ?_)
  refine st_call (fun _ => rfl) rfl ?_
  refine ACalls.mono (eq_b X _ _ _ b (encF kind salt sector ((b.drop 1).take 59)) (by omega) rfl rfl) ?_
  rintro r H' ⟨rfl, rfl⟩
  first | refine nx rfl rfl ?_ | refine nx0 ?_
  repeat' (first | ((refine Qa rfl ?_); (first | refine Q5 rfl ?_ | refine QD rfl ?_); (refine QX rfl rfl ?_)) | refine Qh ?_ | refine Qs ?_)
  refine awp_cond rfl (fun h9 => ?_) (fun h9 => ?_)
  · have h8 : ¬ b = encF kind salt sector ((b.drop 1).take 59) := by simpa using h9
    repeat' (first | ((refine Qa rfl ?_); (refine Q1 ?_); (refine QX rfl rfl ?_)) | refine Qh ?_ | refine Ql ?_ | refine Qo rfl ?_ | refine Qs ?_)
    refine awp_ret ?_
    refine ⟨_, rfl, ?_, ?_⟩
    · rw [if_neg (fun h => h8 h.symm)]; rfl
    · rfl
  · have h8 : b = encF kind salt sector ((b.drop 1).take 59) := by simpa using h9
    rw [if_pos h8.symm]
    repeat' (first | ((refine Qa rfl ?_); (refine Q0 ?_); (refine QX rfl rfl ?_)) | refine Qa rfl ?_ | refine Ql ?_ | refine Qm ?_ | refine Qo rfl ?_)
    refine st_sls (l := 1) (h := 60) (ys := (b.drop 1).take 59) (bnd_some rfl rfl) (bnd_some rfl rfl) (by omega) (by omega) (by rw [List.drop_take]) rfl rfl rfl rfl rfl ?_
    first | refine nx rfl rfl ?_ | refine nx0 ?_
    generalize (b.drop 1).take 59 = p at *
    repeat' (refine Qa rfl ?_)
    refine st_app (oid := none) (es := []) (out := p.map u8A) (n := 59) (rfl) (rfl) (oneEs_u8 _) (rfl) (by rw [List.length_map, hpl]; rfl) (by show _ ≤ 9223372036854775807; omega) (by show _ * 1 ≤ _; omega) rfl rfl rfl rfl rfl rfl rfl rfl ?_
    first | refine nx rfl rfl ?_ | refine nx0 ?_
    repeat' (first | ((refine Qa rfl ?_); (refine Q1 ?_); (refine QX rfl rfl ?_)) | refine Qh ?_)
    refine then_i ?_
    refine awp_pre (imp_freeze (id := 0) (k := 1) (es := p.map u8A) (e := 5) rfl rfl rfl) ?_
    refine awp_pre (imp_cutk 0 (Nat.zero_le _) hok_nil rfl (Nat.zero_le _) (sl' := [(8, .sl 1 (p.map u8A)), (9, .bool true)]) ?_) ?_
    · refine fa_cons ⟨?_, idsL_map fun _ => u8A_ids⟩ (fa_cons ⟨rfl, trivial⟩ fa_nil)
      show frz 0 _ _ (.own 0 0 59) = _
      exact frz_own (by rw [List.length_map, hpl])
    refine awp_ret ?_
    refine ⟨_, rfl, ?_, ?_⟩
    · rfl
    · rfl
end Go.Abs
namespace Go.Abs
def logF (n : Int) : Nat → Nat → Int
  | _, 0 => -1
  | k, m + 1 => if n = ((2 ^ k : Nat) : Int) then (k : Int) else logF n (k + 1) m
def logI (n : Int) : Int := logF n 0 12
theorem log_small (rs : Int) : decide (1 ≤ logI rs) = (decide (2 ≤ rs) && (decide (rs ≤ 2048) && decide (ibits .and .i64 rs (IntKind.i64.wrap (rs - 1)) = 0))) := by
  by_cases h : 0 ≤ rs ∧ rs ≤ 2048
  · have h1 : ((List.range 2049).all fun n => decide (1 ≤ logI (n : Int)) == (decide (2 ≤ (n : Int)) && (decide ((n : Int) ≤ 2048) && decide (ibits .and .i64 (n : Int) (IntKind.i64.wrap ((n : Int) - 1)) = 0)))) = true := by kernel_rfl
    obtain ⟨n, rfl⟩ := Int.eq_ofNat_of_zero_le h.1
    have h3 := List.all_eq_true.1 h1 n (by simp; omega)
    exact eq_of_beq h3
  · have h2 : logI rs = -1 := by
      simp only [logI, logF]
      repeat (rw [if_neg (by omega)])
    rw [h2]
    by_cases h3 : 2 ≤ rs
    · have : decide (rs ≤ 2048) = false := decide_eq_false (by omega)
      rw [this]; simp
    · have : decide (2 ≤ rs) = false := decide_eq_false h3
      rw [this]; simp
attribute [local irreducible] AStep aops AWp Nx awM
set_option maxHeartbeats 0 in
theorem log_c (X : Nat → Prop) (n : Int) : ACalls (E0 X) 113 [.int .i64 n] [] (fun r H' => r = .int .i64 (logI n) ∧ H' = []) := by
  refine acalls_of Proofs.Tryd.func113 rfl Proofs.Tryd.ntmps113 (by kernel_rfl) rfl ?_
  intro hH hargs
  clear hH hargs
  repeat' (first | ((refine Qa rfl ?_); (refine Q1 ?_); (refine QX rfl rfl ?_)) | refine Qh ?_ | refine Ql ?_ | refine Qn ?_ | refine Qo rfl ?_)
  refine awp_loop2 (fun k : Nat => ⟨[(0, .int .i64 n), (3, .int .i64 (k : Int))], []⟩) (fun k => k ≤ 12 ∧ logF n k (12 - k) = logI n) (fun k => 12 - k) 0 ⟨Nat.zero_le _, rfl⟩ ?_ ?_
  · refine imp_cutk 0 (Nat.zero_le _) hok_nil rfl (by simp) ?_
    repeat' (first | exact fa_nil | refine fa_cons ⟨?_, ?_⟩ ?_)
    all_goals (try first | exact rfl | exact trivial | (simp [IdsLt, IdsLtL]; done) | (simp [get_cons]; done) | (simp [get_cons, *]; done) | (refine congrArg (AV.int .i64) (wrap_eq ?_ ?_ ?_) <;> (first | omega | (simp; omega))))
  rintro k ⟨hk, hr⟩
  repeat' (first | ((refine Qa rfl ?_); (first | refine Q0 ?_ | refine Q2 rfl ?_); (refine QX rfl rfl ?_)) | refine Qh ?_ | refine Ql ?_ | refine Qo rfl ?_ | refine Qs ?_)
  refine awp_cond_dec rfl (fun h3 => ?_) (fun h3 => ?_)
  · have hk3 : k < 12 := by omega
    have hr2 : (if n = ((2 ^ k : Nat) : Int) then (k : Int) else logF n (k + 1) (12 - (k + 1))) = logI n := by
      rw [← hr]
      have : 12 - k = (12 - (k + 1)) + 1 := by omega
      rw [this]; rfl
    have e2 : IntKind.i64.wrap (1 * 2 ^ (min ((k : Int)).toNat IntKind.i64.bits)) = ((2 ^ k : Nat) : Int) := by
      have h7 : min ((k : Int)).toNat IntKind.i64.bits = k := by
        have : ((k : Int)).toNat = k := by omega
        rw [this]
        have h1 : IntKind.i64.bits = 64 := rfl
        omega
      rw [h7, Int.one_mul]
      have h6 : (2 : Nat) ^ k ≤ 2 ^ 12 := Nat.pow_le_pow_right (by decide) (by omega)
      have h5 : (2 : Nat) ^ 12 = 4096 := by decide
      have h3 : (2 : Int) ^ k = ((2 ^ k : Nat) : Int) := by simp
      rw [h3]
      generalize 2 ^ k = z at *
      exact wrap_in (by omega) (by omega)
    repeat' (first | ((refine Qa rfl ?_); (first | refine Q0 ?_ | refine QG rfl rfl rfl rfl ?_); (refine QX rfl rfl ?_)) | refine Qa rfl ?_ | refine Ql ?_ | refine Qm ?_ | refine Qn ?_ | refine Qo rfl ?_)
    rw [wrap64 (by omega)]
    refine st_shl rfl rfl (by omega) ?_
    first | refine nx rfl rfl ?_ | refine nx0 ?_
    rw [e2]
    repeat' (first | ((refine Qa rfl ?_); (refine Q2 rfl ?_); (refine QX rfl rfl ?_)) | refine Qh ?_ | refine Qs ?_)
    refine awp_cond_dec rfl (fun h4 => ?_) (fun h4 => ?_)
    · rw [if_pos h4] at hr2
      repeat' (first | ((refine Qa rfl ?_); (first | refine Q0 ?_ | refine Q1 ?_); (refine QX rfl rfl ?_)) | refine Qh ?_ | refine Ql ?_ | refine Qo rfl ?_ | refine Qs ?_)
      refine awp_ret ?_
      refine ⟨_, rfl, ?_, ?_⟩
      · rw [← hr2]; rfl
      · rfl
    · rw [if_neg h4] at hr2
      repeat' (first | ((refine Qa rfl ?_); (first | refine Q0 ?_ | refine Q1 ?_ | refine Q2 rfl ?_); (refine QX rfl rfl ?_)) | refine Qh ?_ | refine Qm ?_ | refine Qo rfl ?_ | refine Qs ?_)
      refine ⟨k + 1, ⟨by omega, hr2⟩, by omega, imp_cutk 0 (Nat.zero_le _) hok_nil rfl (by simp) ?_⟩
      repeat' (first | exact fa_nil | refine fa_cons ⟨?_, ?_⟩ ?_)
      all_goals (try first | exact rfl | exact trivial | (simp; done) | (simp [get_cons]; done) | (simp [get_cons, *]; done) | (refine congrArg (AV.int .i64) (wrap_eq ?_ ?_ ?_) <;> (first | omega | (simp; omega))))
  · have hk3 : k = 12 := by omega
    subst hk3
    repeat' (first | ((refine Qa rfl ?_); (refine Q1 ?_); (refine QX rfl rfl ?_)) | refine Qh ?_ | refine Ql ?_ | refine Qo rfl ?_ | refine Qr ?_ | refine Qs ?_)
    refine awp_ret ?_
    refine ⟨_, rfl, ?_, ?_⟩
    · rw [← hr]; rfl
    · rfl
theorem form_log (l : La) : formB l = (decide (1 ≤ l.id) && (decide (l.id ≤ 4294967295) && ((decide (l.ver = 1) || decide (l.ver = 2)) && (decide (1 ≤ logI l.rs) && (decide (4 ≤ l.regs) && decide (l.regs ≤ 16)))))) := by
  unfold formB
  rw [log_small]
  simp only [Bool.and_assoc]
set_option maxHeartbeats 0 in
set_option maxRecDepth 100000 in
theorem rform_c (X : Nat → Prop) (l : La) : ACalls (E0 X) 62 [laA l] [] (fun r H' => r = .bool (formB l) ∧ H' = []) := by
  refine ACalls.cut0 ?_ trivial
  rw [form_log]
  refine acalls_of Proofs.Tryd.func62 rfl Proofs.Tryd.ntmps62 (by kernel_rfl) rfl ?_
  intro hH hargs
  clear hH hargs
  repeat' (first | ((refine Qa rfl ?_); (first | refine Q0 ?_ | refine Q1 ?_ | refine Q2 rfl ?_ | refine Q3 rfl rfl rfl ?_ | refine Q4 rfl rfl rfl rfl rfl ?_ | refine Q5 rfl ?_ | refine QK rfl ?_); (refine QX rfl rfl ?_)) | refine Qa rfl ?_ | refine Qh ?_ | refine Qi rfl ?_ | refine Ql ?_ | refine Qo rfl ?_ | refine Qs ?_ | ((fail_if_success refine QV rfl ?_); refine Qy rfl rfl (fun _ => ?_) (fun _ => ?_)))
  all_goals (first | (refine awp_ret ?_; refine ⟨_, rfl, ?_⟩; simp [get_cons, one, *]; done) | skip)
  · skip
    refine st_call (fun _ => rfl) rfl ?_
    refine ACalls.mono (acalls_pure (E := E0 X) (fun X => log_c X l.rs) (by simp [IdsLtL, IdsLt]) _) ?_
    rintro r H' ⟨rfl, rfl⟩
    first | refine nx rfl rfl ?_ | refine nx0 ?_
    repeat' (first | ((refine Qa rfl ?_); (first | refine Q0 ?_ | refine Q1 ?_ | refine Q2 rfl ?_ | refine Q3 rfl rfl rfl ?_ | refine Q4 rfl rfl rfl rfl rfl ?_ | refine Q5 rfl ?_); (refine QX rfl rfl ?_)) | refine Qh ?_ | refine Qi rfl ?_ | refine Qs ?_ | ((fail_if_success refine QV rfl ?_); refine Qy rfl rfl (fun _ => ?_) (fun _ => ?_)))
    all_goals (refine awp_ret ?_; refine ⟨_, rfl, ?_⟩; simp [get_cons, one, *])
  · skip
    refine st_call (fun _ => rfl) rfl ?_
    refine ACalls.mono (acalls_pure (E := E0 X) (fun X => log_c X l.rs) (by simp [IdsLtL, IdsLt]) _) ?_
    rintro r H' ⟨rfl, rfl⟩
    first | refine nx rfl rfl ?_ | refine nx0 ?_
    repeat' (first | ((refine Qa rfl ?_); (first | refine Q0 ?_ | refine Q1 ?_ | refine Q2 rfl ?_ | refine Q3 rfl rfl rfl ?_ | refine Q4 rfl rfl rfl rfl rfl ?_ | refine Q5 rfl ?_); (refine QX rfl rfl ?_)) | refine Qh ?_ | refine Qi rfl ?_ | refine Qs ?_ | ((fail_if_success refine QV rfl ?_); refine Qy rfl rfl (fun _ => ?_) (fun _ => ?_)))
    all_goals (refine awp_ret ?_; refine ⟨_, rfl, ?_⟩; simp [get_cons, one, *])
end Go.Abs
namespace Go.Abs
attribute [local irreducible] AStep aops AWp Nx awM
end Go.Abs
namespace Go.Abs
def rdL (x0 x1 x2 x3 x4 x5 x6 : UInt8) : La :=
  ⟨(numN [x0, x1, x2, x3] : Nat), (x4.toNat : Int), if numN [x0, x1, x2, x3] = 0 ∧ x4.toNat = 0 ∧ x6.toNat = 0 ∧ x5.toNat = 0 then 0 else ((2 ^ min x5.toNat 12 : Nat) : Int), (x6.toNat : Int)⟩
attribute [local irreducible] AStep aops AWp Nx awM
end Go.Abs
namespace Go.Abs
def rdV : List UInt8 → La
  | [x0, x1, x2, x3, x4, x5, x6] => rdL x0 x1 x2 x3 x4 x5 x6
  | _ => ⟨0, 0, 0, 0⟩
def rparP (bs : List UInt8) : Pl := ⟨((bs[0]?.getD 0).toNat : Nat), (numN ((bs.drop 1).take 4) : Nat), ((bs[5]?.getD 0).toNat : Nat), (numN ((bs.drop 6).take 6) : Nat), rdV ((bs.drop 12).take 7)⟩
theorem b_back {n : Nat} (h : n ≤ 255) : (UInt8.ofNat (n % 256)).toNat = n := by
  rw [UInt8.toNat_ofNat']; omega
attribute [local irreducible] AStep aops AWp Nx awM
end Go.Abs

