/- ChanceLimit: the walk. -/
import Derived.Test.YtfldnfchjaaoeaaC5
namespace Go.Abs

theorem st_ixp {X : Nat → Prop} {H : Hp} {K : AV → Hp → Prop} {ρ : Operand → AV} {d : Option Nat} {ty : TypeId} {pos : String} {after : Array Edge} {g : Option (Nat × Bool)} {x i : Operand} {l : List Pr} {k : Nat} {p : Pr}
    (hx : ρ x = .sl 6 (l.map pav)) (hi : ρ i = .int .i64 (k : Int)) (hp : l[k]? = some p) (h : K (.fp (cellsA (pav p))) H) :
    AStep (E0 X) ⟨d, .indexAddr 22 x i, ty, pos, after, g⟩ ρ H K :=
  st_index_sl (k := 6) (es := l.map pav) (e := 30) (kk := .i64) (n := k) (j := k) (y := pav p) rfl rfl rfl hx hi rfl rfl (pav_get hp) rfl rfl h

structure LimI (l : List Pr) where
  k : Nat
  hk : k ≤ l.length
  h : ∀ (j : Nat) (p : Pr), j < k → l[j]? = some p → 0 ≤ p.len ∧ p.len ≤ 1048576
def limS (l : List Pr) (most : Int) (i : LimI l) : St :=
  ⟨[(0, .sl 6 (l.map pav)), (1, .int .i64 most), (16, .int .i64 l.length), (17, .int .i64 i.k)], []⟩
structure LimJ (l : List Pr) (most : Int) where
  i : Nat
  sum : Int
  k : Nat
  hi : i ≤ l.length
  h0 : 0 ≤ sum
  hs : sum ≤ most
  hk : k ≤ (pick l most).length
  h : (pick l most).drop k = pick (l.drop i) (most - sum)
def limT (l : List Pr) (most : Int) (j : LimJ l most) : St :=
  ⟨[(0, .sl 6 (l.map pav)), (1, .int .i64 most), (6, .sl 6 ((pick l most).map pav)), (7, .int .i64 j.sum), (8, .int .i64 j.k), (49, .int .i64 l.length), (50, .int .i64 j.i)], []⟩
theorem pick_yes {l : List Pr} {i : Nat} {q : Pr} {m : Int} (hq : l[i]? = some q) (h : q.hit = true ∧ 0 ≤ q.len ∧ q.len ≤ m) : pick (l.drop i) m = q :: pick (l.drop (i + 1)) (m - q.len) := by
  rw [drop_cons hq]; simp only [pick, if_pos h]
theorem pick_no {l : List Pr} {i : Nat} {q : Pr} {m : Int} (hq : l[i]? = some q) (h : ¬ (q.hit = true ∧ 0 ≤ q.len ∧ q.len ≤ m)) : pick (l.drop i) m = pick (l.drop (i + 1)) m := by
  rw [drop_cons hq]; simp only [pick, if_neg h]

attribute [local irreducible] AStep aops AWp Nx awM
set_option maxHeartbeats 0 in
theorem chanceLimit_c (X : Nat → Prop) (l0 : List Pr) (most : Int) (hm : most ≤ 9223372036854775807) :
    ACalls (E0 X) 4 [.sl 6 (l0.map pav), .int .i64 most] [] (fun r H' => r = .bool true ∧ H' = []) := by
  refine acalls_of Proofs.Try.func4 rfl Proofs.Try.ntmps4 (by kernel_rfl) rfl ?_
  intro hH hargs
  refine awp_seq ?_
  refine awp_region rfl ?_
  repeat' (first
      | (refine bs rfl ?_
         try
           first
           | refine st_move ?_
           | refine st_assign ?_
           | refine st_bin rfl ?_
           | refine st_load rfl rfl rfl ?_
           | refine st_ixp rfl rfl (by assumption) ?_
           | refine st_fieldAddr rfl rfl rfl rfl rfl ?_
           | refine st_pick rfl ?_
           | refine st_nilCheck rfl ?_
           | refine st_len_sl rfl rfl rfl ?_
           | refine st_len_str rfl rfl rfl ?_
           | refine st_extract rfl rfl ?_
           | refine st_un rfl ?_
           | refine st_min rfl rfl ?_
           | refine st_max rfl rfl ?_
           | refine st_conv rfl rfl rfl rfl ?_
           | refine st_eql rfl rfl rfl ?_
           | refine st_neq rfl rfl rfl ?_
           | refine st_alloc rfl rfl ?_
           | refine st_box rfl ?_
           | refine st_field rfl rfl rfl rfl rfl ?_
           | refine st_bld rfl rfl rfl rfl rfl rfl ?_
           | refine st_bsl rfl rfl rfl rfl rfl rfl rfl (.inl rfl) rfl (.inl rfl) rfl rfl ?_
           refine nx rfl rfl ?_)
      | (refine bs0 rfl ?_
         try
           refine st_store_ptr rfl rfl rfl rfl rfl rfl rfl ?_
           refine nx rfl rfl ?_)
      | refine aops_nil ?_
      | refine bskip rfl ?_
      | refine bskip0 rfl ?_
      | refine bguard rfl rfl (fun _ => ?_) (fun _ => ?_)
      | refine bguardB rfl rfl (fun _ => ?_) (fun _ => ?_))
  refine awp_seq ?_
  refine awp_region rfl ?_
  repeat' (first
      | (refine bs rfl ?_
         try
           first
           | refine st_move ?_
           | refine st_assign ?_
           | refine st_bin rfl ?_
           | refine st_load rfl rfl rfl ?_
           | refine st_ixp rfl rfl (by assumption) ?_
           | refine st_fieldAddr rfl rfl rfl rfl rfl ?_
           | refine st_pick rfl ?_
           | refine st_nilCheck rfl ?_
           | refine st_len_sl rfl rfl rfl ?_
           | refine st_len_str rfl rfl rfl ?_
           | refine st_extract rfl rfl ?_
           | refine st_un rfl ?_
           | refine st_min rfl rfl ?_
           | refine st_max rfl rfl ?_
           | refine st_conv rfl rfl rfl rfl ?_
           | refine st_eql rfl rfl rfl ?_
           | refine st_neq rfl rfl rfl ?_
           | refine st_alloc rfl rfl ?_
           | refine st_box rfl ?_
           | refine st_field rfl rfl rfl rfl rfl ?_
           | refine st_bld rfl rfl rfl rfl rfl rfl ?_
           | refine st_bsl rfl rfl rfl rfl rfl rfl rfl (.inl rfl) rfl (.inl rfl) rfl rfl ?_
           refine nx rfl rfl ?_)
      | (refine bs0 rfl ?_
         try
           refine st_store_ptr rfl rfl rfl rfl rfl rfl rfl ?_
           refine nx rfl rfl ?_)
      | refine aops_nil ?_
      | refine bskip rfl ?_
      | refine bskip0 rfl ?_
      | refine bguard rfl rfl (fun _ => ?_) (fun _ => ?_)
      | refine bguardB rfl rfl (fun _ => ?_) (fun _ => ?_))
  have hmin : min ((l0.map pav).length : Int) 30 = ((min l0.length 30 : Nat) : Int) := by simp; omega
  refine st_slice_sl (k := 6) (es := l0.map pav) (l := 0) (h := min l0.length 30) rfl rfl rfl rfl rfl bnd_none (bnd_some rfl hmin) (Nat.zero_le _) (by simp; omega) ?_
  have hcut : List.drop 0 (List.take (min l0.length 30) (l0.map pav)) = (l0.take (min l0.length 30)).map pav := by simp [List.map_take]
  rw [hcut]
  have hlen : (l0.take (min l0.length 30)).length ≤ 30 := by simp; omega
  generalize l0.take (min l0.length 30) = l at hlen ⊢
  refine nx rfl rfl ?_
  repeat' (first
      | (refine bs rfl ?_
         try
           first
           | refine st_move ?_
           | refine st_assign ?_
           | refine st_bin rfl ?_
           | refine st_load rfl rfl rfl ?_
           | refine st_ixp rfl rfl (by assumption) ?_
           | refine st_fieldAddr rfl rfl rfl rfl rfl ?_
           | refine st_pick rfl ?_
           | refine st_nilCheck rfl ?_
           | refine st_len_sl rfl rfl rfl ?_
           | refine st_len_str rfl rfl rfl ?_
           | refine st_extract rfl rfl ?_
           | refine st_un rfl ?_
           | refine st_min rfl rfl ?_
           | refine st_max rfl rfl ?_
           | refine st_conv rfl rfl rfl rfl ?_
           | refine st_eql rfl rfl rfl ?_
           | refine st_neq rfl rfl rfl ?_
           | refine st_alloc rfl rfl ?_
           | refine st_box rfl ?_
           | refine st_field rfl rfl rfl rfl rfl ?_
           | refine st_bld rfl rfl rfl rfl rfl rfl ?_
           | refine st_bsl rfl rfl rfl rfl rfl rfl rfl (.inl rfl) rfl (.inl rfl) rfl rfl ?_
           refine nx rfl rfl ?_)
      | (refine bs0 rfl ?_
         try
           refine st_store_ptr rfl rfl rfl rfl rfl rfl rfl ?_
           refine nx rfl rfl ?_)
      | refine aops_nil ?_
      | refine bskip rfl ?_
      | refine bskip0 rfl ?_
      | refine bguard rfl rfl (fun _ => ?_) (fun _ => ?_)
      | refine bguardB rfl rfl (fun _ => ?_) (fun _ => ?_))
  refine awp_pre (imp_tidy0 (sl' := [(0, .sl 6 (l.map pav)), (1, .int .i64 most)]) (fa_cons (ren_val2 rfl (ids_pav l)) (fa_cons (ren_val2 rfl trivial) fa_nil))) ?_
  clear hcut hmin hargs hH
  refine awp_seq ?_
  refine awp_seq ?_
  refine awp_region rfl ?_
  repeat' (first
      | (refine bs rfl ?_
         try
           first
           | refine st_move ?_
           | refine st_assign ?_
           | refine st_bin rfl ?_
           | refine st_load rfl rfl rfl ?_
           | refine st_ixp rfl rfl (by assumption) ?_
           | refine st_fieldAddr rfl rfl rfl rfl rfl ?_
           | refine st_pick rfl ?_
           | refine st_nilCheck rfl ?_
           | refine st_len_sl rfl rfl rfl ?_
           | refine st_len_str rfl rfl rfl ?_
           | refine st_extract rfl rfl ?_
           | refine st_un rfl ?_
           | refine st_min rfl rfl ?_
           | refine st_max rfl rfl ?_
           | refine st_conv rfl rfl rfl rfl ?_
           | refine st_eql rfl rfl rfl ?_
           | refine st_neq rfl rfl rfl ?_
           | refine st_alloc rfl rfl ?_
           | refine st_box rfl ?_
           | refine st_field rfl rfl rfl rfl rfl ?_
           | refine st_bld rfl rfl rfl rfl rfl rfl ?_
           | refine st_bsl rfl rfl rfl rfl rfl rfl rfl (.inl rfl) rfl (.inl rfl) rfl rfl ?_
           refine nx rfl rfl ?_)
      | (refine bs0 rfl ?_
         try
           refine st_store_ptr rfl rfl rfl rfl rfl rfl rfl ?_
           refine nx rfl rfl ?_)
      | refine aops_nil ?_
      | refine bskip rfl ?_
      | refine bskip0 rfl ?_
      | refine bguard rfl rfl (fun _ => ?_) (fun _ => ?_)
      | refine bguardB rfl rfl (fun _ => ?_) (fun _ => ?_))
  refine awp_block ?_
  refine awp_loop (limS l most) (fun i => l.length - i.k) ⟨0, Nat.zero_le _, fun j p h => absurd h (Nat.not_lt_zero j)⟩ ?_ ?_
  · refine imp_tidy0 (fa_cons (ren_val2 rfl (ids_pav l)) (fa_cons (ren_val2 rfl trivial) (fa_cons (ren_val2 ?_ trivial) (fa_cons (ren_val2 rfl trivial) fa_nil))))
    simp [get_cons]
  · rintro ⟨k, hk, h⟩
    show AWp (E0 X) _ _ _ _ ⟨[(0, .sl 6 (l.map pav)), (1, .int .i64 most), (16, .int .i64 l.length), (17, .int .i64 k)], []⟩
    refine awp_seq ?_
    refine awp_region rfl ?_
    repeat' (first
        | (refine bs rfl ?_
           try
             first
             | refine st_move ?_
             | refine st_assign ?_
             | refine st_bin rfl ?_
             | refine st_load rfl rfl rfl ?_
             | refine st_ixp rfl rfl (by assumption) ?_
             | refine st_fieldAddr rfl rfl rfl rfl rfl ?_
             | refine st_pick rfl ?_
             | refine st_nilCheck rfl ?_
             | refine st_len_sl rfl rfl rfl ?_
             | refine st_len_str rfl rfl rfl ?_
             | refine st_extract rfl rfl ?_
             | refine st_un rfl ?_
             | refine st_min rfl rfl ?_
             | refine st_max rfl rfl ?_
             | refine st_conv rfl rfl rfl rfl ?_
             | refine st_eql rfl rfl rfl ?_
             | refine st_neq rfl rfl rfl ?_
             | refine st_alloc rfl rfl ?_
             | refine st_box rfl ?_
             | refine st_field rfl rfl rfl rfl rfl ?_
             | refine st_bld rfl rfl rfl rfl rfl rfl ?_
             | refine st_bsl rfl rfl rfl rfl rfl rfl rfl (.inl rfl) rfl (.inl rfl) rfl rfl ?_
             refine nx rfl rfl ?_)
        | (refine bs0 rfl ?_
           try
             refine st_store_ptr rfl rfl rfl rfl rfl rfl rfl ?_
             refine nx rfl rfl ?_)
        | refine aops_nil ?_
        | refine bskip rfl ?_
        | refine bskip0 rfl ?_
        | refine bguard rfl rfl (fun _ => ?_) (fun _ => ?_)
        | refine bguardB rfl rfl (fun _ => ?_) (fun _ => ?_))
    refine awp_seq ?_
    refine awp_cond_dec rfl (fun hlt => ?_) (fun hge => ?_)
    · have hkl : k < l.length := by simpa using hlt
      obtain ⟨q, hq⟩ : ∃ q, l[k]? = some q := ⟨_, List.getElem?_eq_getElem hkl⟩
      refine awp_skip ?_
      refine awp_seq ?_
      refine awp_block ?_
      refine awp_seq ?_
      refine awp_region rfl ?_
      repeat' (first
          | (refine bs rfl ?_
             try
               first
               | refine st_move ?_
               | refine st_assign ?_
               | refine st_bin rfl ?_
               | refine st_load rfl rfl rfl ?_
               | refine st_ixp rfl rfl (by assumption) ?_
               | refine st_fieldAddr rfl rfl rfl rfl rfl ?_
               | refine st_pick rfl ?_
               | refine st_nilCheck rfl ?_
               | refine st_len_sl rfl rfl rfl ?_
               | refine st_len_str rfl rfl rfl ?_
               | refine st_extract rfl rfl ?_
               | refine st_un rfl ?_
               | refine st_min rfl rfl ?_
               | refine st_max rfl rfl ?_
               | refine st_conv rfl rfl rfl rfl ?_
               | refine st_eql rfl rfl rfl ?_
               | refine st_neq rfl rfl rfl ?_
               | refine st_alloc rfl rfl ?_
               | refine st_box rfl ?_
               | refine st_field rfl rfl rfl rfl rfl ?_
               | refine st_bld rfl rfl rfl rfl rfl rfl ?_
               | refine st_bsl rfl rfl rfl rfl rfl rfl rfl (.inl rfl) rfl (.inl rfl) rfl rfl ?_
               refine nx rfl rfl ?_)
          | (refine bs0 rfl ?_
             try
               refine st_store_ptr rfl rfl rfl rfl rfl rfl rfl ?_
               refine nx rfl rfl ?_)
          | refine aops_nil ?_
          | refine bskip rfl ?_
          | refine bskip0 rfl ?_
          | refine bguard rfl rfl (fun _ => ?_) (fun _ => ?_)
          | refine bguardB rfl rfl (fun _ => ?_) (fun _ => ?_))
      refine awp_seq ?_
      refine awp_region rfl ?_
      repeat' (first
          | (refine bs rfl ?_
             try
               first
               | refine st_move ?_
               | refine st_assign ?_
               | refine st_bin rfl ?_
               | refine st_load rfl rfl rfl ?_
               | refine st_ixp rfl rfl (by assumption) ?_
               | refine st_fieldAddr rfl rfl rfl rfl rfl ?_
               | refine st_pick rfl ?_
               | refine st_nilCheck rfl ?_
               | refine st_len_sl rfl rfl rfl ?_
               | refine st_len_str rfl rfl rfl ?_
               | refine st_extract rfl rfl ?_
               | refine st_un rfl ?_
               | refine st_min rfl rfl ?_
               | refine st_max rfl rfl ?_
               | refine st_conv rfl rfl rfl rfl ?_
               | refine st_eql rfl rfl rfl ?_
               | refine st_neq rfl rfl rfl ?_
               | refine st_alloc rfl rfl ?_
               | refine st_box rfl ?_
               | refine st_field rfl rfl rfl rfl rfl ?_
               | refine st_bld rfl rfl rfl rfl rfl rfl ?_
               | refine st_bsl rfl rfl rfl rfl rfl rfl rfl (.inl rfl) rfl (.inl rfl) rfl rfl ?_
               refine nx rfl rfl ?_)
          | (refine bs0 rfl ?_
             try
               refine st_store_ptr rfl rfl rfl rfl rfl rfl rfl ?_
               refine nx rfl rfl ?_)
          | refine aops_nil ?_
          | refine bskip rfl ?_
          | refine bskip0 rfl ?_
          | refine bguard rfl rfl (fun _ => ?_) (fun _ => ?_)
          | refine bguardB rfl rfl (fun _ => ?_) (fun _ => ?_))
      · refine awp_cond_true rfl ?_
        refine awp_seq ?_
        refine awp_region rfl ?_
        repeat' (first
            | (refine bs rfl ?_
               try
                 first
                 | refine st_move ?_
                 | refine st_assign ?_
                 | refine st_bin rfl ?_
                 | refine st_load rfl rfl rfl ?_
                 | refine st_ixp rfl rfl (by assumption) ?_
                 | refine st_fieldAddr rfl rfl rfl rfl rfl ?_
                 | refine st_pick rfl ?_
                 | refine st_nilCheck rfl ?_
                 | refine st_len_sl rfl rfl rfl ?_
                 | refine st_len_str rfl rfl rfl ?_
                 | refine st_extract rfl rfl ?_
                 | refine st_un rfl ?_
                 | refine st_min rfl rfl ?_
                 | refine st_max rfl rfl ?_
                 | refine st_conv rfl rfl rfl rfl ?_
                 | refine st_eql rfl rfl rfl ?_
                 | refine st_neq rfl rfl rfl ?_
                 | refine st_alloc rfl rfl ?_
                 | refine st_box rfl ?_
                 | refine st_field rfl rfl rfl rfl rfl ?_
                 | refine st_bld rfl rfl rfl rfl rfl rfl ?_
                 | refine st_bsl rfl rfl rfl rfl rfl rfl rfl (.inl rfl) rfl (.inl rfl) rfl rfl ?_
                 refine nx rfl rfl ?_)
            | (refine bs0 rfl ?_
               try
                 refine st_store_ptr rfl rfl rfl rfl rfl rfl rfl ?_
                 refine nx rfl rfl ?_)
            | refine aops_nil ?_
            | refine bskip rfl ?_
            | refine bskip0 rfl ?_
            | refine bguard rfl rfl (fun _ => ?_) (fun _ => ?_)
            | refine bguardB rfl rfl (fun _ => ?_) (fun _ => ?_))
        refine st_call (fun _ => rfl) rfl ?_
        refine ACalls.mono (awake_c X) ?_
        rintro r H' ⟨rfl, rfl⟩
        refine nx rfl rfl ?_
        repeat' (first
            | (refine bs rfl ?_
               try
                 first
                 | refine st_move ?_
                 | refine st_assign ?_
                 | refine st_bin rfl ?_
                 | refine st_load rfl rfl rfl ?_
                 | refine st_ixp rfl rfl (by assumption) ?_
                 | refine st_fieldAddr rfl rfl rfl rfl rfl ?_
                 | refine st_pick rfl ?_
                 | refine st_nilCheck rfl ?_
                 | refine st_len_sl rfl rfl rfl ?_
                 | refine st_len_str rfl rfl rfl ?_
                 | refine st_extract rfl rfl ?_
                 | refine st_un rfl ?_
                 | refine st_min rfl rfl ?_
                 | refine st_max rfl rfl ?_
                 | refine st_conv rfl rfl rfl rfl ?_
                 | refine st_eql rfl rfl rfl ?_
                 | refine st_neq rfl rfl rfl ?_
                 | refine st_alloc rfl rfl ?_
                 | refine st_box rfl ?_
                 | refine st_field rfl rfl rfl rfl rfl ?_
                 | refine st_bld rfl rfl rfl rfl rfl rfl ?_
                 | refine st_bsl rfl rfl rfl rfl rfl rfl rfl (.inl rfl) rfl (.inl rfl) rfl rfl ?_
                 refine nx rfl rfl ?_)
            | (refine bs0 rfl ?_
               try
                 refine st_store_ptr rfl rfl rfl rfl rfl rfl rfl ?_
                 refine nx rfl rfl ?_)
            | refine aops_nil ?_
            | refine bskip rfl ?_
            | refine bskip0 rfl ?_
            | refine bguard rfl rfl (fun _ => ?_) (fun _ => ?_)
            | refine bguardB rfl rfl (fun _ => ?_) (fun _ => ?_))
        refine awp_ret ?_
        exact ⟨_, rfl, by simp [get_cons, one], rfl⟩
      · rename_i hn
        refine awp_cond_dec rfl (fun hb => ?_) (fun hb => ?_)
        · refine awp_seq ?_
          refine awp_region rfl ?_
          repeat' (first
              | (refine bs rfl ?_
                 try
                   first
                   | refine st_move ?_
                   | refine st_assign ?_
                   | refine st_bin rfl ?_
                   | refine st_load rfl rfl rfl ?_
                   | refine st_ixp rfl rfl (by assumption) ?_
                   | refine st_fieldAddr rfl rfl rfl rfl rfl ?_
                   | refine st_pick rfl ?_
                   | refine st_nilCheck rfl ?_
                   | refine st_len_sl rfl rfl rfl ?_
                   | refine st_len_str rfl rfl rfl ?_
                   | refine st_extract rfl rfl ?_
                   | refine st_un rfl ?_
                   | refine st_min rfl rfl ?_
                   | refine st_max rfl rfl ?_
                   | refine st_conv rfl rfl rfl rfl ?_
                   | refine st_eql rfl rfl rfl ?_
                   | refine st_neq rfl rfl rfl ?_
                   | refine st_alloc rfl rfl ?_
                   | refine st_box rfl ?_
                   | refine st_field rfl rfl rfl rfl rfl ?_
                   | refine st_bld rfl rfl rfl rfl rfl rfl ?_
                   | refine st_bsl rfl rfl rfl rfl rfl rfl rfl (.inl rfl) rfl (.inl rfl) rfl rfl ?_
                   refine nx rfl rfl ?_)
              | (refine bs0 rfl ?_
                 try
                   refine st_store_ptr rfl rfl rfl rfl rfl rfl rfl ?_
                   refine nx rfl rfl ?_)
              | refine aops_nil ?_
              | refine bskip rfl ?_
              | refine bskip0 rfl ?_
              | refine bguard rfl rfl (fun _ => ?_) (fun _ => ?_)
              | refine bguardB rfl rfl (fun _ => ?_) (fun _ => ?_))
          refine st_call (fun _ => rfl) rfl ?_
          refine ACalls.mono (awake_c X) ?_
          rintro r H' ⟨rfl, rfl⟩
          refine nx rfl rfl ?_
          repeat' (first
              | (refine bs rfl ?_
                 try
                   first
                   | refine st_move ?_
                   | refine st_assign ?_
                   | refine st_bin rfl ?_
                   | refine st_load rfl rfl rfl ?_
                   | refine st_ixp rfl rfl (by assumption) ?_
                   | refine st_fieldAddr rfl rfl rfl rfl rfl ?_
                   | refine st_pick rfl ?_
                   | refine st_nilCheck rfl ?_
                   | refine st_len_sl rfl rfl rfl ?_
                   | refine st_len_str rfl rfl rfl ?_
                   | refine st_extract rfl rfl ?_
                   | refine st_un rfl ?_
                   | refine st_min rfl rfl ?_
                   | refine st_max rfl rfl ?_
                   | refine st_conv rfl rfl rfl rfl ?_
                   | refine st_eql rfl rfl rfl ?_
                   | refine st_neq rfl rfl rfl ?_
                   | refine st_alloc rfl rfl ?_
                   | refine st_box rfl ?_
                   | refine st_field rfl rfl rfl rfl rfl ?_
                   | refine st_bld rfl rfl rfl rfl rfl rfl ?_
                   | refine st_bsl rfl rfl rfl rfl rfl rfl rfl (.inl rfl) rfl (.inl rfl) rfl rfl ?_
                   refine nx rfl rfl ?_)
              | (refine bs0 rfl ?_
                 try
                   refine st_store_ptr rfl rfl rfl rfl rfl rfl rfl ?_
                   refine nx rfl rfl ?_)
              | refine aops_nil ?_
              | refine bskip rfl ?_
              | refine bskip0 rfl ?_
              | refine bguard rfl rfl (fun _ => ?_) (fun _ => ?_)
              | refine bguardB rfl rfl (fun _ => ?_) (fun _ => ?_))
          refine awp_ret ?_
          exact ⟨_, rfl, by simp [get_cons, one], rfl⟩
        · refine awp_skip ?_
          refine awp_region rfl ?_
          repeat' (first
              | (refine bs rfl ?_
                 try
                   first
                   | refine st_move ?_
                   | refine st_assign ?_
                   | refine st_bin rfl ?_
                   | refine st_load rfl rfl rfl ?_
                   | refine st_ixp rfl rfl (by assumption) ?_
                   | refine st_fieldAddr rfl rfl rfl rfl rfl ?_
                   | refine st_pick rfl ?_
                   | refine st_nilCheck rfl ?_
                   | refine st_len_sl rfl rfl rfl ?_
                   | refine st_len_str rfl rfl rfl ?_
                   | refine st_extract rfl rfl ?_
                   | refine st_un rfl ?_
                   | refine st_min rfl rfl ?_
                   | refine st_max rfl rfl ?_
                   | refine st_conv rfl rfl rfl rfl ?_
                   | refine st_eql rfl rfl rfl ?_
                   | refine st_neq rfl rfl rfl ?_
                   | refine st_alloc rfl rfl ?_
                   | refine st_box rfl ?_
                   | refine st_field rfl rfl rfl rfl rfl ?_
                   | refine st_bld rfl rfl rfl rfl rfl rfl ?_
                   | refine st_bsl rfl rfl rfl rfl rfl rfl rfl (.inl rfl) rfl (.inl rfl) rfl rfl ?_
                   refine nx rfl rfl ?_)
              | (refine bs0 rfl ?_
                 try
                   refine st_store_ptr rfl rfl rfl rfl rfl rfl rfl ?_
                   refine nx rfl rfl ?_)
              | refine aops_nil ?_
              | refine bskip rfl ?_
              | refine bskip0 rfl ?_
              | refine bguard rfl rfl (fun _ => ?_) (fun _ => ?_)
              | refine bguardB rfl rfl (fun _ => ?_) (fun _ => ?_))
          refine then_i ?_
          refine ⟨⟨k + 1, by omega, fun j p hj hp => ?_⟩, by show _ - (k + 1) < _ - k; omega, ?_⟩
          · rcases Nat.lt_or_ge j k with h1 | h1
            · exact h j p h1 hp
            · have : j = k := by omega
              subst this
              rw [hq] at hp; cases hp
              exact ⟨by omega, by omega⟩
          · refine imp_tidy0 (fa_cons (ren_val2 rfl (ids_pav l)) (fa_cons (ren_val2 rfl trivial) (fa_cons (ren_val2 rfl trivial) (fa_cons (ren_val2 ?_ trivial) fa_nil))))
            show AV.int .i64 (IntKind.i64.wrap (k + 1)) = _
            rw [wrap_in (by omega) (by omega)]; rfl
    · have hkl : k = l.length := by
        have : ¬ (k < l.length) := fun hh => hge (by exact_mod_cast hh)
        omega
      have hL : ∀ (j : Nat) (p : Pr), l[j]? = some p → 0 ≤ p.len ∧ p.len ≤ 1048576 := fun j p hp => h j p (by rw [hkl]; exact (List.getElem?_eq_some_iff.1 hp).1) hp
      refine awp_exit ?_
      refine then_x ?_
      refine then_x ?_
      refine blk_x ?_
      refine awp_pre (imp_tidy0 (sl' := [(0, .sl 6 (l.map pav)), (1, .int .i64 most)]) (fa_cons (ren_val2 rfl (ids_pav l)) (fa_cons (ren_val2 rfl trivial) fa_nil))) ?_
      clear h hk hge hkl k
      refine awp_seq ?_
      refine awp_seq ?_
      refine awp_region rfl ?_
      repeat' (first
          | (refine bs rfl ?_
             try
               first
               | refine st_move ?_
               | refine st_assign ?_
               | refine st_bin rfl ?_
               | refine st_load rfl rfl rfl ?_
               | refine st_ixp rfl rfl (by assumption) ?_
               | refine st_fieldAddr rfl rfl rfl rfl rfl ?_
               | refine st_pick rfl ?_
               | refine st_nilCheck rfl ?_
               | refine st_len_sl rfl rfl rfl ?_
               | refine st_len_str rfl rfl rfl ?_
               | refine st_extract rfl rfl ?_
               | refine st_un rfl ?_
               | refine st_min rfl rfl ?_
               | refine st_max rfl rfl ?_
               | refine st_conv rfl rfl rfl rfl ?_
               | refine st_eql rfl rfl rfl ?_
               | refine st_neq rfl rfl rfl ?_
               | refine st_alloc rfl rfl ?_
               | refine st_box rfl ?_
               | refine st_field rfl rfl rfl rfl rfl ?_
               | refine st_bld rfl rfl rfl rfl rfl rfl ?_
               | refine st_bsl rfl rfl rfl rfl rfl rfl rfl (.inl rfl) rfl (.inl rfl) rfl rfl ?_
               refine nx rfl rfl ?_)
          | (refine bs0 rfl ?_
             try
               refine st_store_ptr rfl rfl rfl rfl rfl rfl rfl ?_
               refine nx rfl rfl ?_)
          | refine aops_nil ?_
          | refine bskip rfl ?_
          | refine bskip0 rfl ?_
          | refine bguard rfl rfl (fun _ => ?_) (fun _ => ?_)
          | refine bguardB rfl rfl (fun _ => ?_) (fun _ => ?_))
      · refine awp_cond_true rfl ?_
        refine awp_seq ?_
        refine awp_region rfl ?_
        repeat' (first
            | (refine bs rfl ?_
               try
                 first
                 | refine st_move ?_
                 | refine st_assign ?_
                 | refine st_bin rfl ?_
                 | refine st_load rfl rfl rfl ?_
                 | refine st_ixp rfl rfl (by assumption) ?_
                 | refine st_fieldAddr rfl rfl rfl rfl rfl ?_
                 | refine st_pick rfl ?_
                 | refine st_nilCheck rfl ?_
                 | refine st_len_sl rfl rfl rfl ?_
                 | refine st_len_str rfl rfl rfl ?_
                 | refine st_extract rfl rfl ?_
                 | refine st_un rfl ?_
                 | refine st_min rfl rfl ?_
                 | refine st_max rfl rfl ?_
                 | refine st_conv rfl rfl rfl rfl ?_
                 | refine st_eql rfl rfl rfl ?_
                 | refine st_neq rfl rfl rfl ?_
                 | refine st_alloc rfl rfl ?_
                 | refine st_box rfl ?_
                 | refine st_field rfl rfl rfl rfl rfl ?_
                 | refine st_bld rfl rfl rfl rfl rfl rfl ?_
                 | refine st_bsl rfl rfl rfl rfl rfl rfl rfl (.inl rfl) rfl (.inl rfl) rfl rfl ?_
                 refine nx rfl rfl ?_)
            | (refine bs0 rfl ?_
               try
                 refine st_store_ptr rfl rfl rfl rfl rfl rfl rfl ?_
                 refine nx rfl rfl ?_)
            | refine aops_nil ?_
            | refine bskip rfl ?_
            | refine bskip0 rfl ?_
            | refine bguard rfl rfl (fun _ => ?_) (fun _ => ?_)
            | refine bguardB rfl rfl (fun _ => ?_) (fun _ => ?_))
        refine st_call (fun _ => rfl) rfl ?_
        refine ACalls.mono (awake_c X) ?_
        rintro r H' ⟨rfl, rfl⟩
        refine nx rfl rfl ?_
        repeat' (first
            | (refine bs rfl ?_
               try
                 first
                 | refine st_move ?_
                 | refine st_assign ?_
                 | refine st_bin rfl ?_
                 | refine st_load rfl rfl rfl ?_
                 | refine st_ixp rfl rfl (by assumption) ?_
                 | refine st_fieldAddr rfl rfl rfl rfl rfl ?_
                 | refine st_pick rfl ?_
                 | refine st_nilCheck rfl ?_
                 | refine st_len_sl rfl rfl rfl ?_
                 | refine st_len_str rfl rfl rfl ?_
                 | refine st_extract rfl rfl ?_
                 | refine st_un rfl ?_
                 | refine st_min rfl rfl ?_
                 | refine st_max rfl rfl ?_
                 | refine st_conv rfl rfl rfl rfl ?_
                 | refine st_eql rfl rfl rfl ?_
                 | refine st_neq rfl rfl rfl ?_
                 | refine st_alloc rfl rfl ?_
                 | refine st_box rfl ?_
                 | refine st_field rfl rfl rfl rfl rfl ?_
                 | refine st_bld rfl rfl rfl rfl rfl rfl ?_
                 | refine st_bsl rfl rfl rfl rfl rfl rfl rfl (.inl rfl) rfl (.inl rfl) rfl rfl ?_
                 refine nx rfl rfl ?_)
            | (refine bs0 rfl ?_
               try
                 refine st_store_ptr rfl rfl rfl rfl rfl rfl rfl ?_
                 refine nx rfl rfl ?_)
            | refine aops_nil ?_
            | refine bskip rfl ?_
            | refine bskip0 rfl ?_
            | refine bguard rfl rfl (fun _ => ?_) (fun _ => ?_)
            | refine bguardB rfl rfl (fun _ => ?_) (fun _ => ?_))
        refine awp_ret ?_
        exact ⟨_, rfl, by simp [get_cons, one], rfl⟩
      · rename_i hn
        refine awp_cond_dec rfl (fun hb => ?_) (fun hb => ?_)
        · refine awp_seq ?_
          refine awp_region rfl ?_
          repeat' (first
              | (refine bs rfl ?_
                 try
                   first
                   | refine st_move ?_
                   | refine st_assign ?_
                   | refine st_bin rfl ?_
                   | refine st_load rfl rfl rfl ?_
                   | refine st_ixp rfl rfl (by assumption) ?_
                   | refine st_fieldAddr rfl rfl rfl rfl rfl ?_
                   | refine st_pick rfl ?_
                   | refine st_nilCheck rfl ?_
                   | refine st_len_sl rfl rfl rfl ?_
                   | refine st_len_str rfl rfl rfl ?_
                   | refine st_extract rfl rfl ?_
                   | refine st_un rfl ?_
                   | refine st_min rfl rfl ?_
                   | refine st_max rfl rfl ?_
                   | refine st_conv rfl rfl rfl rfl ?_
                   | refine st_eql rfl rfl rfl ?_
                   | refine st_neq rfl rfl rfl ?_
                   | refine st_alloc rfl rfl ?_
                   | refine st_box rfl ?_
                   | refine st_field rfl rfl rfl rfl rfl ?_
                   | refine st_bld rfl rfl rfl rfl rfl rfl ?_
                   | refine st_bsl rfl rfl rfl rfl rfl rfl rfl (.inl rfl) rfl (.inl rfl) rfl rfl ?_
                   refine nx rfl rfl ?_)
              | (refine bs0 rfl ?_
                 try
                   refine st_store_ptr rfl rfl rfl rfl rfl rfl rfl ?_
                   refine nx rfl rfl ?_)
              | refine aops_nil ?_
              | refine bskip rfl ?_
              | refine bskip0 rfl ?_
              | refine bguard rfl rfl (fun _ => ?_) (fun _ => ?_)
              | refine bguardB rfl rfl (fun _ => ?_) (fun _ => ?_))
          refine st_call (fun _ => rfl) rfl ?_
          refine ACalls.mono (awake_c X) ?_
          rintro r H' ⟨rfl, rfl⟩
          refine nx rfl rfl ?_
          repeat' (first
              | (refine bs rfl ?_
                 try
                   first
                   | refine st_move ?_
                   | refine st_assign ?_
                   | refine st_bin rfl ?_
                   | refine st_load rfl rfl rfl ?_
                   | refine st_ixp rfl rfl (by assumption) ?_
                   | refine st_fieldAddr rfl rfl rfl rfl rfl ?_
                   | refine st_pick rfl ?_
                   | refine st_nilCheck rfl ?_
                   | refine st_len_sl rfl rfl rfl ?_
                   | refine st_len_str rfl rfl rfl ?_
                   | refine st_extract rfl rfl ?_
                   | refine st_un rfl ?_
                   | refine st_min rfl rfl ?_
                   | refine st_max rfl rfl ?_
                   | refine st_conv rfl rfl rfl rfl ?_
                   | refine st_eql rfl rfl rfl ?_
                   | refine st_neq rfl rfl rfl ?_
                   | refine st_alloc rfl rfl ?_
                   | refine st_box rfl ?_
                   | refine st_field rfl rfl rfl rfl rfl ?_
                   | refine st_bld rfl rfl rfl rfl rfl rfl ?_
                   | refine st_bsl rfl rfl rfl rfl rfl rfl rfl (.inl rfl) rfl (.inl rfl) rfl rfl ?_
                   refine nx rfl rfl ?_)
              | (refine bs0 rfl ?_
                 try
                   refine st_store_ptr rfl rfl rfl rfl rfl rfl rfl ?_
                   refine nx rfl rfl ?_)
              | refine aops_nil ?_
              | refine bskip rfl ?_
              | refine bskip0 rfl ?_
              | refine bguard rfl rfl (fun _ => ?_) (fun _ => ?_)
              | refine bguardB rfl rfl (fun _ => ?_) (fun _ => ?_))
          refine awp_ret ?_
          exact ⟨_, rfl, by simp [get_cons, one], rfl⟩
        · have hm0 : 0 ≤ most := by omega
          have hm1 : most ≤ 1073741824 := by omega
          clear hn hb
          refine awp_skip ?_
          refine awp_seq ?_
          refine awp_region rfl ?_
          repeat' (first
              | (refine bs rfl ?_
                 try
                   first
                   | refine st_move ?_
                   | refine st_assign ?_
                   | refine st_bin rfl ?_
                   | refine st_load rfl rfl rfl ?_
                   | refine st_ixp rfl rfl (by assumption) ?_
                   | refine st_fieldAddr rfl rfl rfl rfl rfl ?_
                   | refine st_pick rfl ?_
                   | refine st_nilCheck rfl ?_
                   | refine st_len_sl rfl rfl rfl ?_
                   | refine st_len_str rfl rfl rfl ?_
                   | refine st_extract rfl rfl ?_
                   | refine st_un rfl ?_
                   | refine st_min rfl rfl ?_
                   | refine st_max rfl rfl ?_
                   | refine st_conv rfl rfl rfl rfl ?_
                   | refine st_eql rfl rfl rfl ?_
                   | refine st_neq rfl rfl rfl ?_
                   | refine st_alloc rfl rfl ?_
                   | refine st_box rfl ?_
                   | refine st_field rfl rfl rfl rfl rfl ?_
                   | refine st_bld rfl rfl rfl rfl rfl rfl ?_
                   | refine st_bsl rfl rfl rfl rfl rfl rfl rfl (.inl rfl) rfl (.inl rfl) rfl rfl ?_
                   refine nx rfl rfl ?_)
              | (refine bs0 rfl ?_
                 try
                   refine st_store_ptr rfl rfl rfl rfl rfl rfl rfl ?_
                   refine nx rfl rfl ?_)
              | refine aops_nil ?_
              | refine bskip rfl ?_
              | refine bskip0 rfl ?_
              | refine bguard rfl rfl (fun _ => ?_) (fun _ => ?_)
              | refine bguardB rfl rfl (fun _ => ?_) (fun _ => ?_))
          refine st_call (fun _ => rfl) rfl ?_
          refine ACalls.mono (pick_c X l most hlen hm) ?_
          rintro r H' ⟨rfl, rfl⟩
          refine nx rfl rfl ?_
          repeat' (first
              | (refine bs rfl ?_
                 try
                   first
                   | refine st_move ?_
                   | refine st_assign ?_
                   | refine st_bin rfl ?_
                   | refine st_load rfl rfl rfl ?_
                   | refine st_ixp rfl rfl (by assumption) ?_
                   | refine st_fieldAddr rfl rfl rfl rfl rfl ?_
                   | refine st_pick rfl ?_
                   | refine st_nilCheck rfl ?_
                   | refine st_len_sl rfl rfl rfl ?_
                   | refine st_len_str rfl rfl rfl ?_
                   | refine st_extract rfl rfl ?_
                   | refine st_un rfl ?_
                   | refine st_min rfl rfl ?_
                   | refine st_max rfl rfl ?_
                   | refine st_conv rfl rfl rfl rfl ?_
                   | refine st_eql rfl rfl rfl ?_
                   | refine st_neq rfl rfl rfl ?_
                   | refine st_alloc rfl rfl ?_
                   | refine st_box rfl ?_
                   | refine st_field rfl rfl rfl rfl rfl ?_
                   | refine st_bld rfl rfl rfl rfl rfl rfl ?_
                   | refine st_bsl rfl rfl rfl rfl rfl rfl rfl (.inl rfl) rfl (.inl rfl) rfl rfl ?_
                   refine nx rfl rfl ?_)
              | (refine bs0 rfl ?_
                 try
                   refine st_store_ptr rfl rfl rfl rfl rfl rfl rfl ?_
                   refine nx rfl rfl ?_)
              | refine aops_nil ?_
              | refine bskip rfl ?_
              | refine bskip0 rfl ?_
              | refine bguard rfl rfl (fun _ => ?_) (fun _ => ?_)
              | refine bguardB rfl rfl (fun _ => ?_) (fun _ => ?_))
          refine awp_seq ?_
          refine awp_region rfl ?_
          repeat' (first
              | (refine bs rfl ?_
                 try
                   first
                   | refine st_move ?_
                   | refine st_assign ?_
                   | refine st_bin rfl ?_
                   | refine st_load rfl rfl rfl ?_
                   | refine st_ixp rfl rfl (by assumption) ?_
                   | refine st_fieldAddr rfl rfl rfl rfl rfl ?_
                   | refine st_pick rfl ?_
                   | refine st_nilCheck rfl ?_
                   | refine st_len_sl rfl rfl rfl ?_
                   | refine st_len_str rfl rfl rfl ?_
                   | refine st_extract rfl rfl ?_
                   | refine st_un rfl ?_
                   | refine st_min rfl rfl ?_
                   | refine st_max rfl rfl ?_
                   | refine st_conv rfl rfl rfl rfl ?_
                   | refine st_eql rfl rfl rfl ?_
                   | refine st_neq rfl rfl rfl ?_
                   | refine st_alloc rfl rfl ?_
                   | refine st_box rfl ?_
                   | refine st_field rfl rfl rfl rfl rfl ?_
                   | refine st_bld rfl rfl rfl rfl rfl rfl ?_
                   | refine st_bsl rfl rfl rfl rfl rfl rfl rfl (.inl rfl) rfl (.inl rfl) rfl rfl ?_
                   refine nx rfl rfl ?_)
              | (refine bs0 rfl ?_
                 try
                   refine st_store_ptr rfl rfl rfl rfl rfl rfl rfl ?_
                   refine nx rfl rfl ?_)
              | refine aops_nil ?_
              | refine bskip rfl ?_
              | refine bskip0 rfl ?_
              | refine bguard rfl rfl (fun _ => ?_) (fun _ => ?_)
              | refine bguardB rfl rfl (fun _ => ?_) (fun _ => ?_))
          refine awp_seq ?_
          refine awp_seq ?_
          refine awp_region rfl ?_
          repeat' (first
              | (refine bs rfl ?_
                 try
                   first
                   | refine st_move ?_
                   | refine st_assign ?_
                   | refine st_bin rfl ?_
                   | refine st_load rfl rfl rfl ?_
                   | refine st_ixp rfl rfl (by assumption) ?_
                   | refine st_fieldAddr rfl rfl rfl rfl rfl ?_
                   | refine st_pick rfl ?_
                   | refine st_nilCheck rfl ?_
                   | refine st_len_sl rfl rfl rfl ?_
                   | refine st_len_str rfl rfl rfl ?_
                   | refine st_extract rfl rfl ?_
                   | refine st_un rfl ?_
                   | refine st_min rfl rfl ?_
                   | refine st_max rfl rfl ?_
                   | refine st_conv rfl rfl rfl rfl ?_
                   | refine st_eql rfl rfl rfl ?_
                   | refine st_neq rfl rfl rfl ?_
                   | refine st_alloc rfl rfl ?_
                   | refine st_box rfl ?_
                   | refine st_field rfl rfl rfl rfl rfl ?_
                   | refine st_bld rfl rfl rfl rfl rfl rfl ?_
                   | refine st_bsl rfl rfl rfl rfl rfl rfl rfl (.inl rfl) rfl (.inl rfl) rfl rfl ?_
                   refine nx rfl rfl ?_)
              | (refine bs0 rfl ?_
                 try
                   refine st_store_ptr rfl rfl rfl rfl rfl rfl rfl ?_
                   refine nx rfl rfl ?_)
              | refine aops_nil ?_
              | refine bskip rfl ?_
              | refine bskip0 rfl ?_
              | refine bguard rfl rfl (fun _ => ?_) (fun _ => ?_)
              | refine bguardB rfl rfl (fun _ => ?_) (fun _ => ?_))
          refine awp_block ?_
          refine awp_loop (limT l most) (fun j => l.length - j.i) ⟨0, 0, 0, Nat.zero_le _, Int.le_refl _, hm0, Nat.zero_le _, by simp⟩ ?_ ?_
          · refine imp_tidy0 (fa_cons (ren_val2 rfl (ids_pav l)) (fa_cons (ren_val2 rfl trivial) (fa_cons (ren_val2 rfl (ids_pav (pick l most))) (fa_cons (ren_val2 rfl trivial) (fa_cons (ren_val2 rfl trivial) (fa_cons (ren_val2 ?_ trivial) (fa_cons (ren_val2 rfl trivial) fa_nil)))))))
            simp [get_cons]
          · rintro ⟨i, sum, k, hi, h0, hs, hk, h⟩
            have hplen := pick_len l most
            show AWp (E0 X) _ _ _ _ ⟨[(0, .sl 6 (l.map pav)), (1, .int .i64 most), (6, .sl 6 ((pick l most).map pav)), (7, .int .i64 sum), (8, .int .i64 k), (49, .int .i64 l.length), (50, .int .i64 i)], []⟩
            refine awp_seq ?_
            refine awp_region rfl ?_
            repeat' (first
                | (refine bs rfl ?_
                   try
                     first
                     | refine st_move ?_
                     | refine st_assign ?_
                     | refine st_bin rfl ?_
                     | refine st_load rfl rfl rfl ?_
                     | refine st_ixp rfl rfl (by assumption) ?_
                     | refine st_fieldAddr rfl rfl rfl rfl rfl ?_
                     | refine st_pick rfl ?_
                     | refine st_nilCheck rfl ?_
                     | refine st_len_sl rfl rfl rfl ?_
                     | refine st_len_str rfl rfl rfl ?_
                     | refine st_extract rfl rfl ?_
                     | refine st_un rfl ?_
                     | refine st_min rfl rfl ?_
                     | refine st_max rfl rfl ?_
                     | refine st_conv rfl rfl rfl rfl ?_
                     | refine st_eql rfl rfl rfl ?_
                     | refine st_neq rfl rfl rfl ?_
                     | refine st_alloc rfl rfl ?_
                     | refine st_box rfl ?_
                     | refine st_field rfl rfl rfl rfl rfl ?_
                     | refine st_bld rfl rfl rfl rfl rfl rfl ?_
                     | refine st_bsl rfl rfl rfl rfl rfl rfl rfl (.inl rfl) rfl (.inl rfl) rfl rfl ?_
                     refine nx rfl rfl ?_)
                | (refine bs0 rfl ?_
                   try
                     refine st_store_ptr rfl rfl rfl rfl rfl rfl rfl ?_
                     refine nx rfl rfl ?_)
                | refine aops_nil ?_
                | refine bskip rfl ?_
                | refine bskip0 rfl ?_
                | refine bguard rfl rfl (fun _ => ?_) (fun _ => ?_)
                | refine bguardB rfl rfl (fun _ => ?_) (fun _ => ?_))
            refine awp_seq ?_
            refine awp_cond_dec rfl (fun hlt => ?_) (fun hge => ?_)
            · have hil : i < l.length := by simpa using hlt
              obtain ⟨q, hq⟩ : ∃ q, l[i]? = some q := ⟨_, List.getElem?_eq_getElem hil⟩
              have hql := hL i q hq
              have hw : IntKind.i64.wrap (sum + q.len) = sum + q.len := wrap_in (by omega) (by omega)
              refine awp_skip ?_
              refine awp_seq ?_
              refine awp_block ?_
              refine awp_seq ?_
              refine awp_region rfl ?_
              repeat' (first
                  | (refine bs rfl ?_
                     try
                       first
                       | refine st_move ?_
                       | refine st_assign ?_
                       | refine st_bin rfl ?_
                       | refine st_load rfl rfl rfl ?_
                       | refine st_ixp rfl rfl (by assumption) ?_
                       | refine st_fieldAddr rfl rfl rfl rfl rfl ?_
                       | refine st_pick rfl ?_
                       | refine st_nilCheck rfl ?_
                       | refine st_len_sl rfl rfl rfl ?_
                       | refine st_len_str rfl rfl rfl ?_
                       | refine st_extract rfl rfl ?_
                       | refine st_un rfl ?_
                       | refine st_min rfl rfl ?_
                       | refine st_max rfl rfl ?_
                       | refine st_conv rfl rfl rfl rfl ?_
                       | refine st_eql rfl rfl rfl ?_
                       | refine st_neq rfl rfl rfl ?_
                       | refine st_alloc rfl rfl ?_
                       | refine st_box rfl ?_
                       | refine st_field rfl rfl rfl rfl rfl ?_
                       | refine st_bld rfl rfl rfl rfl rfl rfl ?_
                       | refine st_bsl rfl rfl rfl rfl rfl rfl rfl (.inl rfl) rfl (.inl rfl) rfl rfl ?_
                       refine nx rfl rfl ?_)
                  | (refine bs0 rfl ?_
                     try
                       refine st_store_ptr rfl rfl rfl rfl rfl rfl rfl ?_
                       refine nx rfl rfl ?_)
                  | refine aops_nil ?_
                  | refine bskip rfl ?_
                  | refine bskip0 rfl ?_
                  | refine bguard rfl rfl (fun _ => ?_) (fun _ => ?_)
                  | refine bguardB rfl rfl (fun _ => ?_) (fun _ => ?_))
              refine awp_seq ?_
              refine awp_seq ?_
              refine awp_region_draw (ef := []) (so := []) (ord := [0, 1, 2, 3, 4, 5, 6, 7, 8, 9, 10, 11, 12, 13, 14, 15, 16, 17, 18, 19, 20, 21, 22, 23, 24, 25, 26, 27, 28, 29, 30, 31, 32, 33, 34]) rfl (by kernel_rfl) rfl ?_
              by_cases hE : q.hit = true ∧ sum + q.len ≤ most
              · have hy := pick_yes (m := most - sum) hq ⟨hE.1, hql.1, by omega⟩
                rw [hy] at h
                have hpk : (pick l most)[k]? = some q := by
                  have : ((pick l most).drop k)[0]? = some q := by rw [h]; rfl
                  simpa using this
                have hkp : k < (pick l most).length := (List.getElem?_eq_some_iff.1 hpk).1
                repeat' (first
                    | (apply ds rfl rfl rfl rfl
                       · first
                         | refine st_move ?_
                         | refine st_assign ?_
                         | refine st_bin rfl ?_
                         | refine st_load rfl rfl rfl ?_
                         | refine st_ixp rfl rfl (by assumption) ?_
                         | refine st_fieldAddr rfl rfl rfl rfl rfl ?_
                         | refine st_pick rfl ?_
                         | refine st_nilCheck rfl ?_
                         | refine st_len_sl rfl rfl rfl ?_
                         | refine st_len_str rfl rfl rfl ?_
                         | refine st_eql rfl rfl (eq_pav _ _ _) ?_
                         | refine st_un rfl ?_
                         | refine st_field rfl rfl rfl rfl rfl ?_
                         exact nx rfl rfl ⟨rfl, rfl⟩)
                    | apply ds_skip rfl rfl
                    | refine ds_nil ?_)
                refine ds_guard rfl rfl rfl (fun _ => ?_) (fun hh => absurd (by simp; omega) hh)
                repeat' (first
                    | (apply ds rfl rfl rfl rfl
                       · first
                         | refine st_move ?_
                         | refine st_assign ?_
                         | refine st_bin rfl ?_
                         | refine st_load rfl rfl rfl ?_
                         | refine st_ixp rfl rfl (by assumption) ?_
                         | refine st_fieldAddr rfl rfl rfl rfl rfl ?_
                         | refine st_pick rfl ?_
                         | refine st_nilCheck rfl ?_
                         | refine st_len_sl rfl rfl rfl ?_
                         | refine st_len_str rfl rfl rfl ?_
                         | refine st_eql rfl rfl (eq_pav _ _ _) ?_
                         | refine st_un rfl ?_
                         | refine st_field rfl rfl rfl rfl rfl ?_
                         exact nx rfl rfl ⟨rfl, rfl⟩)
                    | apply ds_skip rfl rfl
                    | refine ds_nil ?_)
                refine ds_guard rfl rfl rfl (fun _ => ?_) (fun hh => absurd rfl hh)
                repeat' (first
                    | (apply ds rfl rfl rfl rfl
                       · first
                         | refine st_move ?_
                         | refine st_assign ?_
                         | refine st_bin rfl ?_
                         | refine st_load rfl rfl rfl ?_
                         | refine st_ixp rfl rfl (by assumption) ?_
                         | refine st_fieldAddr rfl rfl rfl rfl rfl ?_
                         | refine st_pick rfl ?_
                         | refine st_nilCheck rfl ?_
                         | refine st_len_sl rfl rfl rfl ?_
                         | refine st_len_str rfl rfl rfl ?_
                         | refine st_eql rfl rfl (eq_pav _ _ _) ?_
                         | refine st_un rfl ?_
                         | refine st_field rfl rfl rfl rfl rfl ?_
                         exact nx rfl rfl ⟨rfl, rfl⟩)
                    | apply ds_skip rfl rfl
                    | refine ds_nil ?_)
                refine ds_guardB rfl rfl rfl (fun _ => ?_) (fun hh => by rw [hE.1] at hh; cases hh)
                repeat' (first
                    | (apply ds rfl rfl rfl rfl
                       · first
                         | refine st_move ?_
                         | refine st_assign ?_
                         | refine st_bin rfl ?_
                         | refine st_load rfl rfl rfl ?_
                         | refine st_ixp rfl rfl (by assumption) ?_
                         | refine st_fieldAddr rfl rfl rfl rfl rfl ?_
                         | refine st_pick rfl ?_
                         | refine st_nilCheck rfl ?_
                         | refine st_len_sl rfl rfl rfl ?_
                         | refine st_len_str rfl rfl rfl ?_
                         | refine st_eql rfl rfl (eq_pav _ _ _) ?_
                         | refine st_un rfl ?_
                         | refine st_field rfl rfl rfl rfl rfl ?_
                         exact nx rfl rfl ⟨rfl, rfl⟩)
                    | apply ds_skip rfl rfl
                    | refine ds_nil ?_)
                refine awp_cond_dec rfl (fun _ => ?_) (fun hh => absurd (by show IntKind.i64.wrap (sum + q.len) ≤ most; rw [hw]; exact hE.2) hh)
                refine awp_seq ?_
                refine awp_region rfl ?_
                repeat' (first
                    | (refine bs rfl ?_
                       try
                         first
                         | refine st_move ?_
                         | refine st_assign ?_
                         | refine st_bin rfl ?_
                         | refine st_load rfl rfl rfl ?_
                         | refine st_ixp rfl rfl (by assumption) ?_
                         | refine st_fieldAddr rfl rfl rfl rfl rfl ?_
                         | refine st_pick rfl ?_
                         | refine st_nilCheck rfl ?_
                         | refine st_len_sl rfl rfl rfl ?_
                         | refine st_len_str rfl rfl rfl ?_
                         | refine st_extract rfl rfl ?_
                         | refine st_un rfl ?_
                         | refine st_min rfl rfl ?_
                         | refine st_max rfl rfl ?_
                         | refine st_conv rfl rfl rfl rfl ?_
                         | refine st_eql rfl rfl rfl ?_
                         | refine st_neq rfl rfl rfl ?_
                         | refine st_alloc rfl rfl ?_
                         | refine st_box rfl ?_
                         | refine st_field rfl rfl rfl rfl rfl ?_
                         | refine st_bld rfl rfl rfl rfl rfl rfl ?_
                         | refine st_bsl rfl rfl rfl rfl rfl rfl rfl (.inl rfl) rfl (.inl rfl) rfl rfl ?_
                         refine nx rfl rfl ?_)
                    | (refine bs0 rfl ?_
                       try
                         refine st_store_ptr rfl rfl rfl rfl rfl rfl rfl ?_
                         refine nx rfl rfl ?_)
                    | refine aops_nil ?_
                    | refine bskip rfl ?_
                    | refine bskip0 rfl ?_
                    | refine bguard rfl rfl (fun _ => ?_) (fun _ => ?_)
                    | refine bguardB rfl rfl (fun _ => ?_) (fun _ => ?_))
                refine awp_seq ?_
                refine awp_region rfl ?_
                repeat' (first
                    | (refine bs rfl ?_
                       try
                         first
                         | refine st_move ?_
                         | refine st_assign ?_
                         | refine st_bin rfl ?_
                         | refine st_load rfl rfl rfl ?_
                         | refine st_ixp rfl rfl (by assumption) ?_
                         | refine st_fieldAddr rfl rfl rfl rfl rfl ?_
                         | refine st_pick rfl ?_
                         | refine st_nilCheck rfl ?_
                         | refine st_len_sl rfl rfl rfl ?_
                         | refine st_len_str rfl rfl rfl ?_
                         | refine st_extract rfl rfl ?_
                         | refine st_un rfl ?_
                         | refine st_min rfl rfl ?_
                         | refine st_max rfl rfl ?_
                         | refine st_conv rfl rfl rfl rfl ?_
                         | refine st_eql rfl rfl rfl ?_
                         | refine st_neq rfl rfl rfl ?_
                         | refine st_alloc rfl rfl ?_
                         | refine st_box rfl ?_
                         | refine st_field rfl rfl rfl rfl rfl ?_
                         | refine st_bld rfl rfl rfl rfl rfl rfl ?_
                         | refine st_bsl rfl rfl rfl rfl rfl rfl rfl (.inl rfl) rfl (.inl rfl) rfl rfl ?_
                         refine nx rfl rfl ?_)
                    | (refine bs0 rfl ?_
                       try
                         refine st_store_ptr rfl rfl rfl rfl rfl rfl rfl ?_
                         refine nx rfl rfl ?_)
                    | refine aops_nil ?_
                    | refine bskip rfl ?_
                    | refine bskip0 rfl ?_
                    | refine bguard rfl rfl (fun _ => ?_) (fun _ => ?_)
                    | refine bguardB rfl rfl (fun _ => ?_) (fun _ => ?_))
                refine awp_exit ?_
                refine then_x ?_
                refine blk_x ?_
                refine awp_region rfl ?_
                repeat' (first
                    | (refine bs rfl ?_
                       try
                         first
                         | refine st_move ?_
                         | refine st_assign ?_
                         | refine st_bin rfl ?_
                         | refine st_load rfl rfl rfl ?_
                         | refine st_ixp rfl rfl (by assumption) ?_
                         | refine st_fieldAddr rfl rfl rfl rfl rfl ?_
                         | refine st_pick rfl ?_
                         | refine st_nilCheck rfl ?_
                         | refine st_len_sl rfl rfl rfl ?_
                         | refine st_len_str rfl rfl rfl ?_
                         | refine st_extract rfl rfl ?_
                         | refine st_un rfl ?_
                         | refine st_min rfl rfl ?_
                         | refine st_max rfl rfl ?_
                         | refine st_conv rfl rfl rfl rfl ?_
                         | refine st_eql rfl rfl rfl ?_
                         | refine st_neq rfl rfl rfl ?_
                         | refine st_alloc rfl rfl ?_
                         | refine st_box rfl ?_
                         | refine st_field rfl rfl rfl rfl rfl ?_
                         | refine st_bld rfl rfl rfl rfl rfl rfl ?_
                         | refine st_bsl rfl rfl rfl rfl rfl rfl rfl (.inl rfl) rfl (.inl rfl) rfl rfl ?_
                         refine nx rfl rfl ?_)
                    | (refine bs0 rfl ?_
                       try
                         refine st_store_ptr rfl rfl rfl rfl rfl rfl rfl ?_
                         refine nx rfl rfl ?_)
                    | refine aops_nil ?_
                    | refine bskip rfl ?_
                    | refine bskip0 rfl ?_
                    | refine bguard rfl rfl (fun _ => ?_) (fun _ => ?_)
                    | refine bguardB rfl rfl (fun _ => ?_) (fun _ => ?_))
                refine then_i ?_
                have h2 : (pick l most).drop (k + 1) = pick (l.drop (i + 1)) (most - (sum + q.len)) := by
                  have e1 : (pick l most).drop (k + 1) = ((pick l most).drop k).drop 1 := by rw [List.drop_drop]
                  rw [e1, h]
                  have e2 : most - sum - q.len = most - (sum + q.len) := by omega
                  rw [e2]; rfl
                refine ⟨⟨i + 1, sum + q.len, k + 1, by omega, by omega, hE.2, by omega, h2⟩, by show _ - (i + 1) < _ - i; omega, ?_⟩
                refine imp_tidy0 (fa_cons (ren_val2 rfl (ids_pav l)) (fa_cons (ren_val2 rfl trivial) (fa_cons (ren_val2 rfl (ids_pav (pick l most))) (fa_cons (ren_val2 ?_ trivial) (fa_cons (ren_val2 ?_ trivial) (fa_cons (ren_val2 rfl trivial) (fa_cons (ren_val2 ?_ trivial) fa_nil)))))))
                · show AV.int .i64 (IntKind.i64.wrap (sum + q.len)) = _
                  rw [hw]
                · show AV.int .i64 (IntKind.i64.wrap (k + 1)) = _
                  rw [wrap_in (by omega) (by omega)]; rfl
                · show AV.int .i64 (IntKind.i64.wrap (i + 1)) = _
                  rw [wrap_in (by omega) (by omega)]; rfl
              · have hy := pick_no (m := most - sum) hq (fun hh => hE ⟨hh.1, by omega⟩)
                rcases Nat.lt_or_ge k (pick l most).length with hkp | hkp
                · obtain ⟨p, hpk⟩ : ∃ p, (pick l most)[k]? = some p := ⟨_, List.getElem?_eq_getElem hkp⟩
                  repeat' (first
                      | (apply ds rfl rfl rfl rfl
                         · first
                           | refine st_move ?_
                           | refine st_assign ?_
                           | refine st_bin rfl ?_
                           | refine st_load rfl rfl rfl ?_
                           | refine st_ixp rfl rfl (by assumption) ?_
                           | refine st_fieldAddr rfl rfl rfl rfl rfl ?_
                           | refine st_pick rfl ?_
                           | refine st_nilCheck rfl ?_
                           | refine st_len_sl rfl rfl rfl ?_
                           | refine st_len_str rfl rfl rfl ?_
                           | refine st_eql rfl rfl (eq_pav _ _ _) ?_
                           | refine st_un rfl ?_
                           | refine st_field rfl rfl rfl rfl rfl ?_
                           exact nx rfl rfl ⟨rfl, rfl⟩)
                      | apply ds_skip rfl rfl
                      | refine ds_nil ?_)
                  refine ds_guard rfl rfl rfl (fun _ => ?_) (fun hh => absurd (by simp; omega) hh)
                  repeat' (first
                      | (apply ds rfl rfl rfl rfl
                         · first
                           | refine st_move ?_
                           | refine st_assign ?_
                           | refine st_bin rfl ?_
                           | refine st_load rfl rfl rfl ?_
                           | refine st_ixp rfl rfl (by assumption) ?_
                           | refine st_fieldAddr rfl rfl rfl rfl rfl ?_
                           | refine st_pick rfl ?_
                           | refine st_nilCheck rfl ?_
                           | refine st_len_sl rfl rfl rfl ?_
                           | refine st_len_str rfl rfl rfl ?_
                           | refine st_eql rfl rfl (eq_pav _ _ _) ?_
                           | refine st_un rfl ?_
                           | refine st_field rfl rfl rfl rfl rfl ?_
                           exact nx rfl rfl ⟨rfl, rfl⟩)
                      | apply ds_skip rfl rfl
                      | refine ds_nil ?_)
                  refine ds_guard rfl rfl rfl (fun he => ?_) (fun he => ?_)
                  · skip
                    repeat' (first
                        | (apply ds rfl rfl rfl rfl
                           · first
                             | refine st_move ?_
                             | refine st_assign ?_
                             | refine st_bin rfl ?_
                             | refine st_load rfl rfl rfl ?_
                             | refine st_ixp rfl rfl (by assumption) ?_
                             | refine st_fieldAddr rfl rfl rfl rfl rfl ?_
                             | refine st_pick rfl ?_
                             | refine st_nilCheck rfl ?_
                             | refine st_len_sl rfl rfl rfl ?_
                             | refine st_len_str rfl rfl rfl ?_
                             | refine st_eql rfl rfl (eq_pav _ _ _) ?_
                             | refine st_un rfl ?_
                             | refine st_field rfl rfl rfl rfl rfl ?_
                             exact nx rfl rfl ⟨rfl, rfl⟩)
                        | apply ds_skip rfl rfl
                        | refine ds_nil ?_)
                    refine ds_guardB rfl rfl rfl (fun hh => ?_) (fun hh => ?_)
                    · skip
                      repeat' (first
                          | (apply ds rfl rfl rfl rfl
                             · first
                               | refine st_move ?_
                               | refine st_assign ?_
                               | refine st_bin rfl ?_
                               | refine st_load rfl rfl rfl ?_
                               | refine st_ixp rfl rfl (by assumption) ?_
                               | refine st_fieldAddr rfl rfl rfl rfl rfl ?_
                               | refine st_pick rfl ?_
                               | refine st_nilCheck rfl ?_
                               | refine st_len_sl rfl rfl rfl ?_
                               | refine st_len_str rfl rfl rfl ?_
                               | refine st_eql rfl rfl (eq_pav _ _ _) ?_
                               | refine st_un rfl ?_
                               | refine st_field rfl rfl rfl rfl rfl ?_
                               exact nx rfl rfl ⟨rfl, rfl⟩)
                          | apply ds_skip rfl rfl
                          | refine ds_nil ?_)
                      refine awp_cond_dec rfl (fun hf => absurd ⟨hh, by rw [← hw]; exact hf⟩ hE) (fun _ => ?_)
                      refine awp_skip ?_
                      refine awp_seq ?_
                      refine awp_region rfl ?_
                      repeat' (first
                          | (refine bs rfl ?_
                             try
                               first
                               | refine st_move ?_
                               | refine st_assign ?_
                               | refine st_bin rfl ?_
                               | refine st_load rfl rfl rfl ?_
                               | refine st_ixp rfl rfl (by assumption) ?_
                               | refine st_fieldAddr rfl rfl rfl rfl rfl ?_
                               | refine st_pick rfl ?_
                               | refine st_nilCheck rfl ?_
                               | refine st_len_sl rfl rfl rfl ?_
                               | refine st_len_str rfl rfl rfl ?_
                               | refine st_extract rfl rfl ?_
                               | refine st_un rfl ?_
                               | refine st_min rfl rfl ?_
                               | refine st_max rfl rfl ?_
                               | refine st_conv rfl rfl rfl rfl ?_
                               | refine st_eql rfl rfl rfl ?_
                               | refine st_neq rfl rfl rfl ?_
                               | refine st_alloc rfl rfl ?_
                               | refine st_box rfl ?_
                               | refine st_field rfl rfl rfl rfl rfl ?_
                               | refine st_bld rfl rfl rfl rfl rfl rfl ?_
                               | refine st_bsl rfl rfl rfl rfl rfl rfl rfl (.inl rfl) rfl (.inl rfl) rfl rfl ?_
                               refine nx rfl rfl ?_)
                          | (refine bs0 rfl ?_
                             try
                               refine st_store_ptr rfl rfl rfl rfl rfl rfl rfl ?_
                               refine nx rfl rfl ?_)
                          | refine aops_nil ?_
                          | refine bskip rfl ?_
                          | refine bskip0 rfl ?_
                          | refine bguard rfl rfl (fun _ => ?_) (fun _ => ?_)
                          | refine bguardB rfl rfl (fun _ => ?_) (fun _ => ?_))
                      · rename_i hh2
                        refine awp_cond_dec rfl (fun hf => absurd ⟨hh2, by rw [← hw]; exact hf⟩ hE) (fun _ => ?_)
                        refine awp_skip ?_
                        refine awp_region rfl ?_
                        repeat' (first
                            | (refine bs rfl ?_
                               try
                                 first
                                 | refine st_move ?_
                                 | refine st_assign ?_
                                 | refine st_bin rfl ?_
                                 | refine st_load rfl rfl rfl ?_
                                 | refine st_ixp rfl rfl (by assumption) ?_
                                 | refine st_fieldAddr rfl rfl rfl rfl rfl ?_
                                 | refine st_pick rfl ?_
                                 | refine st_nilCheck rfl ?_
                                 | refine st_len_sl rfl rfl rfl ?_
                                 | refine st_len_str rfl rfl rfl ?_
                                 | refine st_extract rfl rfl ?_
                                 | refine st_un rfl ?_
                                 | refine st_min rfl rfl ?_
                                 | refine st_max rfl rfl ?_
                                 | refine st_conv rfl rfl rfl rfl ?_
                                 | refine st_eql rfl rfl rfl ?_
                                 | refine st_neq rfl rfl rfl ?_
                                 | refine st_alloc rfl rfl ?_
                                 | refine st_box rfl ?_
                                 | refine st_field rfl rfl rfl rfl rfl ?_
                                 | refine st_bld rfl rfl rfl rfl rfl rfl ?_
                                 | refine st_bsl rfl rfl rfl rfl rfl rfl rfl (.inl rfl) rfl (.inl rfl) rfl rfl ?_
                                 refine nx rfl rfl ?_)
                            | (refine bs0 rfl ?_
                               try
                                 refine st_store_ptr rfl rfl rfl rfl rfl rfl rfl ?_
                                 refine nx rfl rfl ?_)
                            | refine aops_nil ?_
                            | refine bskip rfl ?_
                            | refine bskip0 rfl ?_
                            | refine bguard rfl rfl (fun _ => ?_) (fun _ => ?_)
                            | refine bguardB rfl rfl (fun _ => ?_) (fun _ => ?_))
                        refine then_i ?_
                        refine ⟨⟨i + 1, sum, k, by omega, h0, hs, hk, by rw [h, hy]⟩, by show _ - (i + 1) < _ - i; omega, ?_⟩
                        refine imp_tidy0 (fa_cons (ren_val2 rfl (ids_pav l)) (fa_cons (ren_val2 rfl trivial) (fa_cons (ren_val2 rfl (ids_pav (pick l most))) (fa_cons (ren_val2 rfl trivial) (fa_cons (ren_val2 rfl trivial) (fa_cons (ren_val2 rfl trivial) (fa_cons (ren_val2 ?_ trivial) fa_nil)))))))
                        show AV.int .i64 (IntKind.i64.wrap (i + 1)) = _
                        rw [wrap_in (by omega) (by omega)]; rfl
                      · refine awp_cond_false rfl ?_
                        refine awp_skip ?_
                        refine awp_region rfl ?_
                        repeat' (first
                            | (refine bs rfl ?_
                               try
                                 first
                                 | refine st_move ?_
                                 | refine st_assign ?_
                                 | refine st_bin rfl ?_
                                 | refine st_load rfl rfl rfl ?_
                                 | refine st_ixp rfl rfl (by assumption) ?_
                                 | refine st_fieldAddr rfl rfl rfl rfl rfl ?_
                                 | refine st_pick rfl ?_
                                 | refine st_nilCheck rfl ?_
                                 | refine st_len_sl rfl rfl rfl ?_
                                 | refine st_len_str rfl rfl rfl ?_
                                 | refine st_extract rfl rfl ?_
                                 | refine st_un rfl ?_
                                 | refine st_min rfl rfl ?_
                                 | refine st_max rfl rfl ?_
                                 | refine st_conv rfl rfl rfl rfl ?_
                                 | refine st_eql rfl rfl rfl ?_
                                 | refine st_neq rfl rfl rfl ?_
                                 | refine st_alloc rfl rfl ?_
                                 | refine st_box rfl ?_
                                 | refine st_field rfl rfl rfl rfl rfl ?_
                                 | refine st_bld rfl rfl rfl rfl rfl rfl ?_
                                 | refine st_bsl rfl rfl rfl rfl rfl rfl rfl (.inl rfl) rfl (.inl rfl) rfl rfl ?_
                                 refine nx rfl rfl ?_)
                            | (refine bs0 rfl ?_
                               try
                                 refine st_store_ptr rfl rfl rfl rfl rfl rfl rfl ?_
                                 refine nx rfl rfl ?_)
                            | refine aops_nil ?_
                            | refine bskip rfl ?_
                            | refine bskip0 rfl ?_
                            | refine bguard rfl rfl (fun _ => ?_) (fun _ => ?_)
                            | refine bguardB rfl rfl (fun _ => ?_) (fun _ => ?_))
                        refine then_i ?_
                        refine ⟨⟨i + 1, sum, k, by omega, h0, hs, hk, by rw [h, hy]⟩, by show _ - (i + 1) < _ - i; omega, ?_⟩
                        refine imp_tidy0 (fa_cons (ren_val2 rfl (ids_pav l)) (fa_cons (ren_val2 rfl trivial) (fa_cons (ren_val2 rfl (ids_pav (pick l most))) (fa_cons (ren_val2 rfl trivial) (fa_cons (ren_val2 rfl trivial) (fa_cons (ren_val2 rfl trivial) (fa_cons (ren_val2 ?_ trivial) fa_nil)))))))
                        show AV.int .i64 (IntKind.i64.wrap (i + 1)) = _
                        rw [wrap_in (by omega) (by omega)]; rfl
                    · skip
                      repeat' (first
                          | (apply ds rfl rfl rfl rfl
                             · first
                               | refine st_move ?_
                               | refine st_assign ?_
                               | refine st_bin rfl ?_
                               | refine st_load rfl rfl rfl ?_
                               | refine st_ixp rfl rfl (by assumption) ?_
                               | refine st_fieldAddr rfl rfl rfl rfl rfl ?_
                               | refine st_pick rfl ?_
                               | refine st_nilCheck rfl ?_
                               | refine st_len_sl rfl rfl rfl ?_
                               | refine st_len_str rfl rfl rfl ?_
                               | refine st_eql rfl rfl (eq_pav _ _ _) ?_
                               | refine st_un rfl ?_
                               | refine st_field rfl rfl rfl rfl rfl ?_
                               exact nx rfl rfl ⟨rfl, rfl⟩)
                          | apply ds_skip rfl rfl
                          | refine ds_nil ?_)
                      refine awp_cond_false rfl ?_
                      refine awp_skip ?_
                      refine awp_seq ?_
                      refine awp_region rfl ?_
                      repeat' (first
                          | (refine bs rfl ?_
                             try
                               first
                               | refine st_move ?_
                               | refine st_assign ?_
                               | refine st_bin rfl ?_
                               | refine st_load rfl rfl rfl ?_
                               | refine st_ixp rfl rfl (by assumption) ?_
                               | refine st_fieldAddr rfl rfl rfl rfl rfl ?_
                               | refine st_pick rfl ?_
                               | refine st_nilCheck rfl ?_
                               | refine st_len_sl rfl rfl rfl ?_
                               | refine st_len_str rfl rfl rfl ?_
                               | refine st_extract rfl rfl ?_
                               | refine st_un rfl ?_
                               | refine st_min rfl rfl ?_
                               | refine st_max rfl rfl ?_
                               | refine st_conv rfl rfl rfl rfl ?_
                               | refine st_eql rfl rfl rfl ?_
                               | refine st_neq rfl rfl rfl ?_
                               | refine st_alloc rfl rfl ?_
                               | refine st_box rfl ?_
                               | refine st_field rfl rfl rfl rfl rfl ?_
                               | refine st_bld rfl rfl rfl rfl rfl rfl ?_
                               | refine st_bsl rfl rfl rfl rfl rfl rfl rfl (.inl rfl) rfl (.inl rfl) rfl rfl ?_
                               refine nx rfl rfl ?_)
                          | (refine bs0 rfl ?_
                             try
                               refine st_store_ptr rfl rfl rfl rfl rfl rfl rfl ?_
                               refine nx rfl rfl ?_)
                          | refine aops_nil ?_
                          | refine bskip rfl ?_
                          | refine bskip0 rfl ?_
                          | refine bguard rfl rfl (fun _ => ?_) (fun _ => ?_)
                          | refine bguardB rfl rfl (fun _ => ?_) (fun _ => ?_))
                      · rename_i hh2
                        refine awp_cond_dec rfl (fun hf => absurd ⟨hh2, by rw [← hw]; exact hf⟩ hE) (fun _ => ?_)
                        refine awp_skip ?_
                        refine awp_region rfl ?_
                        repeat' (first
                            | (refine bs rfl ?_
                               try
                                 first
                                 | refine st_move ?_
                                 | refine st_assign ?_
                                 | refine st_bin rfl ?_
                                 | refine st_load rfl rfl rfl ?_
                                 | refine st_ixp rfl rfl (by assumption) ?_
                                 | refine st_fieldAddr rfl rfl rfl rfl rfl ?_
                                 | refine st_pick rfl ?_
                                 | refine st_nilCheck rfl ?_
                                 | refine st_len_sl rfl rfl rfl ?_
                                 | refine st_len_str rfl rfl rfl ?_
                                 | refine st_extract rfl rfl ?_
                                 | refine st_un rfl ?_
                                 | refine st_min rfl rfl ?_
                                 | refine st_max rfl rfl ?_
                                 | refine st_conv rfl rfl rfl rfl ?_
                                 | refine st_eql rfl rfl rfl ?_
                                 | refine st_neq rfl rfl rfl ?_
                                 | refine st_alloc rfl rfl ?_
                                 | refine st_box rfl ?_
                                 | refine st_field rfl rfl rfl rfl rfl ?_
                                 | refine st_bld rfl rfl rfl rfl rfl rfl ?_
                                 | refine st_bsl rfl rfl rfl rfl rfl rfl rfl (.inl rfl) rfl (.inl rfl) rfl rfl ?_
                                 refine nx rfl rfl ?_)
                            | (refine bs0 rfl ?_
                               try
                                 refine st_store_ptr rfl rfl rfl rfl rfl rfl rfl ?_
                                 refine nx rfl rfl ?_)
                            | refine aops_nil ?_
                            | refine bskip rfl ?_
                            | refine bskip0 rfl ?_
                            | refine bguard rfl rfl (fun _ => ?_) (fun _ => ?_)
                            | refine bguardB rfl rfl (fun _ => ?_) (fun _ => ?_))
                        refine then_i ?_
                        refine ⟨⟨i + 1, sum, k, by omega, h0, hs, hk, by rw [h, hy]⟩, by show _ - (i + 1) < _ - i; omega, ?_⟩
                        refine imp_tidy0 (fa_cons (ren_val2 rfl (ids_pav l)) (fa_cons (ren_val2 rfl trivial) (fa_cons (ren_val2 rfl (ids_pav (pick l most))) (fa_cons (ren_val2 rfl trivial) (fa_cons (ren_val2 rfl trivial) (fa_cons (ren_val2 rfl trivial) (fa_cons (ren_val2 ?_ trivial) fa_nil)))))))
                        show AV.int .i64 (IntKind.i64.wrap (i + 1)) = _
                        rw [wrap_in (by omega) (by omega)]; rfl
                      · refine awp_cond_false rfl ?_
                        refine awp_skip ?_
                        refine awp_region rfl ?_
                        repeat' (first
                            | (refine bs rfl ?_
                               try
                                 first
                                 | refine st_move ?_
                                 | refine st_assign ?_
                                 | refine st_bin rfl ?_
                                 | refine st_load rfl rfl rfl ?_
                                 | refine st_ixp rfl rfl (by assumption) ?_
                                 | refine st_fieldAddr rfl rfl rfl rfl rfl ?_
                                 | refine st_pick rfl ?_
                                 | refine st_nilCheck rfl ?_
                                 | refine st_len_sl rfl rfl rfl ?_
                                 | refine st_len_str rfl rfl rfl ?_
                                 | refine st_extract rfl rfl ?_
                                 | refine st_un rfl ?_
                                 | refine st_min rfl rfl ?_
                                 | refine st_max rfl rfl ?_
                                 | refine st_conv rfl rfl rfl rfl ?_
                                 | refine st_eql rfl rfl rfl ?_
                                 | refine st_neq rfl rfl rfl ?_
                                 | refine st_alloc rfl rfl ?_
                                 | refine st_box rfl ?_
                                 | refine st_field rfl rfl rfl rfl rfl ?_
                                 | refine st_bld rfl rfl rfl rfl rfl rfl ?_
                                 | refine st_bsl rfl rfl rfl rfl rfl rfl rfl (.inl rfl) rfl (.inl rfl) rfl rfl ?_
                                 refine nx rfl rfl ?_)
                            | (refine bs0 rfl ?_
                               try
                                 refine st_store_ptr rfl rfl rfl rfl rfl rfl rfl ?_
                                 refine nx rfl rfl ?_)
                            | refine aops_nil ?_
                            | refine bskip rfl ?_
                            | refine bskip0 rfl ?_
                            | refine bguard rfl rfl (fun _ => ?_) (fun _ => ?_)
                            | refine bguardB rfl rfl (fun _ => ?_) (fun _ => ?_))
                        refine then_i ?_
                        refine ⟨⟨i + 1, sum, k, by omega, h0, hs, hk, by rw [h, hy]⟩, by show _ - (i + 1) < _ - i; omega, ?_⟩
                        refine imp_tidy0 (fa_cons (ren_val2 rfl (ids_pav l)) (fa_cons (ren_val2 rfl trivial) (fa_cons (ren_val2 rfl (ids_pav (pick l most))) (fa_cons (ren_val2 rfl trivial) (fa_cons (ren_val2 rfl trivial) (fa_cons (ren_val2 rfl trivial) (fa_cons (ren_val2 ?_ trivial) fa_nil)))))))
                        show AV.int .i64 (IntKind.i64.wrap (i + 1)) = _
                        rw [wrap_in (by omega) (by omega)]; rfl
                  · skip
                    repeat' (first
                        | (apply ds rfl rfl rfl rfl
                           · first
                             | refine st_move ?_
                             | refine st_assign ?_
                             | refine st_bin rfl ?_
                             | refine st_load rfl rfl rfl ?_
                             | refine st_ixp rfl rfl (by assumption) ?_
                             | refine st_fieldAddr rfl rfl rfl rfl rfl ?_
                             | refine st_pick rfl ?_
                             | refine st_nilCheck rfl ?_
                             | refine st_len_sl rfl rfl rfl ?_
                             | refine st_len_str rfl rfl rfl ?_
                             | refine st_eql rfl rfl (eq_pav _ _ _) ?_
                             | refine st_un rfl ?_
                             | refine st_field rfl rfl rfl rfl rfl ?_
                             exact nx rfl rfl ⟨rfl, rfl⟩)
                        | apply ds_skip rfl rfl
                        | refine ds_nil ?_)
                    refine awp_cond_false rfl ?_
                    refine awp_skip ?_
                    refine awp_seq ?_
                    refine awp_region rfl ?_
                    repeat' (first
                        | (refine bs rfl ?_
                           try
                             first
                             | refine st_move ?_
                             | refine st_assign ?_
                             | refine st_bin rfl ?_
                             | refine st_load rfl rfl rfl ?_
                             | refine st_ixp rfl rfl (by assumption) ?_
                             | refine st_fieldAddr rfl rfl rfl rfl rfl ?_
                             | refine st_pick rfl ?_
                             | refine st_nilCheck rfl ?_
                             | refine st_len_sl rfl rfl rfl ?_
                             | refine st_len_str rfl rfl rfl ?_
                             | refine st_extract rfl rfl ?_
                             | refine st_un rfl ?_
                             | refine st_min rfl rfl ?_
                             | refine st_max rfl rfl ?_
                             | refine st_conv rfl rfl rfl rfl ?_
                             | refine st_eql rfl rfl rfl ?_
                             | refine st_neq rfl rfl rfl ?_
                             | refine st_alloc rfl rfl ?_
                             | refine st_box rfl ?_
                             | refine st_field rfl rfl rfl rfl rfl ?_
                             | refine st_bld rfl rfl rfl rfl rfl rfl ?_
                             | refine st_bsl rfl rfl rfl rfl rfl rfl rfl (.inl rfl) rfl (.inl rfl) rfl rfl ?_
                             refine nx rfl rfl ?_)
                        | (refine bs0 rfl ?_
                           try
                             refine st_store_ptr rfl rfl rfl rfl rfl rfl rfl ?_
                             refine nx rfl rfl ?_)
                        | refine aops_nil ?_
                        | refine bskip rfl ?_
                        | refine bskip0 rfl ?_
                        | refine bguard rfl rfl (fun _ => ?_) (fun _ => ?_)
                        | refine bguardB rfl rfl (fun _ => ?_) (fun _ => ?_))
                    · rename_i hh2
                      refine awp_cond_dec rfl (fun hf => absurd ⟨hh2, by rw [← hw]; exact hf⟩ hE) (fun _ => ?_)
                      refine awp_skip ?_
                      refine awp_region rfl ?_
                      repeat' (first
                          | (refine bs rfl ?_
                             try
                               first
                               | refine st_move ?_
                               | refine st_assign ?_
                               | refine st_bin rfl ?_
                               | refine st_load rfl rfl rfl ?_
                               | refine st_ixp rfl rfl (by assumption) ?_
                               | refine st_fieldAddr rfl rfl rfl rfl rfl ?_
                               | refine st_pick rfl ?_
                               | refine st_nilCheck rfl ?_
                               | refine st_len_sl rfl rfl rfl ?_
                               | refine st_len_str rfl rfl rfl ?_
                               | refine st_extract rfl rfl ?_
                               | refine st_un rfl ?_
                               | refine st_min rfl rfl ?_
                               | refine st_max rfl rfl ?_
                               | refine st_conv rfl rfl rfl rfl ?_
                               | refine st_eql rfl rfl rfl ?_
                               | refine st_neq rfl rfl rfl ?_
                               | refine st_alloc rfl rfl ?_
                               | refine st_box rfl ?_
                               | refine st_field rfl rfl rfl rfl rfl ?_
                               | refine st_bld rfl rfl rfl rfl rfl rfl ?_
                               | refine st_bsl rfl rfl rfl rfl rfl rfl rfl (.inl rfl) rfl (.inl rfl) rfl rfl ?_
                               refine nx rfl rfl ?_)
                          | (refine bs0 rfl ?_
                             try
                               refine st_store_ptr rfl rfl rfl rfl rfl rfl rfl ?_
                               refine nx rfl rfl ?_)
                          | refine aops_nil ?_
                          | refine bskip rfl ?_
                          | refine bskip0 rfl ?_
                          | refine bguard rfl rfl (fun _ => ?_) (fun _ => ?_)
                          | refine bguardB rfl rfl (fun _ => ?_) (fun _ => ?_))
                      refine then_i ?_
                      refine ⟨⟨i + 1, sum, k, by omega, h0, hs, hk, by rw [h, hy]⟩, by show _ - (i + 1) < _ - i; omega, ?_⟩
                      refine imp_tidy0 (fa_cons (ren_val2 rfl (ids_pav l)) (fa_cons (ren_val2 rfl trivial) (fa_cons (ren_val2 rfl (ids_pav (pick l most))) (fa_cons (ren_val2 rfl trivial) (fa_cons (ren_val2 rfl trivial) (fa_cons (ren_val2 rfl trivial) (fa_cons (ren_val2 ?_ trivial) fa_nil)))))))
                      show AV.int .i64 (IntKind.i64.wrap (i + 1)) = _
                      rw [wrap_in (by omega) (by omega)]; rfl
                    · refine awp_cond_false rfl ?_
                      refine awp_skip ?_
                      refine awp_region rfl ?_
                      repeat' (first
                          | (refine bs rfl ?_
                             try
                               first
                               | refine st_move ?_
                               | refine st_assign ?_
                               | refine st_bin rfl ?_
                               | refine st_load rfl rfl rfl ?_
                               | refine st_ixp rfl rfl (by assumption) ?_
                               | refine st_fieldAddr rfl rfl rfl rfl rfl ?_
                               | refine st_pick rfl ?_
                               | refine st_nilCheck rfl ?_
                               | refine st_len_sl rfl rfl rfl ?_
                               | refine st_len_str rfl rfl rfl ?_
                               | refine st_extract rfl rfl ?_
                               | refine st_un rfl ?_
                               | refine st_min rfl rfl ?_
                               | refine st_max rfl rfl ?_
                               | refine st_conv rfl rfl rfl rfl ?_
                               | refine st_eql rfl rfl rfl ?_
                               | refine st_neq rfl rfl rfl ?_
                               | refine st_alloc rfl rfl ?_
                               | refine st_box rfl ?_
                               | refine st_field rfl rfl rfl rfl rfl ?_
                               | refine st_bld rfl rfl rfl rfl rfl rfl ?_
                               | refine st_bsl rfl rfl rfl rfl rfl rfl rfl (.inl rfl) rfl (.inl rfl) rfl rfl ?_
                               refine nx rfl rfl ?_)
                          | (refine bs0 rfl ?_
                             try
                               refine st_store_ptr rfl rfl rfl rfl rfl rfl rfl ?_
                               refine nx rfl rfl ?_)
                          | refine aops_nil ?_
                          | refine bskip rfl ?_
                          | refine bskip0 rfl ?_
                          | refine bguard rfl rfl (fun _ => ?_) (fun _ => ?_)
                          | refine bguardB rfl rfl (fun _ => ?_) (fun _ => ?_))
                      refine then_i ?_
                      refine ⟨⟨i + 1, sum, k, by omega, h0, hs, hk, by rw [h, hy]⟩, by show _ - (i + 1) < _ - i; omega, ?_⟩
                      refine imp_tidy0 (fa_cons (ren_val2 rfl (ids_pav l)) (fa_cons (ren_val2 rfl trivial) (fa_cons (ren_val2 rfl (ids_pav (pick l most))) (fa_cons (ren_val2 rfl trivial) (fa_cons (ren_val2 rfl trivial) (fa_cons (ren_val2 rfl trivial) (fa_cons (ren_val2 ?_ trivial) fa_nil)))))))
                      show AV.int .i64 (IntKind.i64.wrap (i + 1)) = _
                      rw [wrap_in (by omega) (by omega)]; rfl
                · skip
                  repeat' (first
                      | (apply ds rfl rfl rfl rfl
                         · first
                           | refine st_move ?_
                           | refine st_assign ?_
                           | refine st_bin rfl ?_
                           | refine st_load rfl rfl rfl ?_
                           | refine st_ixp rfl rfl (by assumption) ?_
                           | refine st_fieldAddr rfl rfl rfl rfl rfl ?_
                           | refine st_pick rfl ?_
                           | refine st_nilCheck rfl ?_
                           | refine st_len_sl rfl rfl rfl ?_
                           | refine st_len_str rfl rfl rfl ?_
                           | refine st_eql rfl rfl (eq_pav _ _ _) ?_
                           | refine st_un rfl ?_
                           | refine st_field rfl rfl rfl rfl rfl ?_
                           exact nx rfl rfl ⟨rfl, rfl⟩)
                      | apply ds_skip rfl rfl
                      | refine ds_nil ?_)
                  refine ds_guard rfl rfl rfl (fun hh => absurd hh (by simp; omega)) (fun _ => ?_)
                  repeat' (first
                      | (apply ds rfl rfl rfl rfl
                         · first
                           | refine st_move ?_
                           | refine st_assign ?_
                           | refine st_bin rfl ?_
                           | refine st_load rfl rfl rfl ?_
                           | refine st_ixp rfl rfl (by assumption) ?_
                           | refine st_fieldAddr rfl rfl rfl rfl rfl ?_
                           | refine st_pick rfl ?_
                           | refine st_nilCheck rfl ?_
                           | refine st_len_sl rfl rfl rfl ?_
                           | refine st_len_str rfl rfl rfl ?_
                           | refine st_eql rfl rfl (eq_pav _ _ _) ?_
                           | refine st_un rfl ?_
                           | refine st_field rfl rfl rfl rfl rfl ?_
                           exact nx rfl rfl ⟨rfl, rfl⟩)
                      | apply ds_skip rfl rfl
                      | refine ds_nil ?_)
                  refine awp_cond_false rfl ?_
                  refine awp_skip ?_
                  refine awp_seq ?_
                  refine awp_region rfl ?_
                  repeat' (first
                      | (refine bs rfl ?_
                         try
                           first
                           | refine st_move ?_
                           | refine st_assign ?_
                           | refine st_bin rfl ?_
                           | refine st_load rfl rfl rfl ?_
                           | refine st_ixp rfl rfl (by assumption) ?_
                           | refine st_fieldAddr rfl rfl rfl rfl rfl ?_
                           | refine st_pick rfl ?_
                           | refine st_nilCheck rfl ?_
                           | refine st_len_sl rfl rfl rfl ?_
                           | refine st_len_str rfl rfl rfl ?_
                           | refine st_extract rfl rfl ?_
                           | refine st_un rfl ?_
                           | refine st_min rfl rfl ?_
                           | refine st_max rfl rfl ?_
                           | refine st_conv rfl rfl rfl rfl ?_
                           | refine st_eql rfl rfl rfl ?_
                           | refine st_neq rfl rfl rfl ?_
                           | refine st_alloc rfl rfl ?_
                           | refine st_box rfl ?_
                           | refine st_field rfl rfl rfl rfl rfl ?_
                           | refine st_bld rfl rfl rfl rfl rfl rfl ?_
                           | refine st_bsl rfl rfl rfl rfl rfl rfl rfl (.inl rfl) rfl (.inl rfl) rfl rfl ?_
                           refine nx rfl rfl ?_)
                      | (refine bs0 rfl ?_
                         try
                           refine st_store_ptr rfl rfl rfl rfl rfl rfl rfl ?_
                           refine nx rfl rfl ?_)
                      | refine aops_nil ?_
                      | refine bskip rfl ?_
                      | refine bskip0 rfl ?_
                      | refine bguard rfl rfl (fun _ => ?_) (fun _ => ?_)
                      | refine bguardB rfl rfl (fun _ => ?_) (fun _ => ?_))
                  · rename_i hh2
                    refine awp_cond_dec rfl (fun hf => absurd ⟨hh2, by rw [← hw]; exact hf⟩ hE) (fun _ => ?_)
                    refine awp_skip ?_
                    refine awp_region rfl ?_
                    repeat' (first
                        | (refine bs rfl ?_
                           try
                             first
                             | refine st_move ?_
                             | refine st_assign ?_
                             | refine st_bin rfl ?_
                             | refine st_load rfl rfl rfl ?_
                             | refine st_ixp rfl rfl (by assumption) ?_
                             | refine st_fieldAddr rfl rfl rfl rfl rfl ?_
                             | refine st_pick rfl ?_
                             | refine st_nilCheck rfl ?_
                             | refine st_len_sl rfl rfl rfl ?_
                             | refine st_len_str rfl rfl rfl ?_
                             | refine st_extract rfl rfl ?_
                             | refine st_un rfl ?_
                             | refine st_min rfl rfl ?_
                             | refine st_max rfl rfl ?_
                             | refine st_conv rfl rfl rfl rfl ?_
                             | refine st_eql rfl rfl rfl ?_
                             | refine st_neq rfl rfl rfl ?_
                             | refine st_alloc rfl rfl ?_
                             | refine st_box rfl ?_
                             | refine st_field rfl rfl rfl rfl rfl ?_
                             | refine st_bld rfl rfl rfl rfl rfl rfl ?_
                             | refine st_bsl rfl rfl rfl rfl rfl rfl rfl (.inl rfl) rfl (.inl rfl) rfl rfl ?_
                             refine nx rfl rfl ?_)
                        | (refine bs0 rfl ?_
                           try
                             refine st_store_ptr rfl rfl rfl rfl rfl rfl rfl ?_
                             refine nx rfl rfl ?_)
                        | refine aops_nil ?_
                        | refine bskip rfl ?_
                        | refine bskip0 rfl ?_
                        | refine bguard rfl rfl (fun _ => ?_) (fun _ => ?_)
                        | refine bguardB rfl rfl (fun _ => ?_) (fun _ => ?_))
                    refine then_i ?_
                    refine ⟨⟨i + 1, sum, k, by omega, h0, hs, hk, by rw [h, hy]⟩, by show _ - (i + 1) < _ - i; omega, ?_⟩
                    refine imp_tidy0 (fa_cons (ren_val2 rfl (ids_pav l)) (fa_cons (ren_val2 rfl trivial) (fa_cons (ren_val2 rfl (ids_pav (pick l most))) (fa_cons (ren_val2 rfl trivial) (fa_cons (ren_val2 rfl trivial) (fa_cons (ren_val2 rfl trivial) (fa_cons (ren_val2 ?_ trivial) fa_nil)))))))
                    show AV.int .i64 (IntKind.i64.wrap (i + 1)) = _
                    rw [wrap_in (by omega) (by omega)]; rfl
                  · refine awp_cond_false rfl ?_
                    refine awp_skip ?_
                    refine awp_region rfl ?_
                    repeat' (first
                        | (refine bs rfl ?_
                           try
                             first
                             | refine st_move ?_
                             | refine st_assign ?_
                             | refine st_bin rfl ?_
                             | refine st_load rfl rfl rfl ?_
                             | refine st_ixp rfl rfl (by assumption) ?_
                             | refine st_fieldAddr rfl rfl rfl rfl rfl ?_
                             | refine st_pick rfl ?_
                             | refine st_nilCheck rfl ?_
                             | refine st_len_sl rfl rfl rfl ?_
                             | refine st_len_str rfl rfl rfl ?_
                             | refine st_extract rfl rfl ?_
                             | refine st_un rfl ?_
                             | refine st_min rfl rfl ?_
                             | refine st_max rfl rfl ?_
                             | refine st_conv rfl rfl rfl rfl ?_
                             | refine st_eql rfl rfl rfl ?_
                             | refine st_neq rfl rfl rfl ?_
                             | refine st_alloc rfl rfl ?_
                             | refine st_box rfl ?_
                             | refine st_field rfl rfl rfl rfl rfl ?_
                             | refine st_bld rfl rfl rfl rfl rfl rfl ?_
                             | refine st_bsl rfl rfl rfl rfl rfl rfl rfl (.inl rfl) rfl (.inl rfl) rfl rfl ?_
                             refine nx rfl rfl ?_)
                        | (refine bs0 rfl ?_
                           try
                             refine st_store_ptr rfl rfl rfl rfl rfl rfl rfl ?_
                             refine nx rfl rfl ?_)
                        | refine aops_nil ?_
                        | refine bskip rfl ?_
                        | refine bskip0 rfl ?_
                        | refine bguard rfl rfl (fun _ => ?_) (fun _ => ?_)
                        | refine bguardB rfl rfl (fun _ => ?_) (fun _ => ?_))
                    refine then_i ?_
                    refine ⟨⟨i + 1, sum, k, by omega, h0, hs, hk, by rw [h, hy]⟩, by show _ - (i + 1) < _ - i; omega, ?_⟩
                    refine imp_tidy0 (fa_cons (ren_val2 rfl (ids_pav l)) (fa_cons (ren_val2 rfl trivial) (fa_cons (ren_val2 rfl (ids_pav (pick l most))) (fa_cons (ren_val2 rfl trivial) (fa_cons (ren_val2 rfl trivial) (fa_cons (ren_val2 rfl trivial) (fa_cons (ren_val2 ?_ trivial) fa_nil)))))))
                    show AV.int .i64 (IntKind.i64.wrap (i + 1)) = _
                    rw [wrap_in (by omega) (by omega)]; rfl
            · have hil : i = l.length := by
                have : ¬ (i < l.length) := fun hh => hge (by exact_mod_cast hh)
                omega
              have hkp : k = (pick l most).length := by
                have h2 : (pick l most).drop k = [] := by rw [h, hil]; simp [pick]
                have := List.drop_eq_nil_iff.1 h2
                omega
              refine awp_exit ?_
              refine then_x ?_
              refine then_x ?_
              refine blk_x ?_
              refine awp_seq ?_
              refine awp_region rfl ?_
              repeat' (first
                  | (refine bs rfl ?_
                     try
                       first
                       | refine st_move ?_
                       | refine st_assign ?_
                       | refine st_bin rfl ?_
                       | refine st_load rfl rfl rfl ?_
                       | refine st_ixp rfl rfl (by assumption) ?_
                       | refine st_fieldAddr rfl rfl rfl rfl rfl ?_
                       | refine st_pick rfl ?_
                       | refine st_nilCheck rfl ?_
                       | refine st_len_sl rfl rfl rfl ?_
                       | refine st_len_str rfl rfl rfl ?_
                       | refine st_extract rfl rfl ?_
                       | refine st_un rfl ?_
                       | refine st_min rfl rfl ?_
                       | refine st_max rfl rfl ?_
                       | refine st_conv rfl rfl rfl rfl ?_
                       | refine st_eql rfl rfl rfl ?_
                       | refine st_neq rfl rfl rfl ?_
                       | refine st_alloc rfl rfl ?_
                       | refine st_box rfl ?_
                       | refine st_field rfl rfl rfl rfl rfl ?_
                       | refine st_bld rfl rfl rfl rfl rfl rfl ?_
                       | refine st_bsl rfl rfl rfl rfl rfl rfl rfl (.inl rfl) rfl (.inl rfl) rfl rfl ?_
                       refine nx rfl rfl ?_)
                  | (refine bs0 rfl ?_
                     try
                       refine st_store_ptr rfl rfl rfl rfl rfl rfl rfl ?_
                       refine nx rfl rfl ?_)
                  | refine aops_nil ?_
                  | refine bskip rfl ?_
                  | refine bskip0 rfl ?_
                  | refine bguard rfl rfl (fun _ => ?_) (fun _ => ?_)
                  | refine bguardB rfl rfl (fun _ => ?_) (fun _ => ?_))
              refine st_call (fun _ => rfl) rfl ?_
              refine ACalls.mono (awake_c X) ?_
              rintro r H' ⟨rfl, rfl⟩
              refine nx rfl rfl ?_
              repeat' (first
                  | (refine bs rfl ?_
                     try
                       first
                       | refine st_move ?_
                       | refine st_assign ?_
                       | refine st_bin rfl ?_
                       | refine st_load rfl rfl rfl ?_
                       | refine st_ixp rfl rfl (by assumption) ?_
                       | refine st_fieldAddr rfl rfl rfl rfl rfl ?_
                       | refine st_pick rfl ?_
                       | refine st_nilCheck rfl ?_
                       | refine st_len_sl rfl rfl rfl ?_
                       | refine st_len_str rfl rfl rfl ?_
                       | refine st_extract rfl rfl ?_
                       | refine st_un rfl ?_
                       | refine st_min rfl rfl ?_
                       | refine st_max rfl rfl ?_
                       | refine st_conv rfl rfl rfl rfl ?_
                       | refine st_eql rfl rfl rfl ?_
                       | refine st_neq rfl rfl rfl ?_
                       | refine st_alloc rfl rfl ?_
                       | refine st_box rfl ?_
                       | refine st_field rfl rfl rfl rfl rfl ?_
                       | refine st_bld rfl rfl rfl rfl rfl rfl ?_
                       | refine st_bsl rfl rfl rfl rfl rfl rfl rfl (.inl rfl) rfl (.inl rfl) rfl rfl ?_
                       refine nx rfl rfl ?_)
                  | (refine bs0 rfl ?_
                     try
                       refine st_store_ptr rfl rfl rfl rfl rfl rfl rfl ?_
                       refine nx rfl rfl ?_)
                  | refine aops_nil ?_
                  | refine bskip rfl ?_
                  | refine bskip0 rfl ?_
                  | refine bguard rfl rfl (fun _ => ?_) (fun _ => ?_)
                  | refine bguardB rfl rfl (fun _ => ?_) (fun _ => ?_))
              · refine awp_ret ?_
                exact ⟨_, rfl, by simp [get_cons, one, hs], rfl⟩
              · rename_i hh
                exact absurd (by simp [hkp]) hh
end Go.Abs
