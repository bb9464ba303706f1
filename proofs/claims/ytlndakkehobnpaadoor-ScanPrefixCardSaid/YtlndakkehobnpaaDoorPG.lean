/- The laws' Written: what the reference writes. Joined texts, each with what its own name promises; no condition beyond those stated. -/
import Derived.Test.YtlndakkehobnpaaDoorPF
import Derived.Test.YtlndakkehobnpaaDoorPE
namespace Go.Abs
theorem awp_midE {E : Env} {N n0 : Nat} {Q Q2 : Exit → St → Prop} {s : St} {c c2 : Code} {ι : Type} (σ : ι → St) (I : ι → Prop) (h1 : AWp E N n0 c (fun e s' => e = .normal ∧ ∃ i, I i ∧ Imp E N n0 s' (σ i)) s) (h2 : ∀ i, I i → AWp E N n0 c2 Q2 (σ i)) : AWp E N n0 c (Then (AWp E N n0 c2 Q2) Q) s :=
  awp_mono h1 fun e s' ⟨he, i, hi, im⟩ => by subst he; exact awp_pre im (h2 i hi)
section
variable {X : Nat → Prop} {f : FuncId} {rest : List AV} {r0 : AV} {d d' : Rd} {h : Hd} {l : La} {s s' : List UInt8} {t t' : Nat}
def rrQ (d : Rd) (h : Hd) (l : La) (s : List UInt8) (t : Nat) (z : Option AO) : Hp := rdH d ++ [some (rrC h), some (rpC l h.slot h.seq s.length t 8), none, z, some (arB s)]
end
/-- What is kept between the calls on the open region. -/
structure WI (L : Nat) (h : Hd) (l : La) (F seq : Nat) (p : Rd × List UInt8 × Nat) : Prop where
  lr : Lr L p.1
  rg : RgI p.1.new L h F seq p.2.1 p.2.2
  tt : p.2.2 = p.2.1.length / 59
  cap : (p.2.1.length : Int) ≤ (l.rs - 1) * 59
  st : ∃ ls, Strm l.ver seq p.2.1 ls
theorem WI.app {L : Nat} {h : Hd} {l : La} {F seq : Nat} {d : Rd} {s : List UInt8} {t : Nat} (w : WI L h l F seq (d, s, t)) {r : Rec} (hc : chkR l.ver r = 0) (hl : (s.length : Int) + (lenR r : Int) ≤ (l.rs - 1) * 59) {n : Nat} (hn : t + n = (s ++ encR l.ver seq s.length r).length / 59) (hFL : (F + 1 + (s ++ encR l.ver seq s.length r).length / 59) * 64 ≤ L) :
    WI L h l F seq (rdfN d F seq (s ++ encR l.ver seq s.length r) t n, s ++ encR l.ver seq s.length r, t + n) where
  lr := w.lr.df n (by omega)
  rg := by
    have g : RgI d.new L h F seq s t := w.rg
    exact (g.more (encR l.ver seq s.length r)).rframes w.lr n (by omega) (by omega)
  tt := hn
  cap := by show ((s ++ encR l.ver seq s.length r).length : Int) ≤ _; rw [List.length_append, encR_len]; omega
  st := by obtain ⟨ls, h1⟩ := w.st; exact ⟨_, h1.app r hc⟩
theorem RgI.padS {img : List UInt8} {L : Nat} {h : Hd} {F seq t : Nat} {s : List UInt8} (g : RgI img L h F seq s t) : RgI img L h F seq (padS s) t := g.more _
theorem pad_cap {l : La} {s : List UInt8} (h : (s.length : Int) ≤ (l.rs - 1) * 59) : ((padS s).length : Int) ≤ (l.rs - 1) * 59 := by
  simp only [Go.Abs.padS, List.length_append, List.length_replicate]
  omega
theorem WI.sync {L : Nat} {h : Hd} {l : La} {F seq : Nat} {d : Rd} {s : List UInt8} {t : Nat} (w : WI L h l F seq (d, s, t)) {n : Nat} (hn : t + n = (padS s).length / 59) (hFL : (F + 1 + (padS s).length / 59) * 64 ≤ L) :
    WI L h l F seq ((rdfN d F seq (padS s) t n).bar, padS s, t + n) where
  lr := (w.lr.df n (by omega)).bar
  rg := by
    show RgI (rdfN d F seq (padS s) t n).bar.new L h F seq (padS s) (t + n)
    rw [(w.lr.df n (by omega)).bar_new]
    have g : RgI d.new L h F seq s t := w.rg
    exact g.padS.rframes w.lr n (by omega) (by omega)
  tt := hn
  cap := pad_cap w.cap
  st := by obtain ⟨ls, h1⟩ := w.st; exact ⟨_, h1.pad⟩
/-- The image that Written returns. -/
def WrI (l : La) (sp : List Sp) (img : List UInt8) : Prop :=
  img.length = (74 + 4 * l.rs.toNat) * 64 ∧ (sp = [] → ∃ h s t, RgI img ((74 + 4 * l.rs.toNat) * 64) h (74 + l.rs.toNat) 9 s t ∧ t * 59 ≤ s.length ∧ (s.length : Int) ≤ (l.rs - 1) * 59)
end Go.Abs
namespace Go.Abs
def h9 (l : La) : Hd := ⟨l.ver, 1, l.id, 9, 2, 0⟩
def wz : AO := .cells [.int .i64 0, .int .i64 0, .int .i64 0, .int .i64 0] 29
attribute [local irreducible] AStep aops AWp Nx awM
end Go.Abs
namespace Go.Abs
def awH : Hd := ⟨1, 1, 3, 5, 5, 0⟩
def awR : Rec := ⟨2, [107], [], 0⟩
def awL : La := la14 0 1
def lzS : List UInt8 := List.replicate (((100 : Nat) : Int).toNat * 64) 0
def av1 : Dv := { (Dv.fresh lzS).put 78 (encH awH 78) with old := [] }
def as1 : List UInt8 := [] ++ encR awL.ver 5 ([] : List UInt8).length awR
def av2 : Dv := { dfN av1 78 5 (padS as1) 0 1 with old := [] }
theorem awL_form : formB awL = true := la14_form (by decide) (by decide)
theorem awL_slot : slotOk awL awH.slot := ⟨awL_form, by decide, by decide⟩
theorem awH_ok : hdB awH = true := by kernel_rfl
theorem awR_ok : chkR awL.ver awR = 0 := by kernel_rfl
theorem as1_len : as1.length = 17 := by
  unfold as1
  rw [List.nil_append, encR_len]; rfl
theorem pads1_len : (padS as1).length = 59 := by
  have := as1_len
  simp only [padS, List.length_append, List.length_replicate]
  omega
theorem lzS_lv : Lv 6400 (Dv.fresh lzS) := lv_new 100 (by decide) (by decide)
theorem av1_lv : Lv 6400 av1 := (lzS_lv.put (k := 78) (by decide) (by rw [encH_len]; decide)).clean
theorem av1_rg : RgI av1.image 6400 awH 78 5 [] 0 := by
  have h : av1.image = putI (List.replicate 6400 0) 78 (encH awH 78) := put_image _ _ (encH_len _ _)
  rw [h]
  exact RgI.open (by decide)
theorem av2_lv : Lv 6400 av2 := (av1_lv.df 1 (by decide)).clean
theorem av2_rg : RgI av2.image 6400 awH 78 5 (padS as1) 1 := by
  have g : RgI av1.image 6400 awH 78 5 (padS as1) 0 := by
    have h := av1_rg.more (padS as1)
    rw [List.nil_append] at h
    exact h
  exact g.frames 1 (by rw [pads1_len]; decide) (by decide)
theorem aw_strm : Strm awL.ver 5 (padS as1) [(0, awR)] := (Strm.nil.app awR awR_ok).pad
theorem aw_hdr : scanH av2 awL 1 = some awH := by
  rw [scanH_eq av2_lv]
  exact hdr_rg av2_rg (l := awL) (h := awH) awL_slot awH_ok rfl rfl rfl (by decide)
theorem aw_str (q : Nat) : strF av2 q (awL.rs.toNat - 1) ((74 + 1 * awL.rs).toNat + 1) = strR av2.image q 3 (78 + 1) := strF_strR av2_lv q _ _
theorem aw_rec5 : recs awL.ver 5 (strF av2 5 (awL.rs.toNat - 1) ((74 + 1 * awL.rs).toNat + 1)) = [(0, awR)] := by
  rw [aw_str, show 78 + 1 = 78 + 1 + 0 from rfl, strR_rg av2_rg 3 0 (by decide) (by decide) (by decide)]
  have e : ((padS as1).drop (0 * 59)).take ((1 - 0) * 59) = padS as1 := by
    rw [Nat.zero_mul, List.drop_zero, List.take_of_length_le (by rw [pads1_len]; decide)]
  rw [e]
  exact aw_strm.all
theorem aw_rec6 : recs awL.ver 6 (strF av2 6 (awL.rs.toNat - 1) ((74 + 1 * awL.rs).toNat + 1)) = [] := by
  rw [aw_str, strR_none av2_rg (by decide) (by decide) (by decide) (by decide)]
  rfl
attribute [local irreducible] AStep aops AWp Nx awM
set_option maxHeartbeats 0 in
set_option maxRecDepth 100000 in
theorem lay14_aw (X : Nat → Prop) : ACalls (E0 X) 47 [.int .i64 0, .int .i64 1] [] (fun r H' => r = laA awL ∧ H' = []) := by
  refine ACalls.cut0 ?_ laA_ids
  refine acalls_of Proofs.Tryd.func47 rfl Proofs.Tryd.ntmps47 (by kernel_rfl) rfl ?_
  intro hH hargs
  clear hH hargs
  repeat' (first | ((refine Qa rfl ?_); (first | refine Q0 ?_ | refine Q2 rfl ?_ | refine QG rfl rfl rfl rfl ?_ | refine QJ rfl rfl ?_); (refine QX rfl rfl ?_)) | refine Qa rfl ?_ | refine Qh ?_ | refine Ql ?_ | refine Qo rfl ?_)
  refine st_shl rfl rfl (by decide) ?_
  first | refine nx rfl rfl ?_ | refine nx0 ?_
  repeat' (first | ((refine Qa rfl ?_); (refine QP rfl rfl rfl rfl rfl rfl ?_); (refine QX rfl rfl ?_)) | (refine Qb rfl ?_; try (refine QS rfl rfl rfl rfl rfl rfl rfl ?_; (refine QX rfl rfl ?_))) | refine Qh ?_ | refine Qs ?_)
  refine awp_ret ?_
  exact ⟨_, rfl, rfl⟩
end Go.Abs
namespace Go.Abs
theorem rel_recw {E : Env} {m : Mu} {w : World} {a b c : AV} {v : Value} (h : E.Rel m w (.agg [a, b, .nils, c]) v) : E.Rel m w (.agg [a, b, .sl 1 [], c]) v := by
  simp only [Env.Rel, Abs.Rel] at h ⊢
  obtain ⟨us, rfl, h1⟩ := h
  refine ⟨us, rfl, ?_⟩
  obtain ⟨u0, r0, rfl, a0, h2⟩ := relL_cons.1 h1
  obtain ⟨u1, r1, rfl, a1, h3⟩ := relL_cons.1 h2
  obtain ⟨u2, r2, rfl, a2, h4⟩ := relL_cons.1 h3
  exact RelL.cons a0 (RelL.cons a1 (RelL.cons (rel_nils 1 a2) h4))
theorem app_aw (X : Nat → Prop) : ACalls (E0 X) 50 [.ptr 3 0, .agg [.int .i64 2, .sl 1 ([107].map u8A), .nils, .int .i64 0]] (rgH av1 awH awL 78 5 [] 0) (fun q H' => q = .tup [.int .i64 0, .int .i64 17, .int .i64 0] ∧ H' = rgM av1 awH awL 78 5 as1 0) := by
  refine ACalls.weak (args' := [.ptr 3 0, recA awR]) (ACalls.mono (app_ok X av1 awL awH 78 5 [] 0 awR 6400 av1_lv (by decide) 0 awR_ok (by decide) (by unfold capI; rw [awL_form]; decide) (by unfold capI; rw [awL_form]; decide) (by decide) (by
    show 0 + 0 = as1.length / 59
    rw [as1_len]) (by
    show (78 + 1 + as1.length / 59) * 64 ≤ 6400
    rw [as1_len]; decide)) fun q H' h => h) fun m w vs h => ?_
  obtain ⟨u, r, rfl, a1, h2⟩ := relL_cons.1 h
  obtain ⟨u2, r2, rfl, a2, h3⟩ := relL_cons.1 h2
  exact RelL.cons a1 (RelL.cons (rel_recw a2) h3)
theorem sync_aw (X : Nat → Prop) : ACalls (E0 X) 51 [.ptr 3 0] (rgH av1 awH awL 78 5 as1 0) (fun q H' => q = .int .i64 0 ∧ H' = rgM av2 awH awL 78 5 (padS as1) 1) :=
  rsync_c X av1 6400 av1_lv (by decide) awL awH 78 5 as1 0 1 (by decide) (by decide) (by rw [as1_len]; decide) (by rw [pads1_len]) (by rw [pads1_len]; decide)
theorem open_aw (X : Nat → Prop) : ACalls (E0 X) 48 [.ptr 0 0, laA awL, hdA awH] (devH (Dv.fresh lzS)) (fun r H' => r = .tup [.ptr 3 0, .int .i64 0] ∧ H' = rgH av1 awH awL 78 5 [] 0) :=
  ropen_c X (Dv.fresh lzS) 6400 lzS_lv awL awH 78 5 awL_slot awH_ok rfl rfl rfl rfl (by decide) (by decide)
theorem new_aw (X : Nat → Prop) : ACalls (E0 X) 19 [.int .i64 100] [] (fun r H' => r = .ptr 0 0 ∧ H' = devH (Dv.fresh lzS)) := (new_c X 100).mono fun r H' h => by
  rcases h with ⟨_, _, h1, h2⟩ | ⟨h1, _⟩
  · refine ⟨h1, h2.trans ?_⟩
    unfold lzS; rfl
  · exact absurd ⟨by decide, by decide⟩ h1
attribute [local irreducible] av1 av2 as1 lzS
attribute [local irreducible] AStep aops AWp Nx awM
set_option maxHeartbeats 0 in
set_option maxRecDepth 100000 in
theorem sawake_c (X : Nat → Prop) : ACalls (E0 X) 43 [] [] (fun r H' => r = .bool true ∧ H' = []) := by
  refine ACalls.cut0 ?_ trivial
  have hhd := fun R => dev_l (fun X => scanH_c X av2 av2_lv.inv awL 1) ⟨laA_ids, trivial, trivial⟩ (by rw [aw_hdr]; exact ⟨hdA_ids, trivial, trivial⟩) R (X := X)
  rw [aw_hdr] at hhd
  have h5 := fun R => dev_l (fun X => sregion_c X av2 av2_lv.inv awL 1 5 awL_slot (by decide) (by decide)) ⟨laA_ids, trivial, trivial, trivial⟩ (idsL_map fun _ => foA_ids) R (X := X)
  rw [aw_rec5] at h5
  have h6 := fun R => dev_l (fun X => sregion_c X av2 av2_lv.inv awL 1 6 awL_slot (by decide) (by decide)) ⟨laA_ids, trivial, trivial, trivial⟩ (idsL_map fun _ => foA_ids) R (X := X)
  rw [aw_rec6] at h6
  have hok := hok_dev (Dv.fresh lzS)
  have hok1 := hok_rg av1 awH awL 78 5 as1 0
  have hok2 := hok_rg av2 awH awL 78 5 (padS as1) 1
  refine acalls_of Proofs.Tryd.func43 rfl Proofs.Tryd.ntmps43 (by kernel_rfl) rfl ?_
  intro hH hargs
  clear hH hargs
  repeat' (first | ((refine Qa rfl ?_); (refine Q1 ?_); (refine QX rfl rfl ?_)) | refine Qa rfl ?_ | refine Qh ?_ | refine Ql ?_ | refine Qo rfl ?_)
  refine st_call (fun _ => rfl) rfl ?_
  refine ACalls.mono (new_aw X) ?_
  rintro r H' ⟨rfl, rfl⟩
  first | refine nx rfl rfl ?_ | refine nx0 ?_
  repeat' (first | ((refine Qa rfl ?_); (refine Q1 ?_); (refine QX rfl rfl ?_)) | refine Qa rfl ?_ | refine Qh ?_ | refine Ql ?_ | refine Qo rfl ?_)
  refine st_call (fun _ => rfl) rfl ?_
  refine ACalls.mono (acalls_pure (E := E0 X) (fun X => lay14_aw X) (by simp [IdsLtL, IdsLt]) _) ?_
  rintro r H' ⟨rfl, rfl⟩
  first | refine nx rfl rfl ?_ | refine nx0 ?_
  repeat' (first | ((refine Qa rfl ?_); (refine QJ rfl rfl ?_); (refine QX rfl rfl ?_)) | (refine Qb rfl ?_; try (refine QS rfl rfl rfl rfl rfl rfl rfl ?_; (refine QX rfl rfl ?_))) | refine Qh ?_ | refine Ql ?_)
  refine awp_pre (Imp.trans (imp_freezeP (id := 3) (cs := [.int .i64 awL.id, .int .i64 awL.ver, .int .i64 awL.rs, .int .i64 awL.regs]) rfl) (imp_cutk 3 (Nat.zero_le _) hok rfl (by simp [devH]) (sl' := [(1, .ptr 0 0), (2, .fp [.int .i64 awL.id, .int .i64 awL.ver, .int .i64 awL.rs, .int .i64 awL.regs])]) ?_)) ?_
  · repeat' (first | exact fa_nil | refine fa_cons ⟨?_, ?_⟩ ?_)
    all_goals (try first | exact rfl | exact trivial | (simp [IdsLt, IdsLtL]; done) | (simp [get_cons]; done) | (simp [get_cons, *]; done) | (refine congrArg (AV.int .i64) (wrap_eq ?_ ?_ ?_) <;> (first | omega | (simp; omega))))
  repeat' (first | ((refine Qa rfl ?_); (first | refine Q0 ?_ | refine Q3 rfl rfl rfl ?_ | refine QP rfl rfl rfl rfl rfl rfl ?_); (refine QX rfl rfl ?_)) | refine Qa rfl ?_ | refine Qo rfl ?_)
  refine st_call (fun _ => rfl) rfl ?_
  refine ACalls.mono (open_aw X) ?_
  rintro r H' ⟨rfl, rfl⟩
  first | refine nx rfl rfl ?_ | refine nx0 ?_
  repeat' (first | ((refine Qa rfl ?_); (first | refine Q0 ?_ | refine Q1 ?_ | refine Q2 rfl ?_ | refine QC rfl rfl ?_); (refine QX rfl rfl ?_)) | refine Qa rfl ?_ | refine Qh ?_ | refine Ql ?_ | refine Qm ?_ | refine Qo rfl ?_ | refine Qq rfl ?_)
  refine st_buildSlice_own rfl rfl rfl rfl rfl rfl rfl (.inr rfl) rfl (.inr rfl) ?_
  first | refine nx rfl rfl ?_ | refine nx0 ?_
  repeat' (refine Qa rfl ?_)
  refine st_conv_mark (k := 1) (lo := 0) (n := 1) (es := [107].map u8A) (out := [107].map u8A) (by decide) (by decide) rfl rfl rfl rfl rfl rfl rfl rfl rfl ?_
  first | refine nx rfl rfl ?_ | refine nx0 ?_
  repeat' (first | ((refine Qa rfl ?_); (refine QP rfl rfl rfl rfl rfl rfl ?_); (refine QX rfl rfl ?_)) | refine Qa rfl ?_)
  refine st_call (fun _ => rfl) rfl ?_
  refine ACalls.mono (rg_RM (X := X) (fun X => app_aw X) ⟨⟨trivial, ⟨trivial, trivial⟩, trivial, trivial, trivial⟩, trivial⟩ ⟨trivial, trivial, trivial, trivial⟩ [none]) ?_
  rintro r H' ⟨rfl, rfl⟩
  first | refine nx rfl rfl ?_ | refine nx0 ?_
  repeat' (first | ((refine Qa rfl ?_); (first | refine Q0 ?_ | refine Q1 ?_ | refine QC rfl rfl ?_); (refine QX rfl rfl ?_)) | refine Qh ?_ | refine Ql ?_)
  refine awp_pre (imp_tid 3 [3, 4, 7] (sl' := [(1, .ptr 0 0), (2, .fp [.int .i64 awL.id, .int .i64 awL.ver, .int .i64 awL.rs, .int .i64 awL.regs]), (3, .ptr 3 0), (7, .int .i64 0)]) (H' := rgH av1 awH awL 78 5 as1 0) (os := [rgC awH, pkC awL 78 5 as1.length 0 5, arB as1]) (Nat.zero_le _) ?_ ?_ ?_ ?_ rfl ?_ ?_ ?_) ?_
  · simp [devH]
  · simp
  · simp
  · exact hok_dev av1
  · rfl
  · repeat' (first
      | exact fa_nil
      | exact os_nil
      | exact RenL.nil
      | refine fa_cons ?_ ?_
      | refine os_cons rfl (renO_cells ?_) ?_
      | refine os_cons rfl (renO_old 0 (fun i h => absurd h (Nat.not_lt_zero i)) (by simp [IdsLtO, IdsLtL, IdsLt])) ?_
      | refine RenL.cons ?_ ?_
      | exact ren_own rfl
      | exact ren_ptr rfl
      | exact ren_mp rfl
      | exact ren_lt rfl (by first | trivial | (simp [IdsLt, IdsLtL]; done)))
  · repeat' (first
      | exact fa_nil
      | exact os_nil
      | exact RenL.nil
      | refine fa_cons ?_ ?_
      | refine os_cons rfl (renO_cells ?_) ?_
      | refine os_cons rfl (renO_old 0 (fun i h => absurd h (Nat.not_lt_zero i)) (by simp [IdsLtO, IdsLtL, IdsLt])) ?_
      | refine RenL.cons ?_ ?_
      | exact ren_own rfl
      | exact ren_ptr rfl
      | exact ren_mp rfl
      | exact ren_lt rfl (by first | trivial | (simp [IdsLt, IdsLtL]; done)))
  repeat' (first | ((refine Qa rfl ?_); (first | refine Q0 ?_ | refine Q2 rfl ?_); (refine QX rfl rfl ?_)) | refine Qa rfl ?_ | refine Qo rfl ?_)
  refine st_call (fun _ => rfl) rfl ?_
  refine ACalls.mono (sync_aw X) ?_
  rintro r H' ⟨rfl, rfl⟩
  first | refine nx rfl rfl ?_ | refine nx0 ?_
  repeat' (first | ((refine Qa rfl ?_); (first | refine Q0 ?_ | refine Q2 rfl ?_ | refine Q3 rfl rfl rfl ?_ | refine Q5 rfl ?_); (refine QX rfl rfl ?_)) | refine Qa rfl ?_ | refine Qh ?_ | refine Ql ?_ | refine Qm ?_ | refine Qo rfl ?_ | refine Qq rfl ?_)
  refine st_call (fun _ => rfl) rfl ?_
  refine ACalls.mono (hhd _) ?_
  rintro r H' ⟨rfl, rfl⟩
  first | refine nx rfl rfl ?_ | refine nx0 ?_
  repeat' (first | ((refine Qa rfl ?_); (first | refine Q0 ?_ | refine Q1 ?_ | refine Q3 rfl rfl rfl ?_ | refine QC rfl rfl ?_ | refine QJ rfl rfl ?_); (refine QX rfl rfl ?_)) | refine Qa rfl ?_ | (refine Qb rfl ?_; try (refine QS rfl rfl rfl rfl rfl rfl rfl ?_; (refine QX rfl rfl ?_))) | refine Qh ?_ | refine Ql ?_ | refine Qo rfl ?_)
  refine st_call (fun _ => rfl) rfl ?_
  refine ACalls.mono (h5 _) ?_
  rintro r H' ⟨rfl, rfl⟩
  first | refine nx rfl rfl ?_ | refine nx0 ?_
  repeat' (first | ((refine Qa rfl ?_); (first | refine Q0 ?_ | refine Q1 ?_ | refine Q2 rfl ?_ | refine Q3 rfl rfl rfl ?_ | refine Q4 rfl rfl rfl rfl rfl ?_ | refine Q5 rfl ?_ | refine Q7 rfl rfl rfl ?_); (refine QX rfl rfl ?_)) | refine Qa rfl ?_ | refine Qh ?_ | refine Ql ?_ | refine Qo rfl ?_)
  refine st_ixm (show [((0 : Nat), awR)][0]? = some (0, awR) from rfl) rfl rfl rfl rfl rfl rfl rfl (by first | rfl | omega) rfl ?_
  first | refine nx rfl rfl ?_ | refine nx0 ?_
  repeat' (first | ((refine Qa rfl ?_); (first | refine Q0 ?_ | refine Q2 rfl ?_ | refine Q3 rfl rfl rfl ?_ | refine Q4 rfl rfl rfl rfl rfl ?_ | refine Q5 rfl ?_); (refine QX rfl rfl ?_)) | refine Qa rfl ?_)
  refine st_call (fun _ => rfl) rfl ?_
  refine ACalls.mono (h6 _) ?_
  rintro r H' ⟨rfl, rfl⟩
  first | refine nx rfl rfl ?_ | refine nx0 ?_
  repeat' (first | ((refine Qa rfl ?_); (first | refine Q1 ?_ | refine Q2 rfl ?_ | refine Q5 rfl ?_ | refine Q7 rfl rfl rfl ?_); (refine QX rfl rfl ?_)) | refine Qh ?_ | refine Qs ?_)
  refine awp_ret ?_
  exact ⟨_, rfl, rfl⟩
end Go.Abs

