/- The laws' Written: what the reference writes. Joined texts, each with what its own name promises; no condition beyond those stated. -/
import Derived.Test.YtlndakkehobnpaaDoorPF
import Derived.Test.YtlndakkehobnpaaDoorPE
namespace Go.Abs
theorem awp_midE {E : Env} {N n0 : Nat} {Q Q2 : Exit → St → Prop} {s : St} {c c2 : Code} {ι : Type} (σ : ι → St) (I : ι → Prop) (h1 : AWp E N n0 c (fun e s' => e = .normal ∧ ∃ i, I i ∧ Imp E N n0 s' (σ i)) s) (h2 : ∀ i, I i → AWp E N n0 c2 Q2 (σ i)) : AWp E N n0 c (Then (AWp E N n0 c2 Q2) Q) s :=
  awp_mono h1 fun e s' ⟨he, i, hi, im⟩ => by subst he; exact awp_pre im (h2 i hi)
theorem ACalls.cut0E {E : Env} {f : FuncId} {args : List AV} {P : AV → Prop} (h : ACalls E f args [] (fun r _ => P r)) (hv : ∀ r, P r → IdsLt 0 r) : ACalls E f args [] (fun r H' => P r ∧ H' = []) :=
  h.imp fun r _H' e => ⟨r, [], ⟨e, rfl⟩, imp_cutk 0 (Nat.zero_le _) hok_nil rfl (Nat.zero_le _) (fa_cons ⟨rfl, hv r e⟩ fa_nil)⟩
theorem acalls_pureE {E : Env} {f : FuncId} {args : List AV} {P : AV → Prop} (h : ∀ X, ACalls (E.wX X) f args [] (fun r H' => P r ∧ H' = [])) (hP : ∀ r, P r → IdsLt 0 r) (ha : IdsLtL 0 args) (H : Hp) : ACalls E f args H (fun r H' => P r ∧ H' = H) := by
  refine ACalls.conv (ACalls.frame (E := E) h [] H (by simp) rfl (by simp) (by simp) ha hok_nil) (rnL_closed _ ha) rfl ?_
  rintro r H' ⟨r0, h', ⟨hp, rfl⟩, -, rfl, rfl⟩
  rw [rn_closed _ (hP _ hp)]
  exact ⟨hp, by simp [mrg, setAll]⟩
theorem rblank_at (X : Nat → Prop) (n : Nat) (hn : n ≤ 16777216) (H : Hp) : ACalls (E0 X) 73 [.int .i64 n] H (fun v H' => v = .ptr H.length 0 ∧ H' = H ++ rdS H.length (Rd.fresh (List.replicate (n * 64) 0))) := by
  refine (acalls_make (E := E0 X) (P := fun v H' => v = .ptr 0 0 ∧ H' = rdH (Rd.fresh (List.replicate (n * 64) 0))) (fun X => rblank_c X n hn) (fun r h' h => by obtain ⟨h1, h2⟩ := h; subst h1; subst h2; exact ⟨rfl, noFz_rd _⟩) (Bor.same trivial .nil)).mono ?_
  rintro r H' ⟨r0, h', ⟨rfl, rfl⟩, rfl, rfl⟩
  exact ⟨by simp [rnA], by rw [mapH_rd]⟩
section
variable {X : Nat → Prop} {f : FuncId} {rest : List AV} {r0 : AV} {d d' : Rd} {h : Hd} {l : La} {s s' : List UInt8} {t t' : Nat}
theorem mapH_rr (q : Nat) : mapH (sh 0 q 7) (rrH d h l s t) = rrH d h l s t := by
  simp [mapH, rrH, rdH, rrC, rpC, arB, rnO, rnL, rnA, sh, rnL_map (f := u8A) (fun _ => rfl), rnL_map (f := boA) (fun _ => rfl)]
/-- A method of the reference's region, with another object behind. -/
theorem rr_z (hc : ∀ X, ACalls (E0 X) f (.ptr 4 0 :: rest) (rrH d h l s t) (fun r H' => r = r0 ∧ H' = rrH d' h l s' t')) (hrest : IdsLtL 0 rest) (hr : IdsLt 0 r0) (z : Option AO) :
    ACalls (E0 X) f (.ptr 4 0 :: rest) (rrH d h l s t ++ [z]) (fun r H' => r = r0 ∧ H' = rrH d' h l s' t' ++ [z]) := by
  refine ACalls.conv (ACalls.frameLR (E := E0 X) hc [] [z] (some_rr d h l s t) ⟨by simp [IdsLt, rrH, rdH], ids_mono (Nat.zero_le _) hrest⟩ (hok_rr d h l s t)) ?_ ?_ ?_
  · show _ :: rnL _ rest = _
    rw [rnL_closed _ hrest]; simp [rnA, sh, rrH, rdH]
  · show [] ++ mapH (sh 0 1 7) (rrH d h l s t) ++ [z] = _
    rw [mapH_rr]; rfl
  · rintro r H' ⟨r1, h', ⟨rfl, rfl⟩, -, rfl, rfl⟩
    refine ⟨rn_closed _ hr, ?_⟩
    show [] ++ mapH (sh 0 1 7) (rrH d' h l s' t') ++ [z] ++ [] = _
    rw [mapH_rr]; simp
def rrQ (d : Rd) (h : Hd) (l : La) (s : List UInt8) (t : Nat) (z : Option AO) : Hp := rdH d ++ [some (rrC h), some (rpC l h.slot h.seq s.length t 8), none, z, some (arB s)]
theorem rr_zM (hc : ∀ X, ACalls (E0 X) f (.ptr 4 0 :: rest) (rrH d h l s t) (fun r H' => r = r0 ∧ H' = rrM d' h l s' t')) (hrest : IdsLtL 0 rest) (hr : IdsLt 0 r0) (z : Option AO) :
    ACalls (E0 X) f (.ptr 4 0 :: rest) (rrH d h l s t ++ [z]) (fun r H' => r = r0 ∧ H' = rrQ d' h l s' t' z) := by
  refine ACalls.conv (ACalls.frameLR (E := E0 X) hc [] [z] (some_rr d h l s t) ⟨by simp [IdsLt, rrH, rdH], ids_mono (Nat.zero_le _) hrest⟩ (hok_rr d h l s t)) ?_ ?_ ?_
  · show _ :: rnL _ rest = _
    rw [rnL_closed _ hrest]; simp [rnA, sh, rrH, rdH]
  · show [] ++ mapH (sh 0 1 7) (rrH d h l s t) ++ [z] = _
    rw [mapH_rr]; rfl
  · rintro r H' ⟨r1, h', ⟨rfl, rfl⟩, -, rfl, rfl⟩
    refine ⟨rn_closed _ hr, ?_⟩
    show [] ++ mapH (sh 0 1 7) (rdH d' ++ [some (rrC h), some (rpC l h.slot h.seq s'.length t' 7), none]) ++ [z] ++ mapH (sh 0 1 7) [some (arB s')] = _
    simp [mapH, rrQ, rdH, rrC, rpC, arB, rnO, rnL, rnA, sh, rnL_map (f := u8A) (fun _ => rfl), rnL_map (f := boA) (fun _ => rfl)]
theorem hok_rrz (z : Option AO) (hz : ∀ o, z = some o → IdsLtO 8 o) : HOk 8 (rrH d h l s t ++ [z]) := fun j o ho => by
  match j, ho with
  | 0, ho => cases ho; exact ⟨by simp [IdsLt], by simp [IdsLt], by simp [IdsLt], trivial, trivial, trivial, trivial, trivial⟩
  | 1, ho => cases ho; exact idsL_map fun _ => u8A_ids
  | 2, ho => cases ho; exact idsL_map fun _ => u8A_ids
  | 3, ho => cases ho; exact idsL_map fun _ => boA_ids
  | 4, ho => cases ho; exact ⟨by simp [IdsLt], trivial, trivial, trivial, trivial, trivial, trivial, by simp [IdsLt], trivial⟩
  | 5, ho => cases ho; exact ⟨trivial, trivial, trivial, trivial, trivial, trivial, by simp [IdsLt], trivial, trivial⟩
  | 6, ho => cases ho; exact idsL_map fun _ => u8A_ids
  | 7, ho => exact hz o (by simpa [rrH, rdH] using ho)
end
/-- What is kept between the calls on the open region. -/
structure WI (L : Nat) (h : Hd) (l : La) (F seq : Nat) (p : Rd × List UInt8 × Nat) : Prop where
  lr : Lr L p.1
  rg : RgI p.1.new L h F seq p.2.1 p.2.2
  tt : p.2.2 = p.2.1.length / 59
  cap : (p.2.1.length : Int) ≤ (l.rs - 1) * 59
  st : ∃ ls, Strm l.ver seq p.2.1 ls
theorem WI.app {L : Nat} {h : Hd} {l : La} {F seq : Nat} {d : Rd} {s : List UInt8} {t : Nat} (w : WI L h l F seq (d, s, t)) {r : Rec} (hc : chkR l.ver r = 0) (hl : (s.length : Int) + (lenR r : Int) ≤ (l.rs - 1) * 59) {n : Nat} (hn : t + n = (s ++ encR l.ver seq s.length r).length / 59) (hFL : (F + 1 + (s ++ encR l.ver seq s.length r).length / 59) * 64 ≤ L) :
    WI L h l F seq (rdfN d F seq (s ++ encR l.ver seq s.length r) t n, s ++ encR l.ver seq s.length r, t + n) where
  lr := w.lr.df n (by omega)
  rg := by
    have g : RgI d.new L h F seq s t := w.rg
    exact (g.more (encR l.ver seq s.length r)).rframes w.lr n (by omega) (by omega)
  tt := hn
  cap := by show ((s ++ encR l.ver seq s.length r).length : Int) ≤ _; rw [List.length_append, encR_len]; omega
  st := by obtain ⟨ls, h1⟩ := w.st; exact ⟨_, h1.app r hc⟩
theorem RgI.padS {img : List UInt8} {L : Nat} {h : Hd} {F seq t : Nat} {s : List UInt8} (g : RgI img L h F seq s t) : RgI img L h F seq (padS s) t := g.more _
theorem pad_cap {l : La} {s : List UInt8} (h : (s.length : Int) ≤ (l.rs - 1) * 59) : ((padS s).length : Int) ≤ (l.rs - 1) * 59 := by
  simp only [Go.Abs.padS, List.length_append, List.length_replicate]
  omega
theorem WI.sync {L : Nat} {h : Hd} {l : La} {F seq : Nat} {d : Rd} {s : List UInt8} {t : Nat} (w : WI L h l F seq (d, s, t)) {n : Nat} (hn : t + n = (padS s).length / 59) (hFL : (F + 1 + (padS s).length / 59) * 64 ≤ L) :
    WI L h l F seq ((rdfN d F seq (padS s) t n).bar, padS s, t + n) where
  lr := (w.lr.df n (by omega)).bar
  rg := by
    show RgI (rdfN d F seq (padS s) t n).bar.new L h F seq (padS s) (t + n)
    rw [(w.lr.df n (by omega)).bar_new]
    have g : RgI d.new L h F seq s t := w.rg
    exact g.padS.rframes w.lr n (by omega) (by omega)
  tt := hn
  cap := pad_cap w.cap
  st := by obtain ⟨ls, h1⟩ := w.st; exact ⟨_, h1.pad⟩
/-- The image that Written returns. -/
def WrI (l : La) (sp : List Sp) (img : List UInt8) : Prop :=
  img.length = (74 + 4 * l.rs.toNat) * 64 ∧ (sp = [] → ∃ h s t, RgI img ((74 + 4 * l.rs.toNat) * 64) h (74 + l.rs.toNat) 9 s t ∧ t * 59 ≤ s.length ∧ (s.length : Int) ≤ (l.rs - 1) * 59)
theorem modc2 (n : Int) (c : Nat) (hc : 0 < c) (h : c ≤ 1000000) : ∃ k : Nat, (IntKind.i64.wrap (n.tmod c + c)).tmod c = (k : Int) ∧ k < c := by
  have h1 : n.tmod c < c := Int.tmod_lt_of_pos n (by omega)
  have h2 : -(c : Int) < n.tmod c := by
    have h0 := Int.tmod_lt_of_pos (-n) (b := (c : Int)) (by omega)
    rw [Int.neg_tmod] at h0
    omega
  rw [wrap_in (by omega) (by omega), Int.tmod_eq_emod_of_nonneg (by omega)]
  have h4 := Int.emod_nonneg (n.tmod c + c) (show (c : Int) ≠ 0 by omega)
  have h5 := Int.emod_lt_of_pos (n.tmod c + c) (show (0 : Int) < c by omega)
  exact ⟨((n.tmod c + c) % c).toNat, by omega, by omega⟩
end Go.Abs
namespace Go.Abs
theorem add_u8 (a b : UInt8) : AV.int .u8 (IntKind.u8.wrap ((a.toNat : Int) + (b.toNat : Int))) = u8A (a + b) := by
  have h := byte_of (a.toNat + b.toNat)
  rw [show ((a.toNat + b.toNat : Nat) : Int) = (a.toNat : Int) + (b.toNat : Int) by omega] at h
  rw [h]
  congr 1
  apply UInt8.toNat_inj.1
  rw [UInt8.toNat_ofNat', UInt8.toNat_add]
  omega
def h9 (l : La) : Hd := ⟨l.ver, 1, l.id, 9, 2, 0⟩
def wz : AO := .cells [.int .i64 0, .int .i64 0, .int .i64 0, .int .i64 0] 29
theorem rropen_z (X : Nat → Prop) (r : Rd) (L : Nat) (hv : Lr L r) (l : La) (h : Hd) (F : Nat) (hb : hdB h = true) (hF : IntKind.i64.wrap (74 + IntKind.i64.wrap (h.slot * l.rs)) = (F : Int)) (hFL : F * 64 + 64 ≤ L) (z : Option AO) :
    ACalls (E0 X) 74 [.ptr 0 0, laA l, hdA h] (rdH r ++ [z]) (fun q H' => q = .tup [.ptr 5 0, .int .i64 0] ∧ H' = rdH (r.wr F (encH h F)).bar ++ [z, some (.cells [.ptr 0 0, .int .i64 h.ver, .int .i64 h.slot, .int .i64 h.lay, .int .i64 h.seq, .int .i64 h.tail, .int .i64 h.now, .ptr 6 0] 178), some (rpC l h.slot h.seq 0 0 7), some (arB [])]) := by
  refine (rd_new (X := X) (fun X => rropen_c X r L hv l h F hb hF hFL) ⟨laA_ids, hdA_ids, trivial⟩ (by rintro q H' ⟨-, rfl⟩; exact ⟨_, _, rfl⟩) [] [z] 0 rfl).mono ?_
  rintro q H' ⟨r1, v', n, ⟨rfl, e⟩, rfl, rfl⟩
  have e' : rdH v' ++ n = rdH (r.wr F (encH h F)).bar ++ [some (rrC h), some (rpC l h.slot h.seq 0 0 6), some (arB [])] := e
  have e1 : rdH v' = rdH (r.wr F (encH h F)).bar ∧ n = [some (rrC h), some (rpC l h.slot h.seq 0 0 6), some (arB [])] := List.append_inj e' rfl
  refine ⟨rfl, ?_⟩
  rw [e1.2]
  show [] ++ rdH v' ++ [z] ++ _ = _
  rw [e1.1]
  simp [mapH, rrC, rpC, arB, rnO, rnL, rnA, sh]
attribute [local irreducible] AStep aops AWp Nx awM
set_option maxHeartbeats 0 in
set_option maxRecDepth 100000 in
theorem written_x (X : Nat → Prop) (ver log : Int) (l : La) (R : Nat) (hlay : ∀ X, ACalls (E0 X) 47 [.int .i64 ver, .int .i64 log] [] (fun r H' => r = laA l ∧ H' = [])) (hR : l.rs = (R : Int)) (hR2 : 2 ≤ R ∧ R ≤ 16) (hid : l.id = 3) (hv : l.ver = 1 ∨ l.ver = 2)
    (rs : List Rec) (pads : List Bool) (sp : List Sp) (_hrs : rs.length ≤ maxLen) (_hsp : sp.length ≤ maxLen) (hkey : ∀ r ∈ rs, r.key.length ≤ maxLen ∧ r.val.length ≤ maxLen) :
    ACalls (E0 X) 40 [.int .i64 ver, .int .i64 log, .sl 4 (rs.map recA), .sl 1 (pads.map boA), .sl 2 (sp.map spA)] [] (fun q H' => (∃ img, WrI l sp img ∧ q = .tup [.sl 1 (img.map u8A), laA l, .int .i64 9]) ∧ H' = []) := by
  refine ACalls.cut0E ?_ (by rintro r ⟨img, -, rfl⟩; exact ⟨idsL_map fun _ => u8A_ids, laA_ids, trivial, trivial⟩)
  have wr : ∀ x : Int, 0 ≤ x → x ≤ 1000000 → IntKind.i64.wrap x = x := fun x a b => wrap_in (by omega) (by omega)
  have w1 : IntKind.i64.wrap (74 + IntKind.i64.wrap (4 * l.rs)) = ((74 + 4 * R : Nat) : Int) := by rw [hR, wr (4 * (R : Int)) (by omega) (by omega), wr _ (by omega) (by omega)]; omega
  have hF : IntKind.i64.wrap (74 + IntKind.i64.wrap ((1 : Int) * l.rs)) = ((74 + R : Nat) : Int) := by rw [hR, wr ((1 : Int) * (R : Int)) (by omega) (by omega), wr _ (by omega) (by omega)]; omega
  have hlr := lr_blank (n := 74 + 4 * R) (by omega)
  have hhd : hdB (h9 l) = true := by
    unfold h9
    rw [hid]
    rcases hv with h | h <;> rw [h] <;> kernel_rfl
  have hsq : (h9 l).seq = ((9 : Nat) : Int) := rfl
  have hFs : IntKind.i64.wrap (74 + IntKind.i64.wrap ((h9 l).slot * l.rs)) = ((74 + R : Nat) : Int) := hF
  have hop := rropen_z X (Rd.fresh (List.replicate ((74 + 4 * R) * 64) 0)) _ hlr l (h9 l) (74 + R) hhd hFs (by omega) (some wz)
  refine acalls_of Proofs.Tryd.func40 rfl Proofs.Tryd.ntmps40 (by kernel_rfl) rfl ?_
  intro hH hargs
  clear hH hargs
  repeat' (first | ((refine Qa rfl ?_); (first | refine Q0 ?_ | refine Q1 ?_ | refine QJ rfl rfl ?_); (refine QX rfl rfl ?_)) | refine Qa rfl ?_ | refine Qh ?_ | refine Ql ?_ | refine Qo rfl ?_)
  refine st_call (fun _ => rfl) rfl ?_
  refine ACalls.mono (acalls_pure (E := E0 X) (fun X => hlay X) (by simp [IdsLtL, IdsLt]) _) ?_
  rintro r H' ⟨rfl, rfl⟩
  first | refine nx rfl rfl ?_ | refine nx0 ?_
  repeat' (first | ((refine Qa rfl ?_); (first | refine Q2 rfl ?_ | refine Q3 rfl rfl rfl ?_ | refine Q4 rfl rfl rfl rfl rfl ?_ | refine QJ rfl rfl ?_); (refine QX rfl rfl ?_)) | refine Qa rfl ?_ | (refine Qb rfl ?_; try (refine QS rfl rfl rfl rfl rfl rfl rfl ?_; (refine QX rfl rfl ?_))) | refine Qh ?_ | refine Ql ?_ | refine Qo rfl ?_)
  rw [w1]
  have hnew : (Rd.fresh (List.replicate ((74 + 4 * R) * 64) 0)).new = List.replicate ((74 + 4 * R) * 64) 0 := rfl
  have hbl := rblank_at X (74 + 4 * R) (by omega)
  generalize Rd.fresh (List.replicate ((74 + 4 * R) * 64) 0) = r0 at *
  refine st_call (fun _ => rfl) rfl ?_
  refine ACalls.mono (hbl _) ?_
  rintro r H' ⟨rfl, rfl⟩
  first | refine nx rfl rfl ?_ | refine nx0 ?_
  repeat' (first | ((refine Qa rfl ?_); (refine Q1 ?_); (refine QX rfl rfl ?_)) | refine Qh ?_ | refine Ql ?_)
  refine awp_pre (Imp.trans (imp_freezeP (id := 1) (cs := [.int .i64 l.id, .int .i64 l.ver, .int .i64 l.rs, .int .i64 l.regs]) rfl) (imp_tid 0 [2, 3, 4, 5, 0] (sl' := [(2, .sl 4 (rs.map recA)), (3, .sl 1 (pads.map boA)), (4, .sl 2 (sp.map spA)), (11, .ptr 4 0), (13, .fp [.int .i64 l.id, .int .i64 l.ver, .int .i64 l.rs, .int .i64 l.regs]), (14, .ptr 0 0)]) (H' := rdH r0 ++ [some wz])
    (os := [.cells [.own 1 0 r0.old.length, .own 2 0 r0.new.length, .own 3 0 r0.dirt.length, .bool r0.has, .int .i64 r0.left, .bool r0.gone, .int .i64 r0.wrote] 129, .arr (r0.old.map u8A) 5, .arr (r0.new.map u8A) 5, .arr (r0.dirt.map boA) 4, wz]) (Nat.le_refl _) ?_ ?_ ?_ ?_ rfl ?_ ?_ ?_)) ?_
  · exact Nat.zero_le _
  · simp
  · simp
  · exact hok_nil
  · rfl
  · repeat' (first
      | exact fa_nil
      | exact os_nil
      | exact RenL.nil
      | refine fa_cons ?_ ?_
      | refine os_cons rfl (renO_cells ?_) ?_
      | refine os_cons rfl (renO_old 0 (fun i h => absurd h (Nat.not_lt_zero i)) (by simp [IdsLtO])) ?_
      | refine RenL.cons ?_ ?_
      | exact ren_own rfl
      | exact ren_ptr rfl
      | exact ren_mp rfl
      | exact ren_lt rfl (by first | trivial | (simp [IdsLt]; done)))
  · repeat' (first
      | exact fa_nil
      | exact os_nil
      | exact RenL.nil
      | refine fa_cons ?_ ?_
      | refine os_cons rfl (renO_cells ?_) ?_
      | refine os_cons rfl (renO_old 0 (fun i h => absurd h (Nat.not_lt_zero i)) (by simp [IdsLtO])) ?_
      | refine RenL.cons ?_ ?_
      | exact ren_own rfl
      | exact ren_ptr rfl
      | exact ren_mp rfl
      | exact ren_lt rfl (by first | trivial | (simp [IdsLt, IdsLtL]; done)))
  have hlr1 := (hlr.wr (k := 74 + R) (by omega) (b := encH (h9 l) (74 + R)) (encH_len _ _)).bar
  have hrg1 : RgI (r0.wr (74 + R) (encH (h9 l) (74 + R))).bar.new ((74 + 4 * R) * 64) (h9 l) (74 + R) 9 [] 0 := by
    rw [(hlr.wr (k := 74 + R) (by omega) (b := encH (h9 l) (74 + R)) (encH_len _ _)).bar_new, hlr.wr_new (encH_len _ _), hnew]
    exact RgI.open (by omega)
  generalize (r0.wr (74 + R) (encH (h9 l) (74 + R))).bar = r1 at *
  repeat' (first | ((refine Qa rfl ?_); (first | refine Q0 ?_ | refine Q3 rfl rfl rfl ?_ | refine Q4 rfl rfl rfl rfl rfl ?_ | refine QP rfl rfl rfl rfl rfl rfl ?_); (refine QX rfl rfl ?_)) | refine Qa rfl ?_ | refine Qo rfl ?_)
  refine st_call (fun _ => rfl) rfl ?_
  refine ACalls.mono (hop) ?_
  rintro r H' ⟨rfl, rfl⟩
  first | refine nx rfl rfl ?_ | refine nx0 ?_
  repeat' (first | ((refine Qa rfl ?_); (first | refine Q0 ?_ | refine Q1 ?_ | refine QC rfl rfl ?_); (refine QX rfl rfl ?_)) | refine Qh ?_ | refine Ql ?_)
  have hrm : (rs.map recA).length = rs.length := List.length_map _
  have hpm : (pads.map boA).length = pads.length := List.length_map _
  have hsm : (sp.map spA).length = sp.length := List.length_map _
  have hL9 : (74 + 4 * R) * 64 ≤ 8832 := by omega
  refine Qo rfl ?_
  repeat' (first | ((refine Qa rfl ?_); (refine Q1 ?_); (refine QX rfl rfl ?_)) | refine Qh ?_ | refine Qs ?_)
  refine awp_midE (ι := Rd × List UInt8 × Nat) (fun p => ⟨[(4, .sl 2 (sp.map spA)), (11, .ptr 7 0), (13, .fp [.int .i64 l.id, .int .i64 l.ver, .int .i64 l.rs, .int .i64 l.regs]), (14, .ptr 0 0)], rrH p.1 (h9 l) l p.2.1 p.2.2 ++ [some wz]⟩) (WI ((74 + 4 * R) * 64) (h9 l) l (74 + R) 9) ?_ ?_
  · refine Qn ?_
    refine awp_loop2 (ι := Nat × Rd × List UInt8 × Nat) (fun p => ⟨[(2, .sl 4 (rs.map recA)), (3, .sl 1 (pads.map boA)), (4, .sl 2 (sp.map spA)), (11, .ptr 7 0), (13, .fp [.int .i64 l.id, .int .i64 l.ver, .int .i64 l.rs, .int .i64 l.regs]), (14, .ptr 0 0), (15, .ptr 4 0), (16, .int .i64 0), (17, .int .i64 (p.1 : Int))], rrH p.2.1 (h9 l) l p.2.2.1 p.2.2.2 ++ [some wz]⟩)
      (fun p => p.1 ≤ rs.length ∧ p.1 ≤ 12 ∧ WI ((74 + 4 * R) * 64) (h9 l) l (74 + R) 9 p.2) (fun p => 12 - p.1) (0, r1, [], 0) ⟨Nat.zero_le _, Nat.zero_le _, ⟨hlr1, hrg1, by show 0 = 0 / 59; rfl, by show ((0 : Nat) : Int) ≤ _; omega, ⟨_, Strm.nil⟩⟩⟩ ?_ ?_
    · refine imp_tid 4 [5, 6, 7, 4] (H' := rrH r1 (h9 l) l [] 0 ++ [some wz]) (os := [rrC (h9 l), rpC l (h9 l).slot (h9 l).seq 0 0 6, arB [], wz]) (Nat.zero_le _) ?_ ?_ ?_ ?_ rfl ?_ ?_ ?_
      · simp
      · simp
      · simp
      · exact hok_rfd r1
      · rfl
      · repeat' (first
          | exact fa_nil
          | exact os_nil
          | exact RenL.nil
          | refine fa_cons ?_ ?_
          | refine os_cons rfl (renO_cells ?_) ?_
          | refine os_cons rfl (renO_old 0 (fun i h => absurd h (Nat.not_lt_zero i)) (by simp [IdsLtO])) ?_
          | refine RenL.cons ?_ ?_
          | exact ren_own rfl
          | exact ren_ptr rfl
          | exact ren_mp rfl
          | exact ren_lt rfl (by first | trivial | (simp [IdsLt]; done)))
      · repeat' (first
          | exact fa_nil
          | exact os_nil
          | exact RenL.nil
          | refine fa_cons ?_ ?_
          | refine os_cons rfl (renO_cells ?_) ?_
          | refine os_cons rfl (renO_old 0 (fun i h => absurd h (Nat.not_lt_zero i)) (by simp [IdsLtO, IdsLtL])) ?_
          | refine RenL.cons ?_ ?_
          | exact ren_own rfl
          | exact ren_ptr rfl
          | exact ren_mp rfl
          | exact ren_lt rfl (by first | trivial | (simp [IdsLt, IdsLtL]; done)))
    rintro ⟨i, d, s, t⟩ ⟨hi0, hi12', hw0⟩
    have hi : i ≤ rs.length := hi0
    have hi12 : i ≤ 12 := hi12'
    have hw : WI ((74 + 4 * R) * 64) (h9 l) l (74 + R) 9 (d, s, t) := hw0
    have hiw : IntKind.i64.wrap ((i : Int) + 1) = ((i + 1 : Nat) : Int) := wrap_eq (by omega) (by omega) (by omega)
    clear hi0 hi12' hw0
    show AWp _ _ _ _ _ ⟨[(2, .sl 4 (rs.map recA)), (3, .sl 1 (pads.map boA)), (4, .sl 2 (sp.map spA)), (11, .ptr 7 0), (13, .fp [.int .i64 l.id, .int .i64 l.ver, .int .i64 l.rs, .int .i64 l.regs]), (14, .ptr 0 0), (15, .ptr 4 0), (16, .int .i64 0), (17, .int .i64 (i : Int))], rrH d (h9 l) l s t ++ [some wz]⟩
    repeat' (first | ((refine Qa rfl ?_); (first | refine Q0 ?_ | refine Q2 rfl ?_ | refine Q7 rfl rfl rfl ?_); (refine QX rfl rfl ?_)) | refine Ql ?_ | refine Qo rfl ?_)
    by_cases hlt : i < rs.length
    · rw [decide_eq_true (show (i : Int) < ((rs.map recA).length : Int) by rw [hrm]; omega)]
      repeat' ((refine Qa rfl ?_); (first | refine Q0 ?_ | refine Q2 rfl ?_ | refine Q5 rfl ?_); (refine QX rfl rfl ?_))
      by_cases h12 : i < 12
      · rw [decide_eq_true (show (i : Int) < 12 by omega)]
        repeat' (first | ((refine Qa rfl ?_); (first | refine Q0 ?_ | refine Q2 rfl ?_ | refine Q5 rfl ?_); (refine QX rfl rfl ?_)) | refine Qh ?_ | refine Ql ?_ | refine Qm ?_ | refine Qn ?_ | refine Qp rfl ?_)
        refine awp_midE (ι := Rd × List UInt8 × Nat) (fun p => ⟨[(2, .sl 4 (rs.map recA)), (3, .sl 1 (pads.map boA)), (4, .sl 2 (sp.map spA)), (11, .ptr 7 0), (13, .fp [.int .i64 l.id, .int .i64 l.ver, .int .i64 l.rs, .int .i64 l.regs]), (14, .ptr 0 0), (15, .ptr 4 0), (16, .int .i64 0), (17, .int .i64 (i : Int))], rrH p.1 (h9 l) l p.2.1 p.2.2 ++ [some wz]⟩) (WI ((74 + 4 * R) * 64) (h9 l) l (74 + R) 9) ?_ ?_
        · obtain ⟨r, hx⟩ : ∃ r, rs[i]? = some r := ⟨_, List.getElem?_eq_getElem hlt⟩
          have hk := hkey r (List.mem_of_getElem? hx)
          have hsh := fun X => rshort_c X r hk.1 hk.2
          generalize r.short = r2 at *
          refine Qo rfl ?_
          repeat' (first | ((refine Qa rfl ?_); (refine Q0 ?_); (refine QX rfl rfl ?_)) | refine Qa rfl ?_)
          refine st_ixm hx rfl rfl rfl rfl rfl rfl rfl (by first | rfl | omega) rfl ?_
          first | refine nx rfl rfl ?_ | refine nx0 ?_
          repeat' (first | ((refine Qa rfl ?_); (refine Q3 rfl rfl rfl ?_); (refine QX rfl rfl ?_)) | refine Qa rfl ?_)
          refine st_call (fun _ => rfl) rfl ?_
          refine ACalls.mono (acalls_pure (E := E0 X) (fun X => hsh X) (by simp [IdsLtL]) _) ?_
          rintro r H' ⟨rfl, rfl⟩
          first | refine nx rfl rfl ?_ | refine nx0 ?_
          repeat' (refine Qa rfl ?_)
          have hsl := hw.cap
          have hsl2 : (s.length : Int) ≤ (l.rs - 1) * 59 := hsl
          have htt : t = s.length / 59 := hw.tt
          by_cases hc : chkR l.ver r2 = 0
          · by_cases hfit : (s.length : Int) + (lenR r2 : Int) ≤ (l.rs - 1) * 59
            · have hel : (s ++ encR l.ver 9 s.length r2).length = s.length + lenR r2 := by rw [List.length_append, encR_len]
              obtain ⟨n, hn⟩ : ∃ n, t + n = (s ++ encR l.ver 9 s.length r2).length / 59 := ⟨(s ++ encR l.ver 9 s.length r2).length / 59 - t, by omega⟩
              have hfl : (74 + R + 1 + (s ++ encR l.ver 9 s.length r2).length / 59) * 64 ≤ (74 + 4 * R) * 64 := by omega
              have hap := rr_zM (X := X) (fun X => rrapp_ok X d _ hw.lr l (h9 l) (74 + R) 9 s t r2 n hsq (by decide) hFs (by omega) hc (by omega) hfit hn hfl) (by exact ⟨recA_ids, trivial⟩) (by exact ⟨trivial, trivial, trivial, trivial⟩) (some wz)
              have hw3 := hw.app hc hfit hn hfl
              generalize s ++ encR l.ver 9 s.length r2 = s3 at *
              generalize rdfN d (74 + R) 9 s3 t n = d3 at *
              generalize t + n = t3 at *
              refine st_call (fun _ => rfl) rfl ?_
              refine ACalls.mono (hap) ?_
              rintro r H' ⟨rfl, rfl⟩
              first | refine nx rfl rfl ?_ | refine nx0 ?_
              repeat' (refine Qh ?_)
              refine ⟨rfl, (d3, s3, t3), hw3, ?_⟩
              refine imp_tid 4 [4, 5, 8, 7] (H' := rrH d3 (h9 l) l s3 t3 ++ [some wz]) (os := [rrC (h9 l), rpC l (h9 l).slot (h9 l).seq s3.length t3 6, arB s3, wz]) (Nat.zero_le _) ?_ ?_ ?_ ?_ rfl ?_ ?_ ?_
              · simp
              · simp
              · simp
              · exact hok_rfd d3
              · rfl
              · repeat' (first
                  | exact fa_nil
                  | exact os_nil
                  | exact RenL.nil
                  | refine fa_cons ?_ ?_
                  | refine os_cons rfl (renO_cells ?_) ?_
                  | refine os_cons rfl (renO_old 0 (fun i h => absurd h (Nat.not_lt_zero i)) (by simp [IdsLtO])) ?_
                  | refine RenL.cons ?_ ?_
                  | exact ren_own rfl
                  | exact ren_ptr rfl
                  | exact ren_mp rfl
                  | exact ren_lt rfl (by first | trivial | (simp [IdsLt]; done)))
              · repeat' (first
                  | exact fa_nil
                  | exact os_nil
                  | exact RenL.nil
                  | refine fa_cons ?_ ?_
                  | refine os_cons rfl (renO_cells ?_) ?_
                  | refine os_cons rfl (renO_old 0 (fun i h => absurd h (Nat.not_lt_zero i)) (by simp [IdsLtO])) ?_
                  | refine RenL.cons ?_ ?_
                  | exact ren_own rfl
                  | exact ren_ptr rfl
                  | exact ren_mp rfl
                  | exact ren_lt rfl (by first | trivial | (simp [IdsLt, IdsLtL]; done)))
            · have hap := rr_z (X := X) (fun X => rrapp_full X d l (h9 l) s t r2 hc (by omega) (by omega) (by omega)) (by exact ⟨recA_ids, trivial⟩) (by exact ⟨trivial, trivial, trivial, trivial⟩) (some wz)
              refine st_call (fun _ => rfl) rfl ?_
              refine ACalls.mono (hap) ?_
              rintro r H' ⟨rfl, rfl⟩
              first | refine nx rfl rfl ?_ | refine nx0 ?_
              repeat' (refine Qh ?_)
              refine ⟨rfl, (d, s, t), hw, ?_⟩
              refine imp_cutk 8 (Nat.zero_le _) (hok_rrz (some wz) (fun o ho => by cases ho; exact ⟨trivial, trivial, trivial, trivial, trivial⟩)) rfl (by simp) ?_
              repeat' (first | exact fa_nil | refine fa_cons ⟨?_, ?_⟩ ?_)
              all_goals (try first | exact rfl | exact trivial | (simp [IdsLt, IdsLtL]; done) | (simp [get_cons]; done) | (simp [get_cons, *]; done) | (refine congrArg (AV.int .i64) (wrap_eq ?_ ?_ ?_) <;> (first | omega | (simp; omega))))
              all_goals first | exact idsL_map fun _ => recA_ids | exact idsL_map fun _ => boA_ids | exact idsL_map fun _ => spA_ids | exact ⟨trivial, trivial, trivial, trivial, trivial⟩
          · have hap := rr_z (X := X) (fun X => rrapp_bad X d l (h9 l) s t r2 hc) (by exact ⟨recA_ids, trivial⟩) (by exact ⟨trivial, trivial, trivial, trivial⟩) (some wz)
            refine st_call (fun _ => rfl) rfl ?_
            refine ACalls.mono (hap) ?_
            rintro r H' ⟨rfl, rfl⟩
            first | refine nx rfl rfl ?_ | refine nx0 ?_
            repeat' (refine Qh ?_)
            refine ⟨rfl, (d, s, t), hw, ?_⟩
            refine imp_cutk 8 (Nat.zero_le _) (hok_rrz (some wz) (fun o ho => by cases ho; exact ⟨trivial, trivial, trivial, trivial, trivial⟩)) rfl (by simp) ?_
            repeat' (first | exact fa_nil | refine fa_cons ⟨?_, ?_⟩ ?_)
            all_goals (try first | exact rfl | exact trivial | (simp [IdsLt, IdsLtL]; done) | (simp [get_cons]; done) | (simp [get_cons, *]; done) | (refine congrArg (AV.int .i64) (wrap_eq ?_ ?_ ?_) <;> (first | omega | (simp; omega))))
            all_goals first | exact idsL_map fun _ => recA_ids | exact idsL_map fun _ => boA_ids | exact idsL_map fun _ => spA_ids | exact ⟨trivial, trivial, trivial, trivial, trivial⟩
        · rintro ⟨d2, s2, t2⟩ hw2
          have htt : t2 = s2.length / 59 := hw2.tt
          have hsl2 : (s2.length : Int) ≤ (l.rs - 1) * 59 := hw2.cap
          have hmu : 12 - (i + 1) < 12 - i := by omega
          show AWp _ _ _ _ _ ⟨[(2, .sl 4 (rs.map recA)), (3, .sl 1 (pads.map boA)), (4, .sl 2 (sp.map spA)), (11, .ptr 7 0), (13, .fp [.int .i64 l.id, .int .i64 l.ver, .int .i64 l.rs, .int .i64 l.regs]), (14, .ptr 0 0), (15, .ptr 4 0), (16, .int .i64 0), (17, .int .i64 (i : Int))], rrH d2 (h9 l) l s2 t2 ++ [some wz]⟩
          repeat' (first | ((refine Qa rfl ?_); (first | refine Q0 ?_ | refine Q2 rfl ?_ | refine Q7 rfl rfl rfl ?_); (refine QX rfl rfl ?_)) | refine Ql ?_ | refine Qo rfl ?_)
          by_cases hp : i < pads.length
          · rw [decide_eq_true (show (i : Int) < ((pads.map boA).length : Int) by rw [hpm]; omega)]
            obtain ⟨b, hb⟩ : ∃ b, pads[i]? = some b := ⟨_, List.getElem?_eq_getElem hp⟩
            repeat' (first | ((refine Qa rfl ?_); (refine Q0 ?_); (refine QX rfl rfl ?_)) | refine Qa rfl ?_)
            refine st_ixm hb rfl rfl rfl rfl rfl rfl rfl (by first | rfl | omega) rfl ?_
            first | refine nx rfl rfl ?_ | refine nx0 ?_
            cases b with
            | true =>
              have hpl := pad_cap hsl2
              have hps : s2.length ≤ (padS s2).length := by simp [padS]
              obtain ⟨n, hn⟩ : ∃ n, t2 + n = (padS s2).length / 59 := ⟨(padS s2).length / 59 - t2, by omega⟩
              have hfl : (74 + R + 1 + (padS s2).length / 59) * 64 ≤ (74 + 4 * R) * 64 := by omega
              have hsy := rr_zM (X := X) (fun X => rrsync_c X d2 _ hw2.lr l (h9 l) (74 + R) 9 s2 t2 n hsq (by decide) hFs (by omega) (by omega) hn hfl) trivial trivial (some wz)
              have hw3 := hw2.sync hn hfl
              generalize padS s2 = s3 at *
              generalize (rdfN d2 (74 + R) 9 s3 t2 n).bar = d3 at *
              generalize t2 + n = t3 at *
              repeat' (first | ((refine Qa rfl ?_); (first | refine Q0 ?_ | refine Q3 rfl rfl rfl ?_ | refine Q5 rfl ?_); (refine QX rfl rfl ?_)) | refine Qa rfl ?_ | refine Qh ?_ | refine Qo rfl ?_ | refine Qp rfl ?_)
              refine st_call (fun _ => rfl) rfl ?_
              refine ACalls.mono (hsy) ?_
              rintro r H' ⟨rfl, rfl⟩
              first | refine nx rfl rfl ?_ | refine nx0 ?_
              repeat' (first | ((refine Qa rfl ?_); (first | refine Q0 ?_ | refine Q1 ?_ | refine Q2 rfl ?_); (refine QX rfl rfl ?_)) | refine Qh ?_ | refine Qo rfl ?_ | refine Qs ?_)
              rw [hiw]
              refine ⟨(i + 1, d3, s3, t3), ⟨hlt, h12, hw3⟩, hmu, ?_⟩
              refine imp_tid 4 [4, 5, 8, 7] (H' := rrH d3 (h9 l) l s3 t3 ++ [some wz]) (os := [rrC (h9 l), rpC l (h9 l).slot (h9 l).seq s3.length t3 6, arB s3, wz]) (Nat.zero_le _) ?_ ?_ ?_ ?_ rfl ?_ ?_ ?_
              · simp
              · simp
              · simp
              · exact hok_rfd d3
              · rfl
              · repeat' (first
                  | exact fa_nil
                  | exact os_nil
                  | exact RenL.nil
                  | refine fa_cons ?_ ?_
                  | refine os_cons rfl (renO_cells ?_) ?_
                  | refine os_cons rfl (renO_old 0 (fun i h => absurd h (Nat.not_lt_zero i)) (by simp [IdsLtO])) ?_
                  | refine RenL.cons ?_ ?_
                  | exact ren_own rfl
                  | exact ren_ptr rfl
                  | exact ren_mp rfl
                  | exact ren_lt rfl (by first | trivial | (simp [IdsLt]; done)))
              · repeat' (first
                  | exact fa_nil
                  | exact os_nil
                  | exact RenL.nil
                  | refine fa_cons ?_ ?_
                  | refine os_cons rfl (renO_cells ?_) ?_
                  | refine os_cons rfl (renO_old 0 (fun i h => absurd h (Nat.not_lt_zero i)) (by simp [IdsLtO])) ?_
                  | refine RenL.cons ?_ ?_
                  | exact ren_own rfl
                  | exact ren_ptr rfl
                  | exact ren_mp rfl
                  | exact ren_lt rfl (by first | trivial | (simp [IdsLt, IdsLtL]; done)))
            | false =>
              repeat' (first | ((refine Qa rfl ?_); (first | refine Q0 ?_ | refine Q1 ?_ | refine Q2 rfl ?_ | refine Q3 rfl rfl rfl ?_ | refine Q5 rfl ?_); (refine QX rfl rfl ?_)) | refine Qh ?_ | refine Qm ?_ | refine Qo rfl ?_ | refine Qq rfl ?_ | refine Qs ?_)
              rw [hiw]
              refine ⟨(i + 1, d2, s2, t2), ⟨hlt, h12, hw2⟩, hmu, ?_⟩
              refine imp_cutk 8 (Nat.zero_le _) (hok_rrz (some wz) (fun o ho => by cases ho; exact ⟨trivial, trivial, trivial, trivial, trivial⟩)) rfl (by simp) ?_
              repeat' (first | exact fa_nil | refine fa_cons ⟨?_, ?_⟩ ?_)
              all_goals (try first | exact rfl | exact trivial | (simp [IdsLt, IdsLtL]; done) | (simp [get_cons]; done) | (simp [get_cons, *]; done) | (refine congrArg (AV.int .i64) (wrap_eq ?_ ?_ ?_) <;> (first | omega | (simp; omega))))
              all_goals first | exact idsL_map fun _ => recA_ids | exact idsL_map fun _ => boA_ids | exact idsL_map fun _ => spA_ids | exact ⟨trivial, trivial, trivial, trivial, trivial⟩
          · rw [decide_eq_false (show ¬ (i : Int) < ((pads.map boA).length : Int) by rw [hpm]; omega)]
            repeat' (first | ((refine Qa rfl ?_); (first | refine Q0 ?_ | refine Q1 ?_ | refine Q2 rfl ?_ | refine Q5 rfl ?_); (refine QX rfl rfl ?_)) | refine Qh ?_ | refine Qi rfl ?_ | refine Qm ?_ | refine Qo rfl ?_ | refine Qq rfl ?_ | refine Qs ?_)
            rw [hiw]
            refine ⟨(i + 1, d2, s2, t2), ⟨hlt, h12, hw2⟩, hmu, ?_⟩
            refine imp_cutk 8 (Nat.zero_le _) (hok_rrz (some wz) (fun o ho => by cases ho; exact ⟨trivial, trivial, trivial, trivial, trivial⟩)) rfl (by simp) ?_
            repeat' (first | exact fa_nil | refine fa_cons ⟨?_, ?_⟩ ?_)
            all_goals (try first | exact rfl | exact trivial | (simp [IdsLt, IdsLtL]; done) | (simp [get_cons]; done) | (simp [get_cons, *]; done) | (refine congrArg (AV.int .i64) (wrap_eq ?_ ?_ ?_) <;> (first | omega | (simp; omega))))
            all_goals first | exact idsL_map fun _ => recA_ids | exact idsL_map fun _ => boA_ids | exact idsL_map fun _ => spA_ids | exact ⟨trivial, trivial, trivial, trivial, trivial⟩
      · rw [decide_eq_false (show ¬ (i : Int) < 12 by omega)]
        repeat' (first | ((refine Qa rfl ?_); (refine Q5 rfl ?_); (refine QX rfl rfl ?_)) | refine Qh ?_ | refine Qi rfl ?_ | refine Qq rfl ?_ | refine Qr ?_ | refine Qt ?_ | refine Qv ?_)
        refine ⟨rfl, (d, s, t), hw, ?_⟩
        refine imp_cutk 8 (Nat.zero_le _) (hok_rrz (some wz) (fun o ho => by cases ho; exact ⟨trivial, trivial, trivial, trivial, trivial⟩)) rfl (by simp) ?_
        repeat' (first | exact fa_nil | refine fa_cons ⟨?_, ?_⟩ ?_)
        all_goals (try first | exact rfl | exact trivial | (simp [IdsLt, IdsLtL]; done) | (simp [get_cons]; done) | (simp [get_cons, *]; done) | (refine congrArg (AV.int .i64) (wrap_eq ?_ ?_ ?_) <;> (first | omega | (simp; omega))))
        all_goals first | exact idsL_map fun _ => spA_ids | exact ⟨trivial, trivial, trivial, trivial, trivial⟩
    · rw [decide_eq_false (show ¬ (i : Int) < ((rs.map recA).length : Int) by rw [hrm]; omega)]
      repeat' (first | ((refine Qa rfl ?_); (first | refine Q0 ?_ | refine Q5 rfl ?_); (refine QX rfl rfl ?_)) | refine Qh ?_ | refine Qi rfl ?_ | refine Qq rfl ?_ | refine Qr ?_ | refine Qt ?_ | refine Qv ?_)
      refine ⟨rfl, (d, s, t), hw, ?_⟩
      refine imp_cutk 8 (Nat.zero_le _) (hok_rrz (some wz) (fun o ho => by cases ho; exact ⟨trivial, trivial, trivial, trivial, trivial⟩)) rfl (by simp) ?_
      repeat' (first | exact fa_nil | refine fa_cons ⟨?_, ?_⟩ ?_)
      all_goals (try first | exact rfl | exact trivial | (simp [IdsLt, IdsLtL]; done) | (simp [get_cons]; done) | (simp [get_cons, *]; done) | (refine congrArg (AV.int .i64) (wrap_eq ?_ ?_ ?_) <;> (first | omega | (simp; omega))))
      all_goals first | exact idsL_map fun _ => spA_ids | exact ⟨trivial, trivial, trivial, trivial, trivial⟩
  rintro ⟨d, s, t⟩ hw
  have hdl : d.new.length = (74 + 4 * R) * 64 := hw.lr.new
  have hrg : RgI d.new ((74 + 4 * R) * 64) (h9 l) (74 + R) 9 s t := hw.rg
  have hsl2 : (s.length : Int) ≤ (l.rs - 1) * 59 := hw.cap
  have htt : t = s.length / 59 := hw.tt
  have hRn : l.rs.toNat = R := by omega
  have hdone : ∀ img : List UInt8, img.length = (74 + 4 * R) * 64 → (sp = [] → img = d.new) → WrI l sp img := fun img h1 h2 => by
    unfold WrI
    rw [hRn]
    exact ⟨h1, fun h3 => by rw [h2 h3]; exact ⟨_, _, _, hrg, by omega, hsl2⟩⟩
  generalize hN : (74 + 4 * R) * 64 = N at *
  show AWp _ _ _ _ _ ⟨[(4, .sl 2 (sp.map spA)), (11, .ptr 7 0), (13, .fp [.int .i64 l.id, .int .i64 l.ver, .int .i64 l.rs, .int .i64 l.regs]), (14, .ptr 0 0)], rdH d ++ [some (rrC (h9 l)), some (rpC l (h9 l).slot (h9 l).seq s.length t 6), some (arB s), some wz]⟩
  repeat' (first | ((refine Qa rfl ?_); (first | refine Q0 ?_ | refine Q3 rfl rfl rfl ?_ | refine Q4 rfl rfl rfl rfl rfl ?_ | refine Q6 rfl ?_); (refine QX rfl rfl ?_)) | refine Qa rfl ?_ | refine Ql ?_ | refine Qo rfl ?_)
  refine st_app (oid := none) (es := []) (out := d.new.map u8A) (n := d.new.length) (rfl) ((src_ownm' rfl rfl rfl (by omega) (by rw [List.drop_zero, List.take_of_length_le (by omega)]))) (oneEs_u8 _) (by simp) (by simp) (by show _ ≤ 9223372036854775807; omega) (by show _ * 1 ≤ _; omega) rfl rfl rfl rfl rfl rfl rfl rfl ?_
  first | refine nx rfl rfl ?_ | refine nx0 ?_
  repeat' (first | ((refine Qa rfl ?_); (refine Q1 ?_); (refine QX rfl rfl ?_)) | refine Qh ?_ | refine Ql ?_)
  refine Qo rfl ?_
  repeat' (first | ((refine Qa rfl ?_); (refine Q1 ?_); (refine QX rfl rfl ?_)) | refine Qh ?_ | refine Qs ?_)
  refine awp_midE (ι := List UInt8) (fun img => ⟨[(11, .ptr 0 0), (13, .fp [.int .i64 l.id, .int .i64 l.ver, .int .i64 l.rs, .int .i64 l.regs]), (18, .own 1 0 img.length)], [some wz, some (.arr (img.map u8A) 5)]⟩) (fun img => img.length = N ∧ (sp = [] → img = d.new)) ?_ ?_
  · refine Qn ?_
    refine awp_loop2 (ι := Nat × List UInt8) (fun p => ⟨[(4, .sl 2 (sp.map spA)), (11, .ptr 0 0), (13, .fp [.int .i64 l.id, .int .i64 l.ver, .int .i64 l.rs, .int .i64 l.regs]), (18, .own 1 0 p.2.length), (19, .int .i64 (p.1 : Int))], [some wz, some (.arr (p.2.map u8A) 5)]⟩) (fun p => p.1 ≤ 4 ∧ p.2.length = N ∧ (sp = [] → p.2 = d.new)) (fun p => 4 - p.1) (0, d.new) ⟨Nat.zero_le _, hdl, fun _ => rfl⟩ ?_ ?_
    · refine imp_tid 0 [7, 8] (H' := [some wz, some (.arr (d.new.map u8A) 5)]) (os := [wz, .arr (d.new.map u8A) 5]) (Nat.le_refl _) ?_ ?_ ?_ ?_ rfl ?_ ?_ ?_
      · exact Nat.zero_le _
      · simp
      · simp
      · exact hok_nil
      · rfl
      · repeat' (first
          | exact fa_nil
          | exact os_nil
          | exact RenL.nil
          | refine fa_cons ?_ ?_
          | refine os_cons rfl (renO_cells ?_) ?_
          | refine os_cons rfl (renO_old 0 (fun i h => absurd h (Nat.not_lt_zero i)) (by simp [IdsLtO])) ?_
          | refine RenL.cons ?_ ?_
          | exact ren_own rfl
          | exact ren_ptr rfl
          | exact ren_mp rfl
          | exact ren_lt rfl (by first | trivial | (simp [IdsLt]; done)))
      · repeat' (first
          | exact fa_nil
          | exact os_nil
          | exact RenL.nil
          | refine fa_cons ?_ ?_
          | refine os_cons rfl (renO_cells ?_) ?_
          | refine os_cons rfl (renO_old 0 (fun i h => absurd h (Nat.not_lt_zero i)) (by simp [IdsLtO])) ?_
          | refine RenL.cons ?_ ?_
          | exact ren_own rfl
          | exact ren_ptr rfl
          | exact ren_mp rfl
          | exact ren_lt rfl (by first | trivial | (simp [IdsLt, IdsLtL]; done)))
    rintro ⟨i, img⟩ ⟨hi0, hil0, hie0⟩
    have hi4 : i ≤ 4 := hi0
    have hil : img.length = N := hil0
    have hie : sp = [] → img = d.new := hie0
    clear hi0 hil0 hie0
    have hiw : IntKind.i64.wrap ((i : Int) + 1) = ((i + 1 : Nat) : Int) := wrap_eq (by omega) (by omega) (by omega)
    show AWp _ _ _ _ _ ⟨[(4, .sl 2 (sp.map spA)), (11, .ptr 0 0), (13, .fp [.int .i64 l.id, .int .i64 l.ver, .int .i64 l.rs, .int .i64 l.regs]), (18, .own 1 0 img.length), (19, .int .i64 (i : Int))], [some wz, some (.arr (img.map u8A) 5)]⟩
    have hokz : HOk 2 [some wz, some (.arr (img.map u8A) 5)] := fun j o ho => by
      match j, ho with
      | 0, ho => cases ho; exact ⟨trivial, trivial, trivial, trivial, trivial⟩
      | 1, ho => cases ho; exact idsL_map fun _ => u8A_ids
    repeat' (first | ((refine Qa rfl ?_); (first | refine Q0 ?_ | refine Q2 rfl ?_ | refine Q7 rfl rfl rfl ?_); (refine QX rfl rfl ?_)) | refine Ql ?_ | refine Qo rfl ?_)
    by_cases hlt : i < sp.length
    · rw [decide_eq_true (show (i : Int) < ((sp.map spA).length : Int) by rw [hsm]; omega)]
      repeat' (first | ((refine Qa rfl ?_); (first | refine Q0 ?_ | refine Q2 rfl ?_ | refine Q5 rfl ?_); (refine QX rfl rfl ?_)) | refine Qh ?_ | refine Qs ?_)
      by_cases h4 : i < 4
      · rw [decide_eq_true (show (i : Int) < 4 by omega)]
        obtain ⟨x, hx⟩ : ∃ x, sp[i]? = some x := ⟨_, List.getElem?_eq_getElem hlt⟩
        obtain ⟨k, hk, hk2⟩ := modc2 x.pos (64 * R) (by omega) (by omega)
        have w5 : IntKind.i64.wrap (l.rs * 64) = ((64 * R : Nat) : Int) := wrap_eq (by omega) (by omega) (by omega)
        have w6 : IntKind.i64.wrap (4736 + ((64 * R : Nat) : Int)) = ((4736 + 64 * R : Nat) : Int) := wrap_eq (by omega) (by omega) (by omega)
        have w7 : IntKind.i64.wrap (((4736 + 64 * R : Nat) : Int) + (k : Int)) = ((4736 + 64 * R + k : Nat) : Int) := wrap_eq (by omega) (by omega) (by omega)
        have hne : ((64 * R : Nat) : Int) ≠ 0 := by omega
        obtain ⟨y, hy⟩ : ∃ y, img[4736 + 64 * R + k]? = some y := ⟨_, List.getElem?_eq_getElem (by omega)⟩
        repeat' (first | ((refine Qa rfl ?_); (first | refine Q1 ?_ | refine Q2 rfl ?_ | refine Q3 rfl rfl rfl ?_ | refine Q4 rfl rfl rfl rfl rfl ?_); (refine QX rfl rfl ?_)) | refine Qh ?_ | refine Ql ?_ | refine Qm ?_ | refine Qn ?_ | refine Qo rfl ?_ | refine Qp rfl ?_ | refine Qs ?_)
        rw [w5, w6]
        refine awp_region_any [23] [0, 1, 2, 3, 5, 7, 9, 10, 11, 13, 16, 17, 19, 21] (by exact rfl) ?_
        refine any_lin (fuel := 0) [0, 1, 2, 3, 4, 5, 6, 7, 8, 9, 10, 11, 12, 13, 14, 15, 16, 17, 18, 19, 20, 21, 22, 23] (by exact rfl) (by kernel_rfl) (by kernel_rfl) ?_
        repeat' ((first | apply Qd rfl rfl rfl rfl | (apply Qe rfl rfl rfl rfl; intro H9)); (refine Q0 ?_); (exact QY rfl ⟨rfl, rfl⟩))
        apply ds rfl rfl rfl rfl
        · refine st_ixm hx rfl rfl rfl rfl rfl rfl rfl (by first | rfl | omega) rfl ?_
          first | exact nx rfl rfl ⟨rfl, rfl⟩ | exact nx0 ⟨rfl, rfl⟩
        repeat' ((first | apply Qd rfl rfl rfl rfl | (apply Qe rfl rfl rfl rfl; intro H9)); (first | refine Q0 ?_ | refine Q3 rfl rfl rfl ?_ | refine Q4 rfl rfl rfl rfl rfl ?_); (first | exact QX rfl rfl ⟨rfl, rfl⟩ | exact QY rfl ⟨rfl, rfl⟩))
        apply ds rfl rfl rfl rfl
        · refine st_rem rfl rfl hne ?_
          first | exact nx rfl rfl ⟨rfl, rfl⟩ | exact nx0 ⟨rfl, rfl⟩
        repeat' ((first | apply Qd rfl rfl rfl rfl | (apply Qe rfl rfl rfl rfl; intro H9)); (first | refine Q0 ?_ | refine Q2 rfl ?_); (exact QY rfl ⟨rfl, rfl⟩))
        apply ds rfl rfl rfl rfl
        · refine st_rem rfl rfl hne ?_
          rw [hk]
          first | exact nx rfl rfl ⟨rfl, rfl⟩ | exact nx0 ⟨rfl, rfl⟩
        repeat' ((first | apply Qd rfl rfl rfl rfl | (apply Qe rfl rfl rfl rfl; intro H9)); (refine Q2 rfl ?_); (exact QY rfl ⟨rfl, rfl⟩))
        rw [w7]
        apply ds rfl rfl rfl rfl
        · refine st_ixo (j := 4736 + 64 * R + k) (p := 4736 + 64 * R + k) (rfl) (by first | omega | assumption | (simp; omega)) (by omega) rfl rfl rfl rfl rfl rfl rfl rfl ?_
          first | exact nx rfl rfl ⟨rfl, rfl⟩ | exact nx0 ⟨rfl, rfl⟩
        apply ds rfl rfl rfl rfl
        · refine st_load_pe rfl rfl (y := u8A y) (by simp [hy]) rfl rfl rfl ?_
          first | exact nx rfl rfl ⟨rfl, rfl⟩ | exact nx0 ⟨rfl, rfl⟩
        repeat' ((first | apply Qd rfl rfl rfl rfl | (apply Qe rfl rfl rfl rfl; intro H9)); (refine Q0 ?_); (exact QY rfl ⟨rfl, rfl⟩))
        apply ds rfl rfl rfl rfl
        · refine st_ixm hx rfl rfl rfl rfl rfl rfl rfl (by first | rfl | omega) rfl ?_
          first | exact nx rfl rfl ⟨rfl, rfl⟩ | exact nx0 ⟨rfl, rfl⟩
        repeat' ((first | apply Qd rfl rfl rfl rfl | (apply Qe rfl rfl rfl rfl; intro H9)); (first | refine Q2 rfl ?_ | refine Q3 rfl rfl rfl ?_ | refine Q4 rfl rfl rfl rfl rfl ?_); (first | exact QX rfl rfl ⟨rfl, rfl⟩ | exact QY rfl ⟨rfl, rfl⟩))
        rw [add_u8]
        apply ds rfl rfl rfl rfl
        · refine st_ixo (j := 4736 + 64 * R + k) (p := 4736 + 64 * R + k) (rfl) (by first | omega | assumption | (simp; omega)) (by omega) rfl rfl rfl rfl rfl rfl rfl rfl ?_
          first | exact nx rfl rfl ⟨rfl, rfl⟩ | exact nx0 ⟨rfl, rfl⟩
        refine ds_ef0 rfl rfl rfl ?_
        refine st_store_pe rfl rfl rfl rfl (y := u8A y) (by simp [hy]) rfl rfl rfl rfl rfl ?_
        first | refine nx rfl rfl ?_ | refine nx0 ?_
        repeat' (first | ((refine Qa rfl ?_); (first | refine Q0 ?_ | refine Q1 ?_ | refine Q2 rfl ?_); (refine QX rfl rfl ?_)) | refine Qh ?_ | refine Qk ?_ | refine Qo rfl ?_ | refine Qs ?_ | refine Qw (by kernel_rfl) ?_)
        rw [hiw]
        refine ⟨(i + 1, img.set (4736 + 64 * R + k) (y + x.add)), ⟨h4, by rw [List.length_set]; exact hil, fun h => by rw [h] at hlt; simp at hlt⟩, by show 4 - (i + 1) < 4 - i; omega, ?_⟩
        refine imp_cutk 2 (Nat.zero_le _) (fun j o ho => by
          match j, ho with
          | 0, ho => cases ho; exact ⟨trivial, trivial, trivial, trivial, trivial⟩
          | 1, ho => cases ho; exact idsL_map fun _ => u8A_ids) (by simp only [List.map_set]; rfl) (by simp) ?_
        repeat' (first | exact fa_nil | refine fa_cons ⟨?_, ?_⟩ ?_)
        all_goals (try first | exact rfl | exact trivial | (simp [IdsLt, IdsLtL]; done) | (simp [get_cons]; done) | (simp [get_cons, *]; done) | (refine congrArg (AV.int .i64) (wrap_eq ?_ ?_ ?_) <;> (first | omega | (simp; omega))))
      · rw [decide_eq_false (show ¬ (i : Int) < 4 by omega)]
        repeat' (first | refine Qq rfl ?_ | refine Qr ?_ | refine Qt ?_ | refine Qv ?_)
        refine ⟨rfl, img, ⟨hil, hie⟩, ?_⟩
        refine imp_cutk 2 (Nat.zero_le _) hokz rfl (by simp) ?_
        repeat' (first | exact fa_nil | refine fa_cons ⟨?_, ?_⟩ ?_)
        all_goals (try first | exact rfl | exact trivial | (simp [IdsLt, IdsLtL]; done) | (simp [get_cons]; done) | (simp [get_cons, *]; done) | (refine congrArg (AV.int .i64) (wrap_eq ?_ ?_ ?_) <;> (first | omega | (simp; omega))))
    · rw [decide_eq_false (show ¬ (i : Int) < ((sp.map spA).length : Int) by rw [hsm]; omega)]
      repeat' (first | ((refine Qa rfl ?_); (refine Q5 rfl ?_); (refine QX rfl rfl ?_)) | refine Qh ?_ | refine Qi rfl ?_ | refine Qq rfl ?_ | refine Qr ?_ | refine Qt ?_ | refine Qv ?_)
      refine ⟨rfl, img, ⟨hil, hie⟩, ?_⟩
      refine imp_cutk 2 (Nat.zero_le _) hokz rfl (by simp) ?_
      repeat' (first | exact fa_nil | refine fa_cons ⟨?_, ?_⟩ ?_)
      all_goals (try first | exact rfl | exact trivial | (simp [IdsLt, IdsLtL]; done) | (simp [get_cons]; done) | (simp [get_cons, *]; done) | (refine congrArg (AV.int .i64) (wrap_eq ?_ ?_ ?_) <;> (first | omega | (simp; omega))))
  rintro img ⟨hil, hie⟩
  have hdo := hdone img hil hie
  show AWp _ _ _ _ _ ⟨[(11, .ptr 0 0), (13, .fp [.int .i64 l.id, .int .i64 l.ver, .int .i64 l.rs, .int .i64 l.regs]), (18, .own 1 0 img.length)], [some (.cells [.int .i64 0, .int .i64 0, .int .i64 0, .int .i64 0] 29), some (.arr (img.map u8A) 5)]⟩
  repeat' (refine Ql ?_)
  refine awp_region_any [3] [0, 2, 4] (by exact rfl) ?_
  refine any_lin (fuel := 0) [0, 1, 2, 3, 4] (by exact rfl) (by kernel_rfl) (by kernel_rfl) ?_
  repeat' (first | ((first | apply Qd rfl rfl rfl rfl | (apply Qe rfl rfl rfl rfl; intro H9)); (first | refine Q0 ?_ | refine Q1 ?_ | refine Q3 rfl rfl rfl ?_); (first | exact QX rfl rfl ⟨rfl, rfl⟩ | exact QY rfl ⟨rfl, rfl⟩)) | (refine Qf rfl rfl rfl ?_; refine QS rfl rfl rfl rfl rfl rfl rfl ?_; (refine QX rfl rfl ?_)) | refine Qk ?_ | refine Qs ?_ | refine Qw (by kernel_rfl) ?_)
  refine awp_pre (Imp.trans (imp_freeze (id := 1) (k := 1) (es := img.map u8A) (e := 5) rfl rfl rfl) (imp_cutk 1 (Nat.zero_le _) (H0 := [some (.cells [.int .i64 l.id, .int .i64 l.ver, .int .i64 l.rs, .int .i64 l.regs] 29)]) (fun j o ho => by
    match j, ho with
    | 0, ho => cases ho; exact ⟨trivial, trivial, trivial, trivial, trivial⟩) rfl (by simp) (sl' := [(10, .sl 1 (img.map u8A)), (11, .ptr 0 0), (12, .int .i64 9)]) ?_)) ?_
  · refine fa_cons ⟨?_, idsL_map fun _ => u8A_ids⟩ (fa_cons ⟨rfl, by simp [IdsLt]⟩ (fa_cons ⟨rfl, trivial⟩ fa_nil))
    show frz 1 1 (img.map u8A) (.own 1 0 img.length) = _
    simp [frz]
    rw [List.take_of_length_le (by simp)]
  refine awp_ret ?_
  exact ⟨_, rfl, img, hdo, rfl⟩
end Go.Abs
namespace Go.Abs
theorem recsF_ok {ver : Int} {seq : Nat} {b : List UInt8} : ∀ (n off : Nat), ∀ p ∈ recsF ver seq b n off, chkR ver p.2 = 0 := by
  intro n
  induction n with
  | zero => intro off p hp; simp [recsF] at hp
  | succ n ih =>
    intro off p hp
    rcases Nat.lt_or_ge off b.length with h | h
    · rw [recsF_off n h] at hp
      split at hp
      · exact ih _ p hp
      · cases hd : decR ver seq off (b.drop off) with
        | none => rw [hd] at hp; simp at hp
        | some r =>
          rw [hd] at hp
          simp only [List.mem_cons] at hp
          rcases hp with rfl | hp
          · exact (decR_len hd).2.1
          · exact ih _ p hp
    · rw [recsF_end _ h] at hp; simp at hp
theorem recsF_len {ver : Int} {seq : Nat} {b : List UInt8} : ∀ (n off : Nat), (recsF ver seq b n off).length ≤ n := by
  intro n
  induction n with
  | zero => intro off; simp [recsF]
  | succ n ih =>
    intro off
    rcases Nat.lt_or_ge off b.length with h | h
    · rw [recsF_off n h]
      split
      · have := ih ((off / 59 + 1) * 59); omega
      · cases hd : decR ver seq off (b.drop off) with
        | none => simp
        | some r =>
          have := ih (off + lenR r)
          simp only [List.length_cons]; omega
    · rw [recsF_end _ h]; simp
theorem recs_ok {ver : Int} {seq : Nat} {b : List UInt8} : ∀ p ∈ recs ver seq b, p.2.key.length ≤ 1073741824 ∧ p.2.val.length ≤ 1073741824 := fun p hp => by
  have h := rec_ok (recsF_ok _ _ p hp)
  have := h.keyle
  have := h.val
  omega
theorem recs_len {ver : Int} {seq : Nat} {b : List UInt8} : (recs ver seq b).length ≤ b.length := recsF_len _ _
def awH : Hd := ⟨1, 1, 3, 5, 5, 0⟩
def awR : Rec := ⟨2, [107], [], 0⟩
def awL : La := la14 0 1
def lzS : List UInt8 := List.replicate (((100 : Nat) : Int).toNat * 64) 0
def av1 : Dv := { (Dv.fresh lzS).put 78 (encH awH 78) with old := [] }
def as1 : List UInt8 := [] ++ encR awL.ver 5 ([] : List UInt8).length awR
def av2 : Dv := { dfN av1 78 5 (padS as1) 0 1 with old := [] }
theorem awL_form : formB awL = true := la14_form (by decide) (by decide)
theorem awL_slot : slotOk awL awH.slot := ⟨awL_form, by decide, by decide⟩
theorem awH_ok : hdB awH = true := by kernel_rfl
theorem awR_ok : chkR awL.ver awR = 0 := by kernel_rfl
theorem as1_len : as1.length = 17 := by
  unfold as1
  rw [List.nil_append, encR_len]; rfl
theorem pads1_len : (padS as1).length = 59 := by
  have := as1_len
  simp only [padS, List.length_append, List.length_replicate]
  omega
theorem lzS_lv : Lv 6400 (Dv.fresh lzS) := lv_new 100 (by decide) (by decide)
theorem av1_lv : Lv 6400 av1 := (lzS_lv.put (k := 78) (by decide) (by rw [encH_len]; decide)).clean
theorem av1_rg : RgI av1.image 6400 awH 78 5 [] 0 := by
  have h : av1.image = putI (List.replicate 6400 0) 78 (encH awH 78) := put_image _ _ (encH_len _ _)
  rw [h]
  exact RgI.open (by decide)
theorem av2_lv : Lv 6400 av2 := (av1_lv.df 1 (by decide)).clean
theorem av2_rg : RgI av2.image 6400 awH 78 5 (padS as1) 1 := by
  have g : RgI av1.image 6400 awH 78 5 (padS as1) 0 := by
    have h := av1_rg.more (padS as1)
    rw [List.nil_append] at h
    exact h
  exact g.frames 1 (by rw [pads1_len]; decide) (by decide)
theorem aw_strm : Strm awL.ver 5 (padS as1) [(0, awR)] := (Strm.nil.app awR awR_ok).pad
theorem aw_hdr : scanH av2 awL 1 = some awH := by
  rw [scanH_eq av2_lv]
  exact hdr_rg av2_rg (l := awL) (h := awH) awL_slot awH_ok rfl rfl rfl (by decide)
theorem aw_str (q : Nat) : strF av2 q (awL.rs.toNat - 1) ((74 + 1 * awL.rs).toNat + 1) = strR av2.image q 3 (78 + 1) := strF_strR av2_lv q _ _
theorem aw_rec5 : recs awL.ver 5 (strF av2 5 (awL.rs.toNat - 1) ((74 + 1 * awL.rs).toNat + 1)) = [(0, awR)] := by
  rw [aw_str, show 78 + 1 = 78 + 1 + 0 from rfl, strR_rg av2_rg 3 0 (by decide) (by decide) (by decide)]
  have e : ((padS as1).drop (0 * 59)).take ((1 - 0) * 59) = padS as1 := by
    rw [Nat.zero_mul, List.drop_zero, List.take_of_length_le (by rw [pads1_len]; decide)]
  rw [e]
  exact aw_strm.all
theorem aw_rec6 : recs awL.ver 6 (strF av2 6 (awL.rs.toNat - 1) ((74 + 1 * awL.rs).toNat + 1)) = [] := by
  rw [aw_str, strR_none av2_rg (by decide) (by decide) (by decide) (by decide)]
  rfl
attribute [local irreducible] AStep aops AWp Nx awM
set_option maxHeartbeats 0 in
set_option maxRecDepth 100000 in
theorem lay14_aw (X : Nat → Prop) : ACalls (E0 X) 47 [.int .i64 0, .int .i64 1] [] (fun r H' => r = laA awL ∧ H' = []) := by
  refine ACalls.cut0 ?_ laA_ids
  refine acalls_of Proofs.Tryd.func47 rfl Proofs.Tryd.ntmps47 (by kernel_rfl) rfl ?_
  intro hH hargs
  clear hH hargs
  repeat' (first | ((refine Qa rfl ?_); (first | refine Q0 ?_ | refine Q2 rfl ?_ | refine QG rfl rfl rfl rfl ?_ | refine QJ rfl rfl ?_); (refine QX rfl rfl ?_)) | refine Qa rfl ?_ | refine Qh ?_ | refine Ql ?_ | refine Qo rfl ?_)
  refine st_shl rfl rfl (by decide) ?_
  first | refine nx rfl rfl ?_ | refine nx0 ?_
  repeat' (first | ((refine Qa rfl ?_); (refine QP rfl rfl rfl rfl rfl rfl ?_); (refine QX rfl rfl ?_)) | (refine Qb rfl ?_; try (refine QS rfl rfl rfl rfl rfl rfl rfl ?_; (refine QX rfl rfl ?_))) | refine Qh ?_ | refine Qs ?_)
  refine awp_ret ?_
  exact ⟨_, rfl, rfl⟩
end Go.Abs
namespace Go.Abs
theorem rel_recw {E : Env} {m : Mu} {w : World} {a b c : AV} {v : Value} (h : E.Rel m w (.agg [a, b, .nils, c]) v) : E.Rel m w (.agg [a, b, .sl 1 [], c]) v := by
  simp only [Env.Rel, Abs.Rel] at h ⊢
  obtain ⟨us, rfl, h1⟩ := h
  refine ⟨us, rfl, ?_⟩
  obtain ⟨u0, r0, rfl, a0, h2⟩ := relL_cons.1 h1
  obtain ⟨u1, r1, rfl, a1, h3⟩ := relL_cons.1 h2
  obtain ⟨u2, r2, rfl, a2, h4⟩ := relL_cons.1 h3
  exact RelL.cons a0 (RelL.cons a1 (RelL.cons (rel_nils 1 a2) h4))
theorem app_aw (X : Nat → Prop) : ACalls (E0 X) 50 [.ptr 3 0, .agg [.int .i64 2, .sl 1 ([107].map u8A), .nils, .int .i64 0]] (rgH av1 awH awL 78 5 [] 0) (fun q H' => q = .tup [.int .i64 0, .int .i64 17, .int .i64 0] ∧ H' = rgM av1 awH awL 78 5 as1 0) := by
  refine ACalls.weak (args' := [.ptr 3 0, recA awR]) (ACalls.mono (app_ok X av1 awL awH 78 5 [] 0 awR 6400 av1_lv (by decide) 0 awR_ok (by decide) (by unfold capI; rw [awL_form]; decide) (by unfold capI; rw [awL_form]; decide) (by decide) (by
    show 0 + 0 = as1.length / 59
    rw [as1_len]) (by
    show (78 + 1 + as1.length / 59) * 64 ≤ 6400
    rw [as1_len]; decide)) fun q H' h => h) fun m w vs h => ?_
  obtain ⟨u, r, rfl, a1, h2⟩ := relL_cons.1 h
  obtain ⟨u2, r2, rfl, a2, h3⟩ := relL_cons.1 h2
  exact RelL.cons a1 (RelL.cons (rel_recw a2) h3)
theorem sync_aw (X : Nat → Prop) : ACalls (E0 X) 51 [.ptr 3 0] (rgH av1 awH awL 78 5 as1 0) (fun q H' => q = .int .i64 0 ∧ H' = rgM av2 awH awL 78 5 (padS as1) 1) :=
  rsync_c X av1 6400 av1_lv (by decide) awL awH 78 5 as1 0 1 (by decide) (by decide) (by rw [as1_len]; decide) (by rw [pads1_len]) (by rw [pads1_len]; decide)
theorem open_aw (X : Nat → Prop) : ACalls (E0 X) 48 [.ptr 0 0, laA awL, hdA awH] (devH (Dv.fresh lzS)) (fun r H' => r = .tup [.ptr 3 0, .int .i64 0] ∧ H' = rgH av1 awH awL 78 5 [] 0) :=
  ropen_c X (Dv.fresh lzS) 6400 lzS_lv awL awH 78 5 awL_slot awH_ok rfl rfl rfl rfl (by decide) (by decide)
theorem new_aw (X : Nat → Prop) : ACalls (E0 X) 19 [.int .i64 100] [] (fun r H' => r = .ptr 0 0 ∧ H' = devH (Dv.fresh lzS)) := (new_c X 100).mono fun r H' h => by
  rcases h with ⟨_, _, h1, h2⟩ | ⟨h1, _⟩
  · refine ⟨h1, h2.trans ?_⟩
    unfold lzS; rfl
  · exact absurd ⟨by decide, by decide⟩ h1
attribute [local irreducible] av1 av2 as1 lzS
attribute [local irreducible] AStep aops AWp Nx awM
set_option maxHeartbeats 0 in
set_option maxRecDepth 100000 in
theorem sawake_c (X : Nat → Prop) : ACalls (E0 X) 43 [] [] (fun r H' => r = .bool true ∧ H' = []) := by
  refine ACalls.cut0 ?_ trivial
  have hhd := fun R => dev_l (fun X => scanH_c X av2 av2_lv.inv awL 1) ⟨laA_ids, trivial, trivial⟩ (by rw [aw_hdr]; exact ⟨hdA_ids, trivial, trivial⟩) R (X := X)
  rw [aw_hdr] at hhd
  have h5 := fun R => dev_l (fun X => sregion_c X av2 av2_lv.inv awL 1 5 awL_slot (by decide) (by decide)) ⟨laA_ids, trivial, trivial, trivial⟩ (idsL_map fun _ => foA_ids) R (X := X)
  rw [aw_rec5] at h5
  have h6 := fun R => dev_l (fun X => sregion_c X av2 av2_lv.inv awL 1 6 awL_slot (by decide) (by decide)) ⟨laA_ids, trivial, trivial, trivial⟩ (idsL_map fun _ => foA_ids) R (X := X)
  rw [aw_rec6] at h6
  have hok := hok_dev (Dv.fresh lzS)
  have hok1 := hok_rg av1 awH awL 78 5 as1 0
  have hok2 := hok_rg av2 awH awL 78 5 (padS as1) 1
  refine acalls_of Proofs.Tryd.func43 rfl Proofs.Tryd.ntmps43 (by kernel_rfl) rfl ?_
  intro hH hargs
  clear hH hargs
  repeat' (first | ((refine Qa rfl ?_); (refine Q1 ?_); (refine QX rfl rfl ?_)) | refine Qa rfl ?_ | refine Qh ?_ | refine Ql ?_ | refine Qo rfl ?_)
  refine st_call (fun _ => rfl) rfl ?_
  refine ACalls.mono (new_aw X) ?_
  rintro r H' ⟨rfl, rfl⟩
  first | refine nx rfl rfl ?_ | refine nx0 ?_
  repeat' (first | ((refine Qa rfl ?_); (refine Q1 ?_); (refine QX rfl rfl ?_)) | refine Qa rfl ?_ | refine Qh ?_ | refine Ql ?_ | refine Qo rfl ?_)
  refine st_call (fun _ => rfl) rfl ?_
  refine ACalls.mono (acalls_pure (E := E0 X) (fun X => lay14_aw X) (by simp [IdsLtL, IdsLt]) _) ?_
  rintro r H' ⟨rfl, rfl⟩
  first | refine nx rfl rfl ?_ | refine nx0 ?_
  repeat' (first | ((refine Qa rfl ?_); (refine QJ rfl rfl ?_); (refine QX rfl rfl ?_)) | (refine Qb rfl ?_; try (refine QS rfl rfl rfl rfl rfl rfl rfl ?_; (refine QX rfl rfl ?_))) | refine Qh ?_ | refine Ql ?_)
  refine awp_pre (Imp.trans (imp_freezeP (id := 3) (cs := [.int .i64 awL.id, .int .i64 awL.ver, .int .i64 awL.rs, .int .i64 awL.regs]) rfl) (imp_cutk 3 (Nat.zero_le _) hok rfl (by simp) (sl' := [(1, .ptr 0 0), (2, .fp [.int .i64 awL.id, .int .i64 awL.ver, .int .i64 awL.rs, .int .i64 awL.regs])]) ?_)) ?_
  · repeat' (first | exact fa_nil | refine fa_cons ⟨?_, ?_⟩ ?_)
    all_goals (try first | exact rfl | exact trivial | (simp [IdsLt, IdsLtL]; done) | (simp [get_cons]; done) | (simp [get_cons, *]; done) | (refine congrArg (AV.int .i64) (wrap_eq ?_ ?_ ?_) <;> (first | omega | (simp; omega))))
  repeat' (first | ((refine Qa rfl ?_); (first | refine Q0 ?_ | refine Q3 rfl rfl rfl ?_ | refine QP rfl rfl rfl rfl rfl rfl ?_); (refine QX rfl rfl ?_)) | refine Qa rfl ?_ | refine Qo rfl ?_)
  refine st_call (fun _ => rfl) rfl ?_
  refine ACalls.mono (open_aw X) ?_
  rintro r H' ⟨rfl, rfl⟩
  first | refine nx rfl rfl ?_ | refine nx0 ?_
  repeat' (first | ((refine Qa rfl ?_); (first | refine Q0 ?_ | refine Q1 ?_ | refine Q2 rfl ?_ | refine QC rfl rfl ?_); (refine QX rfl rfl ?_)) | refine Qa rfl ?_ | refine Qh ?_ | refine Ql ?_ | refine Qm ?_ | refine Qo rfl ?_ | refine Qq rfl ?_)
  refine st_buildSlice_own rfl rfl rfl rfl rfl rfl rfl (.inr rfl) rfl (.inr rfl) ?_
  first | refine nx rfl rfl ?_ | refine nx0 ?_
  repeat' (refine Qa rfl ?_)
  refine st_conv_mark (k := 1) (lo := 0) (n := 1) (es := [107].map u8A) (out := [107].map u8A) (by decide) (by decide) rfl rfl rfl rfl rfl rfl rfl rfl rfl ?_
  first | refine nx rfl rfl ?_ | refine nx0 ?_
  repeat' (first | ((refine Qa rfl ?_); (refine QP rfl rfl rfl rfl rfl rfl ?_); (refine QX rfl rfl ?_)) | refine Qa rfl ?_)
  refine st_call (fun _ => rfl) rfl ?_
  refine ACalls.mono (rg_RM (X := X) (fun X => app_aw X) ⟨⟨trivial, ⟨trivial, trivial⟩, trivial, trivial, trivial⟩, trivial⟩ ⟨trivial, trivial, trivial, trivial⟩ [none]) ?_
  rintro r H' ⟨rfl, rfl⟩
  first | refine nx rfl rfl ?_ | refine nx0 ?_
  repeat' (first | ((refine Qa rfl ?_); (first | refine Q0 ?_ | refine Q1 ?_ | refine QC rfl rfl ?_); (refine QX rfl rfl ?_)) | refine Qh ?_ | refine Ql ?_)
  refine awp_pre (imp_tid 3 [3, 4, 7] (sl' := [(1, .ptr 0 0), (2, .fp [.int .i64 awL.id, .int .i64 awL.ver, .int .i64 awL.rs, .int .i64 awL.regs]), (3, .ptr 3 0), (7, .int .i64 0)]) (H' := rgH av1 awH awL 78 5 as1 0) (os := [rgC awH, pkC awL 78 5 as1.length 0 5, arB as1]) (Nat.zero_le _) ?_ ?_ ?_ ?_ rfl ?_ ?_ ?_) ?_
  · simp
  · simp
  · simp
  · exact hok_dev av1
  · rfl
  · repeat' (first
      | exact fa_nil
      | exact os_nil
      | exact RenL.nil
      | refine fa_cons ?_ ?_
      | refine os_cons rfl (renO_cells ?_) ?_
      | refine os_cons rfl (renO_old 0 (fun i h => absurd h (Nat.not_lt_zero i)) (by simp [IdsLtO])) ?_
      | refine RenL.cons ?_ ?_
      | exact ren_own rfl
      | exact ren_ptr rfl
      | exact ren_mp rfl
      | exact ren_lt rfl (by first | trivial | (simp [IdsLt, IdsLtL]; done)))
  · repeat' (first
      | exact fa_nil
      | exact os_nil
      | exact RenL.nil
      | refine fa_cons ?_ ?_
      | refine os_cons rfl (renO_cells ?_) ?_
      | refine os_cons rfl (renO_old 0 (fun i h => absurd h (Nat.not_lt_zero i)) (by simp [IdsLtO])) ?_
      | refine RenL.cons ?_ ?_
      | exact ren_own rfl
      | exact ren_ptr rfl
      | exact ren_mp rfl
      | exact ren_lt rfl (by first | trivial | (simp [IdsLt, IdsLtL]; done)))
  repeat' (first | ((refine Qa rfl ?_); (first | refine Q0 ?_ | refine Q2 rfl ?_); (refine QX rfl rfl ?_)) | refine Qa rfl ?_ | refine Qo rfl ?_)
  refine st_call (fun _ => rfl) rfl ?_
  refine ACalls.mono (sync_aw X) ?_
  rintro r H' ⟨rfl, rfl⟩
  first | refine nx rfl rfl ?_ | refine nx0 ?_
  repeat' (first | ((refine Qa rfl ?_); (first | refine Q0 ?_ | refine Q2 rfl ?_ | refine Q3 rfl rfl rfl ?_ | refine Q5 rfl ?_); (refine QX rfl rfl ?_)) | refine Qa rfl ?_ | refine Qh ?_ | refine Ql ?_ | refine Qm ?_ | refine Qo rfl ?_ | refine Qq rfl ?_)
  refine st_call (fun _ => rfl) rfl ?_
  refine ACalls.mono (hhd _) ?_
  rintro r H' ⟨rfl, rfl⟩
  first | refine nx rfl rfl ?_ | refine nx0 ?_
  repeat' (first | ((refine Qa rfl ?_); (first | refine Q0 ?_ | refine Q1 ?_ | refine Q3 rfl rfl rfl ?_ | refine QC rfl rfl ?_ | refine QJ rfl rfl ?_); (refine QX rfl rfl ?_)) | refine Qa rfl ?_ | (refine Qb rfl ?_; try (refine QS rfl rfl rfl rfl rfl rfl rfl ?_; (refine QX rfl rfl ?_))) | refine Qh ?_ | refine Ql ?_ | refine Qo rfl ?_)
  refine st_call (fun _ => rfl) rfl ?_
  refine ACalls.mono (h5 _) ?_
  rintro r H' ⟨rfl, rfl⟩
  first | refine nx rfl rfl ?_ | refine nx0 ?_
  repeat' (first | ((refine Qa rfl ?_); (first | refine Q0 ?_ | refine Q1 ?_ | refine Q2 rfl ?_ | refine Q3 rfl rfl rfl ?_ | refine Q4 rfl rfl rfl rfl rfl ?_ | refine Q5 rfl ?_ | refine Q7 rfl rfl rfl ?_); (refine QX rfl rfl ?_)) | refine Qa rfl ?_ | refine Qh ?_ | refine Ql ?_ | refine Qo rfl ?_)
  refine st_ixm (show [((0 : Nat), awR)][0]? = some (0, awR) from rfl) rfl rfl rfl rfl rfl rfl rfl (by first | rfl | omega) rfl ?_
  first | refine nx rfl rfl ?_ | refine nx0 ?_
  repeat' (first | ((refine Qa rfl ?_); (first | refine Q0 ?_ | refine Q2 rfl ?_ | refine Q3 rfl rfl rfl ?_ | refine Q4 rfl rfl rfl rfl rfl ?_ | refine Q5 rfl ?_); (refine QX rfl rfl ?_)) | refine Qa rfl ?_)
  refine st_call (fun _ => rfl) rfl ?_
  refine ACalls.mono (h6 _) ?_
  rintro r H' ⟨rfl, rfl⟩
  first | refine nx rfl rfl ?_ | refine nx0 ?_
  repeat' (first | ((refine Qa rfl ?_); (first | refine Q1 ?_ | refine Q2 rfl ?_ | refine Q5 rfl ?_ | refine Q7 rfl rfl rfl ?_); (refine QX rfl rfl ?_)) | refine Qh ?_ | refine Qs ?_)
  refine awp_ret ?_
  exact ⟨_, rfl, rfl⟩
end Go.Abs

