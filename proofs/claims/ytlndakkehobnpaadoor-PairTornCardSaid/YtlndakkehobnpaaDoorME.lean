/- superblock.ReadLayout, plan.Decode's closure: the walks. Joined texts, each with what its own name promises; no condition beyond those stated. -/
import Derived.Test.YtlndakkehobnpaaDoorMD
import Derived.Test.YtlndakkehobnpaaDoorRows
import Derived.Test.YtlndakkehobnpaaDoorTie
import Derived.Test.YtlndakkehobnpaaDoorCards
import Derived.ProofKit
import Derived.LaidMore
import Derived.OpenShut
import Derived.Stop.Joined
import Derived.SevenTiedAt
namespace Go.Abs
def rdrS (bs : List UInt8) (s lo : Nat) : Hp := [some (.arr (bs.map u8A) 5), some (rdrC bs s lo)]
theorem mapH_rdrG (g : Nat → Nat) (s t : Nat) (bs : List UInt8) (lo : Nat) (h : g s = t) : mapH g (rdrS bs s lo) = rdrS bs t lo := by
  simp [mapH, rdrS, rdrC, rnO, rnL, rnA, h, rnL_map (f := u8A) (fun _ => rfl)]
theorem some_rdr (bs : List UInt8) (lo : Nat) : ∀ j : Nat, (rdrH bs lo)[j]? ≠ some none := fun j => by
  match j with
  | 0 | 1 => simp [rdrH]
  | j + 2 => simp [rdrH]
theorem num_at (X : Nat → Prop) (bs : List UInt8) (lo w : Nat) (hw : 1 ≤ w) (hw8 : w ≤ 8) (h : lo + w ≤ bs.length) (hb : bs.length ≤ 1000) (L R : Hp) (s : Nat) (hs : L.length = s) :
    ACalls (E0 X) 110 [.ptr (1 + s) 0, .int .i64 (w : Int)] (L ++ rdrS bs s lo ++ R) (fun r H' => r = .int .u64 (numN ((bs.drop lo).take w) : Int) ∧ H' = L ++ rdrS bs s (lo + w) ++ R) := by
  subst hs
  have hm : ∀ lo, mapH (sh L.length R.length 2) (rdrH bs lo) = rdrS bs L.length lo := fun lo => mapH_rdrG _ 0 L.length bs lo (by simp [sh])
  refine ACalls.conv (ACalls.frameLR (E := E0 X) (fun X => num_c X bs lo w hw hw8 h hb) L R (some_rdr bs lo) ⟨by simp [IdsLt, rdrH], trivial, trivial⟩ (hok_rdr bs lo)) ?_ (by rw [show (rdrH bs lo).length = 2 from rfl, hm]) ?_
  · simp [rnL, rnA, sh, rdrH]
  · rintro q H' ⟨r1, h', ⟨rfl, rfl⟩, -, rfl, rfl⟩
    refine ⟨rfl, ?_⟩
    show L ++ mapH (sh L.length R.length 2) (rdrH bs (lo + w)) ++ R ++ [] = _
    rw [hm, List.append_nil]
def parL (bs : List UInt8) (lo : Nat) : La :=
  ⟨(numN ((bs.drop lo).take 4) : Nat), (numN ((bs.drop (lo + 4)).take 1) : Nat), if 0 < numN ((bs.drop lo).take 4) then ((2 ^ min (numN ((bs.drop (lo + 5)).take 1)) 30 : Nat) : Int) else 0, (numN ((bs.drop (lo + 6)).take 1) : Nat)⟩
theorem num_small {bs : List UInt8} {lo w : Nat} (hw : w ≤ 6) : numN ((bs.drop lo).take w) ≤ 281474976710655 := by
  have h1 := numN_lt ((bs.drop lo).take w)
  have h2 : ((bs.drop lo).take w).length ≤ 6 := by simp; omega
  have hp : 256 ^ ((bs.drop lo).take w).length ≤ 256 ^ 6 := Nat.pow_le_pow_right (by decide) h2
  have h7 : (256 : Nat) ^ 6 = 281474976710656 := by decide
  omega
theorem wrapI {n : Nat} (h : n ≤ 281474976710655) : IntKind.i64.wrap (n : Int) = n := wrap_in (by omega) (by omega)
attribute [local irreducible] AStep aops AWp Nx awM
set_option maxHeartbeats 0 in
set_option maxRecDepth 100000 in
theorem rlay_c (X : Nat → Prop) (bs : List UInt8) (lo : Nat) (h : lo + 7 ≤ bs.length) (hb : bs.length ≤ 1000) :
    ACalls (E0 X) 111 [.ptr 1 0] (rdrH bs lo) (fun r H' => r = laA (parL bs lo) ∧ H' = rdrH bs (lo + 7)) := by
  refine ACalls.imp (R := fun r H' => r = laA (parL bs lo) ∧ H'.take 2 = rdrH bs (lo + 7) ∧ 2 ≤ H'.length) ?_ ?_
  · refine acalls_of Proofs.Tryd.func111 rfl Proofs.Tryd.ntmps111 (by kernel_rfl) rfl ?_
    intro hH hargs
    clear hH hargs
    have s1 := num_small (bs := bs) (lo := lo) (w := 4) (by decide)
    have s2 := num_small (bs := bs) (lo := lo + 4) (w := 1) (by decide)
    have s3 := num_small (bs := bs) (lo := lo + 5) (w := 1) (by decide)
    have s4 := num_small (bs := bs) (lo := lo + 6) (w := 1) (by decide)
    have c1 := fun R => num_at X bs lo 4 (by decide) (by decide) (by omega) hb [] R 0 rfl
    have c2 := fun R => num_at X bs (lo + 4) 1 (by decide) (by decide) (by omega) hb [] R 0 rfl
    have c3 := fun R => num_at X bs (lo + 5) 1 (by decide) (by decide) (by omega) hb [] R 0 rfl
    have c4 := fun R => num_at X bs (lo + 6) 1 (by decide) (by decide) (by omega) hb [] R 0 rfl
    simp only [parL]
    generalize numN ((bs.drop lo).take 4) = n1 at *
    generalize numN ((bs.drop (lo + 4)).take 1) = n2 at *
    generalize numN ((bs.drop (lo + 5)).take 1) = n3 at *
    generalize numN ((bs.drop (lo + 6)).take 1) = n4 at *
    repeat' (first | ((refine Qa rfl ?_); (first | refine Q0 ?_ | refine QJ rfl rfl ?_); (refine QX rfl rfl ?_)) | refine Qa rfl ?_ | refine Qh ?_ | refine Ql ?_ | refine Qo rfl ?_)
    refine st_call (fun _ => rfl) rfl ?_
    refine ACalls.mono (c1 _) ?_
    rintro r H' ⟨rfl, rfl⟩
    first | refine nx rfl rfl ?_ | refine nx0 ?_
    repeat' (first | ((refine Qa rfl ?_); (first | refine Q0 ?_ | refine QG rfl rfl rfl rfl ?_); (refine QX rfl rfl ?_)) | refine Qa rfl ?_)
    rw [wrapI s1]
    refine st_call (fun _ => rfl) rfl ?_
    refine ACalls.mono (c2 _) ?_
    rintro r H' ⟨rfl, rfl⟩
    first | refine nx rfl rfl ?_ | refine nx0 ?_
    repeat' (first | ((refine Qa rfl ?_); (first | refine Q0 ?_ | refine QG rfl rfl rfl rfl ?_ | refine QJ rfl rfl ?_ | refine QP rfl rfl rfl rfl rfl rfl ?_); (refine QX rfl rfl ?_)) | refine Qa rfl ?_ | (refine Qb rfl ?_; try (refine QS rfl rfl rfl rfl rfl rfl rfl ?_; (refine QX rfl rfl ?_))) | refine Qh ?_ | refine Ql ?_ | refine Qo rfl ?_)
    rw [wrapI s2]
    refine st_call (fun _ => rfl) rfl ?_
    refine ACalls.mono (c3 _) ?_
    rintro r H' ⟨rfl, rfl⟩
    first | refine nx rfl rfl ?_ | refine nx0 ?_
    repeat' (first | ((refine Qa rfl ?_); (first | refine Q0 ?_ | refine Q1 ?_ | refine QG rfl rfl rfl rfl ?_); (refine QX rfl rfl ?_)) | refine Qa rfl ?_ | refine Qh ?_ | refine Ql ?_ | refine Qo rfl ?_)
    rw [wrapI s3]
    refine st_call (fun _ => rfl) rfl ?_
    refine ACalls.mono (c4 _) ?_
    rintro r H' ⟨rfl, rfl⟩
    first | refine nx rfl rfl ?_ | refine nx0 ?_
    repeat' (first | ((refine Qa rfl ?_); (first | refine Q2 rfl ?_ | refine Q3 rfl rfl rfl ?_ | refine Q4 rfl rfl rfl rfl rfl ?_ | refine QG rfl rfl rfl rfl ?_); (refine QX rfl rfl ?_)) | (refine Qb rfl ?_; try (refine QS rfl rfl rfl rfl rfl rfl rfl ?_; (refine QX rfl rfl ?_))) | refine Qh ?_ | refine Ql ?_ | refine Qo rfl ?_ | refine Qs ?_)
    rw [wrapI s4]
    refine awp_cond_dec rfl (fun h9 => ?_) (fun h9 => ?_)
    · have h8 : 0 < n1 := by omega
      have e1 : (min (n3 : Int) 30) = ((min n3 30 : Nat) : Int) := by omega
      have e2 : IntKind.i64.wrap (1 * 2 ^ (min (((min n3 30 : Nat) : Int)).toNat IntKind.i64.bits)) = ((2 ^ min n3 30 : Nat) : Int) := by
        have h7 : min (((min n3 30 : Nat) : Int)).toNat IntKind.i64.bits = min n3 30 := by
          have : (((min n3 30 : Nat) : Int)).toNat = min n3 30 := by omega
          rw [this]
          have h1 : IntKind.i64.bits = 64 := rfl
          omega
        rw [h7, Int.one_mul]
        have h6 : (2 : Nat) ^ min n3 30 ≤ 2 ^ 30 := Nat.pow_le_pow_right (by decide) (by omega)
        have h5 : (2 : Nat) ^ 30 = 1073741824 := by decide
        have h3 : (2 : Int) ^ min n3 30 = ((2 ^ min n3 30 : Nat) : Int) := by simp
        rw [h3]
        generalize 2 ^ min n3 30 = z at *
        exact wrap_in (by omega) (by omega)
      rw [if_pos h8]
      repeat' (first | ((refine Qa rfl ?_); (first | refine Q0 ?_ | refine QE rfl rfl ?_); (refine QX rfl rfl ?_)) | refine Qa rfl ?_ | refine Qo rfl ?_)
      rw [e1]
      refine st_shl rfl rfl (by omega) ?_
      first | refine nx rfl rfl ?_ | refine nx0 ?_
      rw [e2]
      repeat' (first | ((refine Qa rfl ?_); (first | refine Q3 rfl rfl rfl ?_ | refine Q4 rfl rfl rfl rfl rfl ?_); (refine QX rfl rfl ?_)) | (refine Qb rfl ?_; try (refine QS rfl rfl rfl rfl rfl rfl rfl ?_; (refine QX rfl rfl ?_))) | refine Qh ?_ | refine Ql ?_ | refine Qo rfl ?_ | refine Qs ?_)
      refine awp_ret ?_
      refine ⟨_, rfl, rfl, rfl, ?_⟩
      show 2 ≤ 4
      decide
    · have h8 : ¬ 0 < n1 := by omega
      rw [if_neg h8]
      repeat' (first | ((refine Qa rfl ?_); (refine Q3 rfl rfl rfl ?_); (refine QX rfl rfl ?_)) | (refine Qb rfl ?_; try (refine QS rfl rfl rfl rfl rfl rfl rfl ?_; (refine QX rfl rfl ?_))) | refine Qh ?_ | refine Ql ?_ | refine Qm ?_ | refine Qo rfl ?_ | refine Qs ?_)
      refine awp_ret ?_
      refine ⟨_, rfl, rfl, rfl, ?_⟩
      show 2 ≤ 4
      decide
  · rintro r H' ⟨rfl, h2, h3⟩
    exact ⟨_, _, ⟨rfl, rfl⟩, imp_cutk 2 (Nat.le_refl _) (hok_rdr _ _) h2 h3 (fa_cons ⟨rfl, laA_ids⟩ fa_nil)⟩
end Go.Abs
namespace Go.Abs
attribute [local irreducible] AStep aops AWp Nx awM
set_option maxHeartbeats 0 in
theorem clo_c (X : Nat → Prop) (bs : List UInt8) (lo w : Nat) (hw : 1 ≤ w) (hw6 : w ≤ 6) (h : lo + w ≤ bs.length) (hb : bs.length ≤ 1000) :
    ACalls (E0 X) 109 [.int .i64 (w : Int), .fp [.ptr 1 0]] (rdrH bs lo) (fun r H' => r = .int .i64 (numN ((bs.drop lo).take w) : Int) ∧ H' = rdrH bs (lo + w)) := by
  have s1 := num_small (bs := bs) (lo := lo) (w := w) hw6
  have c1 := num_c X bs lo w hw (by omega) h hb
  generalize numN ((bs.drop lo).take w) = n at *
  refine acalls_of Proofs.Tryd.func109 rfl Proofs.Tryd.ntmps109 (by kernel_rfl) rfl ?_
  intro hH hargs
  clear hH hargs
  repeat' (first | ((refine Qa rfl ?_); (first | refine Q0 ?_ | refine Q1 ?_ | refine Q3 rfl rfl rfl ?_); (refine QX rfl rfl ?_)) | refine Qa rfl ?_ | refine Qh ?_ | refine Ql ?_ | refine Qo rfl ?_)
  refine st_call (fun _ => rfl) rfl ?_
  refine ACalls.mono (c1) ?_
  rintro r H' ⟨rfl, rfl⟩
  first | refine nx rfl rfl ?_ | refine nx0 ?_
  repeat' (first | ((refine Qa rfl ?_); (first | refine Q1 ?_ | refine QG rfl rfl rfl rfl ?_); (refine QX rfl rfl ?_)) | refine Qh ?_ | refine Qs ?_)
  refine awp_ret ?_
  refine ⟨_, rfl, ?_, ?_⟩
  · exact congrArg (AV.int .i64) (wrapI s1)
  · rfl
theorem clo_at (X : Nat → Prop) (bs : List UInt8) (lo w : Nat) (hw : 1 ≤ w) (hw6 : w ≤ 6) (h : lo + w ≤ bs.length) (hb : bs.length ≤ 1000) (L R : Hp) (s : Nat) (hs : L.length = s) :
    ACalls (E0 X) 109 [.int .i64 (w : Int), .fp [.ptr (1 + s) 0]] (L ++ rdrS bs s lo ++ R) (fun r H' => r = .int .i64 (numN ((bs.drop lo).take w) : Int) ∧ H' = L ++ rdrS bs s (lo + w) ++ R) := by
  subst hs
  have hm : ∀ lo, mapH (sh L.length R.length 2) (rdrH bs lo) = rdrS bs L.length lo := fun lo => mapH_rdrG _ 0 L.length bs lo (by simp [sh])
  refine ACalls.conv (ACalls.frameLR (E := E0 X) (fun X => clo_c X bs lo w hw hw6 h hb) L R (some_rdr bs lo) ⟨trivial, ⟨by simp [IdsLt, rdrH], trivial⟩, trivial⟩ (hok_rdr bs lo)) ?_ (by rw [show (rdrH bs lo).length = 2 from rfl, hm]) ?_
  · simp [rnL, rnA, sh, rdrH]
  · rintro q H' ⟨r1, h', ⟨rfl, rfl⟩, -, rfl, rfl⟩
    refine ⟨rfl, ?_⟩
    show L ++ mapH (sh L.length R.length 2) (rdrH bs (lo + w)) ++ R ++ [] = _
    rw [hm, List.append_nil]
theorem rlay_at (X : Nat → Prop) (bs : List UInt8) (lo : Nat) (h : lo + 7 ≤ bs.length) (hb : bs.length ≤ 1000) (L R : Hp) (s : Nat) (hs : L.length = s) :
    ACalls (E0 X) 111 [.ptr (1 + s) 0] (L ++ rdrS bs s lo ++ R) (fun r H' => r = laA (parL bs lo) ∧ H' = L ++ rdrS bs s (lo + 7) ++ R) := by
  subst hs
  have hm : ∀ lo, mapH (sh L.length R.length 2) (rdrH bs lo) = rdrS bs L.length lo := fun lo => mapH_rdrG _ 0 L.length bs lo (by simp [sh])
  refine ACalls.conv (ACalls.frameLR (E := E0 X) (fun X => rlay_c X bs lo h hb) L R (some_rdr bs lo) ⟨by simp [IdsLt, rdrH], trivial⟩ (hok_rdr bs lo)) ?_ (by rw [show (rdrH bs lo).length = 2 from rfl, hm]) ?_
  · simp [rnL, rnA, sh, rdrH]
  · rintro q H' ⟨r1, h', ⟨rfl, rfl⟩, -, rfl, rfl⟩
    refine ⟨rfl, ?_⟩
    show L ++ mapH (sh L.length R.length 2) (rdrH bs (lo + 7)) ++ R ++ [] = _
    rw [hm, List.append_nil]
theorem noFz_rdr (bs : List UInt8) (lo : Nat) : noFzH (rdrH bs lo) = true := by
  simp only [noFzH, rdrH, rdrC, List.all_cons, List.all_nil, noFzO, noFzL, noFz, Bool.and_true]
  exact noFz_map (fun _ => rfl) _
theorem newr_at (X : Nat → Prop) (bs : List UInt8) (hb : bs.length ≤ 1000) (H : Hp) (x : AV) (hx : srcA (E0 X) H 1 x = some (bs.map u8A)) :
    ACalls (E0 X) 108 [x] H (fun r H' => r = .ptr (1 + H.length) 0 ∧ H' = H ++ rdrS bs H.length 0) := by
  refine (acalls_make (E := E0 X) (P := fun v H' => v = .ptr 1 0 ∧ H' = rdrH bs 0) (fun X => newr_c X bs hb) (fun r h' h => by
    obtain ⟨h1, h2⟩ := h; subst h1; subst h2; exact ⟨rfl, noFz_rdr _ _⟩) (Bor.sl (u8_ids _) hx .nil)).mono ?_
  rintro r H' ⟨r0, h', ⟨rfl, rfl⟩, rfl, rfl⟩
  exact ⟨by simp [rnA], by rw [show rdrH bs 0 = rdrS bs 0 0 from rfl, mapH_rdrG _ 0 H.length bs 0 (by simp)]⟩
def parP (bs : List UInt8) : Pl := ⟨(numN ((bs.drop 0).take 1) : Nat), (numN ((bs.drop 1).take 4) : Nat), (numN ((bs.drop 5).take 1) : Nat), (numN ((bs.drop 6).take 6) : Nat), parL bs 12⟩
def zeroP : Pl := ⟨0, 0, 0, 0, ⟨0, 0, 0, 0⟩⟩
def optP (o : Option Pl) : AV := match o with
  | some p => .tup [plA p, .bool true]
  | none => .tup [plA zeroP, .bool false]
def encO (p : Pl) (sector : Nat) : Option (List UInt8) := if validB p = true then some (encP ⟨p.kind.toNat, p.mig.toNat, p.idx.toNat, p.tail.toNat, p.t⟩ sector) else none
def decP (b : List UInt8) (sector : Nat) : Option Pl := match decF 4 0 sector b with
  | none => none
  | some pay => if encO (parP pay) sector = some b then some (parP pay) else none
theorem penc_o (X : Nat → Prop) (p : Pl) (sector : Nat) (hs : sector < 1048576) :
    ACalls (E0 X) 57 [plA p, .int .i64 (sector : Int)] [] (fun r H' => r = (match encO p sector with | some e => .tup [.sl 1 (e.map u8A), .int .i64 0] | none => .tup [.nils, .int .i64 4]) ∧ H' = []) := by
  unfold encO
  cases hv : validB p with
  | false => exact pencbad_c X p sector hv
  | true =>
    obtain ⟨q, hq, -⟩ := valid_nat hv
    subst hq
    have := penc_c X q sector hv hs
    simpa [PlN.pl] using this
theorem decF_len {k s n : Nat} {b p : List UInt8} (h : decF k s n b = some p) : p.length = 59 ∧ b.length = 64 := by
  unfold decF at h
  split at h
  · rename_i h1
    simp only [Option.some.injEq] at h
    subst h
    simp; omega
  · cases h
def pdH (o0 : AO) (bs : List UInt8) (p : Pl) : Hp := [some o0, some (.arr (bs.map u8A) 5), some (rdrC bs 1 19), some (.cells [.int .i64 p.kind, .int .i64 p.mig, .int .i64 p.idx, .int .i64 p.tail, .int .i64 p.t.id, .int .i64 p.t.ver, .int .i64 p.t.rs, .int .i64 p.t.regs] 32)]
def zO : AO := .cells [.int .i64 0, .int .i64 0, .int .i64 0, .int .i64 0, .int .i64 0, .int .i64 0, .int .i64 0, .int .i64 0] 32
theorem hok_pd (bs : List UInt8) (p : Pl) : HOk 4 (pdH zO bs p) := fun j o ho => by
  match j, ho with
  | 0, ho => cases ho; exact ⟨trivial, trivial, trivial, trivial, trivial, trivial, trivial, trivial, trivial⟩
  | 1, ho => cases ho; exact idsL_map fun _ => u8A_ids
  | 2, ho => cases ho; exact ⟨by simp [IdsLt], trivial, trivial⟩
  | 3, ho => cases ho; exact ⟨trivial, trivial, trivial, trivial, trivial, trivial, trivial, trivial, trivial⟩
theorem hok_pd3 (bs : List UInt8) (lo : Nat) : HOk 3 [some zO, some (.arr (bs.map u8A) 5), some (rdrC bs 1 lo)] := fun j o ho => by
  match j, ho with
  | 0, ho => cases ho; exact ⟨trivial, trivial, trivial, trivial, trivial, trivial, trivial, trivial, trivial⟩
  | 1, ho => cases ho; exact idsL_map fun _ => u8A_ids
  | 2, ho => cases ho; exact ⟨by simp [IdsLt], trivial, trivial⟩
set_option maxHeartbeats 0 in
set_option maxRecDepth 100000 in
theorem pdec_c (X : Nat → Prop) (b : List UInt8) (sector : Nat) (hs : sector < 1048576) (hb : b.length ≤ 1000) :
    ACalls (E0 X) 61 [.sl 1 (b.map u8A), .int .i64 (sector : Int)] [] (fun r H' => r = optP (decP b sector) ∧ H' = []) := by
  refine ACalls.cut0 ?_ (by unfold optP; split <;> exact ⟨plA_ids, trivial, trivial⟩)
  have hdec := fun X => fdec_c X 4 0 sector b ⟨by decide, by decide, hs⟩ (by decide) (by omega)
  refine acalls_of Proofs.Tryd.func61 rfl Proofs.Tryd.ntmps61 (by kernel_rfl) rfl ?_
  intro hH hargs
  clear hH hargs
  repeat' (first | ((refine Qa rfl ?_); (first | refine Q0 ?_ | refine Q1 ?_ | refine QJ rfl rfl ?_); (refine QX rfl rfl ?_)) | refine Qa rfl ?_ | refine Qh ?_ | refine Ql ?_ | refine Qo rfl ?_)
  refine st_call (fun _ => rfl) rfl ?_
  refine ACalls.mono (acalls_pure (E := E0 X) hdec (by simp [IdsLtL, IdsLt]) _) ?_
  rintro r H' ⟨rfl, rfl⟩
  cases hd : decF 4 0 sector b with
  | none =>
    have e : decP b sector = none := by simp only [decP, hd]
    rw [e]
    show Nx _ (.tup [.nils, .bool false]) _
    first | refine nx rfl rfl ?_ | refine nx0 ?_
    repeat' (first | ((refine Qa rfl ?_); (first | refine Q0 ?_ | refine Q1 ?_ | refine QC rfl rfl ?_ | refine QD rfl ?_ | refine QP rfl rfl rfl rfl rfl rfl ?_); (refine QX rfl rfl ?_)) | (refine Qb rfl ?_; try (refine QS rfl rfl rfl rfl rfl rfl rfl ?_; (refine QX rfl rfl ?_))) | refine Qh ?_ | refine Ql ?_ | refine Qo rfl ?_ | refine Qp rfl ?_ | refine Qs ?_)
    refine awp_ret ?_
    exact ⟨_, rfl, rfl⟩
  | some bs =>
    obtain ⟨hbl, -⟩ := decF_len hd
    have e : decP b sector = if encO (parP bs) sector = some b then some (parP bs) else none := by simp only [decP, hd]
    rw [e]
    show Nx _ (.tup [.sl 1 (bs.map u8A), .bool true]) _
    first | refine nx rfl rfl ?_ | refine nx0 ?_
    repeat' (first | ((refine Qa rfl ?_); (first | refine Q0 ?_ | refine Q1 ?_ | refine QC rfl rfl ?_ | refine QD rfl ?_); (refine QX rfl rfl ?_)) | refine Qa rfl ?_ | refine Qh ?_ | refine Ql ?_ | refine Qm ?_ | refine Qo rfl ?_ | refine Qq rfl ?_)
    refine st_call (fun _ => rfl) rfl ?_
    refine ACalls.mono (newr_at X bs (by omega) _ _ rfl) ?_
    rintro r H' ⟨rfl, rfl⟩
    first | refine nx rfl rfl ?_ | refine nx0 ?_
    repeat' (first | ((refine Qa rfl ?_); (refine QJ rfl rfl ?_); (refine QX rfl rfl ?_)) | (refine Qb rfl ?_; try (refine QS rfl rfl rfl rfl rfl rfl rfl ?_; (refine QX rfl rfl ?_))) | refine Qh ?_)
    refine then_i ?_
    refine awp_pre (imp_freezeP (id := 3) (cs := [.ptr 2 0]) rfl) ?_
    refine awp_pre (imp_cutk 3 (Nat.zero_le _) (hok_pd3 bs 0) rfl (by simp) (sl' := [(0, .sl 1 (b.map u8A)), (1, .int .i64 (sector : Int)), (4, .ptr 0 0), (8, .fp [.ptr 2 0])]) ?_) ?_
    · repeat' (first | exact fa_nil | refine fa_cons ⟨?_, ?_⟩ ?_)
      all_goals (try first | exact rfl | exact trivial | (simp [IdsLt, IdsLtL]; done) | (simp [get_cons]; done) | (simp [get_cons, *]; done) | (refine congrArg (AV.int .i64) (wrap_eq ?_ ?_ ?_) <;> (first | omega | (simp; omega))))
    have q1 := fun R => clo_at X bs 0 1 (by decide) (by decide) (by omega) (by omega) [some zO] R 1 rfl
    have q2 := fun R => clo_at X bs 1 4 (by decide) (by decide) (by omega) (by omega) [some zO] R 1 rfl
    have q3 := fun R => clo_at X bs 5 1 (by decide) (by decide) (by omega) (by omega) [some zO] R 1 rfl
    have q4 := fun R => clo_at X bs 6 6 (by decide) (by decide) (by omega) (by omega) [some zO] R 1 rfl
    have q5 := fun R => rlay_at X bs 12 (by omega) (by omega) [some zO] R 1 rfl
    have hp : parP bs = ⟨(numN ((bs.drop 0).take 1) : Nat), (numN ((bs.drop 1).take 4) : Nat), (numN ((bs.drop 5).take 1) : Nat), (numN ((bs.drop 6).take 6) : Nat), parL bs 12⟩ := rfl
    rw [hp]
    generalize numN ((bs.drop 0).take 1) = n1 at *
    generalize numN ((bs.drop 1).take 4) = n2 at *
    generalize numN ((bs.drop 5).take 1) = n3 at *
    generalize numN ((bs.drop 6).take 6) = n4 at *
    generalize parL bs 12 = la at *
    repeat' (first | ((refine Qa rfl ?_); (first | refine Q1 ?_ | refine QN ?_); (refine QX rfl rfl ?_)) | refine Qh ?_ | refine Ql ?_ | refine Qo rfl ?_)
    refine awp_mid (s1 := ⟨[(0, .sl 1 (b.map u8A)), (1, .int .i64 (sector : Int)), (4, .ptr 0 0), (10, .ptr 3 0)], pdH zO bs ⟨n1, n2, n3, n4, la⟩⟩) ?_ ?_
    rotate_left
    · skip
      repeat' (first | ((refine Qa rfl ?_); (first | refine Q0 ?_ | refine Q3 rfl rfl rfl ?_); (refine QX rfl rfl ?_)) | refine Qa rfl ?_ | refine Ql ?_ | refine Qo rfl ?_)
      refine st_call (fun _ => rfl) rfl ?_
      refine ACalls.mono (acalls_pure (E := E0 X) (fun X => penc_o X ⟨n1, n2, n3, n4, la⟩ sector hs) (by simp [IdsLtL, IdsLt]) _) ?_
      rintro r H' ⟨rfl, rfl⟩
      cases he : encO ⟨n1, n2, n3, n4, la⟩ sector with
      | none =>
        show Nx _ (.tup [.nils, .int .i64 4]) _
        first | refine nx rfl rfl ?_ | refine nx0 ?_
        repeat' (first | ((refine Qa rfl ?_); (first | refine Q0 ?_ | refine Q1 ?_ | refine Q2 rfl ?_ | refine Q5 rfl ?_ | refine QC rfl rfl ?_ | refine QP rfl rfl rfl rfl rfl rfl ?_); (refine QX rfl rfl ?_)) | (refine Qb rfl ?_; try (refine QS rfl rfl rfl rfl rfl rfl rfl ?_; (refine QX rfl rfl ?_))) | refine Qh ?_ | refine Qi rfl ?_ | refine Ql ?_ | refine Qo rfl ?_ | refine Qp rfl ?_ | refine Qs ?_)
        refine awp_ret ?_
        refine ⟨_, rfl, ?_⟩
        rw [if_neg (by simp)]; rfl
      | some eb =>
        show Nx _ (.tup [.sl 1 (eb.map u8A), .int .i64 0]) _
        first | refine nx rfl rfl ?_ | refine nx0 ?_
        repeat' (first | ((refine Qa rfl ?_); (first | refine Q0 ?_ | refine Q1 ?_ | refine Q2 rfl ?_ | refine QC rfl rfl ?_); (refine QX rfl rfl ?_)) | refine Qa rfl ?_ | refine Qh ?_ | refine Ql ?_ | refine Qo rfl ?_)
        refine st_call (fun _ => rfl) rfl ?_
        refine ACalls.mono (acalls_pure (E := E0 X) (fun X => beq_c X eb b) (by simp [IdsLtL, IdsLt]) _) ?_
        rintro r H' ⟨rfl, rfl⟩
        first | refine nx rfl rfl ?_ | refine nx0 ?_
        repeat' (first | ((refine Qa rfl ?_); (first | refine Q5 rfl ?_ | refine QD rfl ?_); (refine QX rfl rfl ?_)) | refine Qh ?_ | refine Qs ?_)
        refine awp_cond rfl (fun h9 => ?_) (fun h9 => ?_)
        · have h8 : ¬ eb = b := by simpa using h9
          repeat' (first | ((refine Qa rfl ?_); (first | refine Q1 ?_ | refine QP rfl rfl rfl rfl rfl rfl ?_); (refine QX rfl rfl ?_)) | (refine Qb rfl ?_; try (refine QS rfl rfl rfl rfl rfl rfl rfl ?_; (refine QX rfl rfl ?_))) | refine Qh ?_ | refine Ql ?_ | refine Qo rfl ?_ | refine Qs ?_)
          refine awp_ret ?_
          refine ⟨_, rfl, ?_⟩
          rw [if_neg (by simpa using h8)]; rfl
        · have h8 : eb = b := by simpa using h9
          repeat' (first | ((refine Qa rfl ?_); (first | refine Q1 ?_ | refine Q3 rfl rfl rfl ?_); (refine QX rfl rfl ?_)) | (refine Qb rfl ?_; try (refine QS rfl rfl rfl rfl rfl rfl rfl ?_; (refine QX rfl rfl ?_))) | refine Qh ?_ | refine Ql ?_ | refine Qm ?_ | refine Qo rfl ?_ | refine Qs ?_)
          refine awp_ret ?_
          refine ⟨_, rfl, ?_⟩
          rw [if_pos (by rw [h8])]; rfl
    refine awp_region_any [1, 3, 5, 7, 9, 11, 12] [0, 2, 4, 6, 8, 10] (by exact rfl) ?_
    refine any_lin (fuel := 8) [0, 2, 4, 6, 8] (by exact rfl) (by kernel_rfl) (by kernel_rfl) ?_
    repeat' (first | ((apply Qe rfl rfl rfl rfl; intro H9); (first | refine Q0 ?_ | refine Q3 rfl rfl rfl ?_); (exact QY rfl ⟨rfl, rfl⟩)) | refine Qk ?_)
    refine any_br [1, 11] (by kernel_rfl) (br2 ?_ ?_)
    rotate_left
    · refine mop_ef rfl rfl rfl ?_
      refine st_alloc rfl rfl ?_
      first | refine nx rfl rfl ?_ | refine nx0 ?_
      refine any_lin (fuel := 0) [1, 3, 5, 7, 9, 10, 12] (by exact rfl) (by kernel_rfl) (by kernel_rfl) ?_
      refine ds_ef rfl rfl rfl ?_
      refine st_call (fun _ => rfl) rfl ?_
      refine ACalls.mono (q1 _) ?_
      rintro r H' ⟨rfl, rfl⟩
      first | refine nx rfl rfl ?_ | refine nx0 ?_
      refine ds_ef rfl rfl rfl ?_
      refine st_call (fun _ => rfl) rfl ?_
      refine ACalls.mono (q2 _) ?_
      rintro r H' ⟨rfl, rfl⟩
      first | refine nx rfl rfl ?_ | refine nx0 ?_
      refine ds_ef rfl rfl rfl ?_
      refine st_call (fun _ => rfl) rfl ?_
      refine ACalls.mono (q3 _) ?_
      rintro r H' ⟨rfl, rfl⟩
      first | refine nx rfl rfl ?_ | refine nx0 ?_
      refine ds_ef rfl rfl rfl ?_
      refine st_call (fun _ => rfl) rfl ?_
      refine ACalls.mono (q4 _) ?_
      rintro r H' ⟨rfl, rfl⟩
      first | refine nx rfl rfl ?_ | refine nx0 ?_
      refine ds_ef rfl rfl rfl ?_
      refine st_call (fun _ => rfl) rfl ?_
      refine ACalls.mono (q5 _) ?_
      rintro r H' ⟨rfl, rfl⟩
      first | refine nx rfl rfl ?_ | refine nx0 ?_
      repeat' (first | ((apply Qe rfl rfl rfl rfl; intro H9); (refine QP rfl rfl rfl rfl rfl rfl ?_); (exact QY rfl ⟨rfl, rfl⟩)) | (refine Qf rfl rfl rfl ?_; refine QS rfl rfl rfl rfl rfl rfl rfl ?_; (refine QX rfl rfl ?_)) | refine Qk ?_ | refine Qw (by kernel_rfl) ?_)
      refine ⟨rfl, imp_cutk 4 (Nat.zero_le _) (hok_pd bs ⟨n1, n2, n3, n4, la⟩) rfl (by simp) ?_⟩
      repeat' (first | exact fa_nil | refine fa_cons ⟨?_, ?_⟩ ?_)
      all_goals (try first | exact rfl | exact trivial | (simp [IdsLt]; done) | (simp [get_cons]; done) | (simp [get_cons, *]; done) | (refine congrArg (AV.int .i64) (wrap_eq ?_ ?_ ?_) <;> (first | omega | (simp; omega))))
    refine mop_ef rfl rfl rfl ?_
    refine st_call (fun _ => rfl) rfl ?_
    refine ACalls.mono (q1 _) ?_
    rintro r H' ⟨rfl, rfl⟩
    first | refine nx rfl rfl ?_ | refine nx0 ?_
    refine any_br [3, 11] (by kernel_rfl) (br2 ?_ ?_)
    rotate_left
    · refine mop_ef rfl rfl rfl ?_
      refine st_alloc rfl rfl ?_
      first | refine nx rfl rfl ?_ | refine nx0 ?_
      refine any_lin (fuel := 0) [3, 5, 7, 9, 10, 12] (by exact rfl) (by kernel_rfl) (by kernel_rfl) ?_
      refine ds_ef rfl rfl rfl ?_
      refine st_call (fun _ => rfl) rfl ?_
      refine ACalls.mono (q2 _) ?_
      rintro r H' ⟨rfl, rfl⟩
      first | refine nx rfl rfl ?_ | refine nx0 ?_
      refine ds_ef rfl rfl rfl ?_
      refine st_call (fun _ => rfl) rfl ?_
      refine ACalls.mono (q3 _) ?_
      rintro r H' ⟨rfl, rfl⟩
      first | refine nx rfl rfl ?_ | refine nx0 ?_
      refine ds_ef rfl rfl rfl ?_
      refine st_call (fun _ => rfl) rfl ?_
      refine ACalls.mono (q4 _) ?_
      rintro r H' ⟨rfl, rfl⟩
      first | refine nx rfl rfl ?_ | refine nx0 ?_
      refine ds_ef rfl rfl rfl ?_
      refine st_call (fun _ => rfl) rfl ?_
      refine ACalls.mono (q5 _) ?_
      rintro r H' ⟨rfl, rfl⟩
      first | refine nx rfl rfl ?_ | refine nx0 ?_
      repeat' (first | ((apply Qe rfl rfl rfl rfl; intro H9); (refine QP rfl rfl rfl rfl rfl rfl ?_); (exact QY rfl ⟨rfl, rfl⟩)) | (refine Qf rfl rfl rfl ?_; refine QS rfl rfl rfl rfl rfl rfl rfl ?_; (refine QX rfl rfl ?_)) | refine Qk ?_ | refine Qw (by kernel_rfl) ?_)
      refine ⟨rfl, imp_cutk 4 (Nat.zero_le _) (hok_pd bs ⟨n1, n2, n3, n4, la⟩) rfl (by simp) ?_⟩
      repeat' (first | exact fa_nil | refine fa_cons ⟨?_, ?_⟩ ?_)
      all_goals (try first | exact rfl | exact trivial | (simp [IdsLt]; done) | (simp [get_cons]; done) | (simp [get_cons, *]; done) | (refine congrArg (AV.int .i64) (wrap_eq ?_ ?_ ?_) <;> (first | omega | (simp; omega))))
    refine mop_ef rfl rfl rfl ?_
    refine st_call (fun _ => rfl) rfl ?_
    refine ACalls.mono (q2 _) ?_
    rintro r H' ⟨rfl, rfl⟩
    first | refine nx rfl rfl ?_ | refine nx0 ?_
    refine any_br [5, 11] (by kernel_rfl) (br2 ?_ ?_)
    rotate_left
    · refine mop_ef rfl rfl rfl ?_
      refine st_alloc rfl rfl ?_
      first | refine nx rfl rfl ?_ | refine nx0 ?_
      refine any_lin (fuel := 0) [5, 7, 9, 10, 12] (by exact rfl) (by kernel_rfl) (by kernel_rfl) ?_
      refine ds_ef rfl rfl rfl ?_
      refine st_call (fun _ => rfl) rfl ?_
      refine ACalls.mono (q3 _) ?_
      rintro r H' ⟨rfl, rfl⟩
      first | refine nx rfl rfl ?_ | refine nx0 ?_
      refine ds_ef rfl rfl rfl ?_
      refine st_call (fun _ => rfl) rfl ?_
      refine ACalls.mono (q4 _) ?_
      rintro r H' ⟨rfl, rfl⟩
      first | refine nx rfl rfl ?_ | refine nx0 ?_
      refine ds_ef rfl rfl rfl ?_
      refine st_call (fun _ => rfl) rfl ?_
      refine ACalls.mono (q5 _) ?_
      rintro r H' ⟨rfl, rfl⟩
      first | refine nx rfl rfl ?_ | refine nx0 ?_
      repeat' (first | ((apply Qe rfl rfl rfl rfl; intro H9); (refine QP rfl rfl rfl rfl rfl rfl ?_); (exact QY rfl ⟨rfl, rfl⟩)) | (refine Qf rfl rfl rfl ?_; refine QS rfl rfl rfl rfl rfl rfl rfl ?_; (refine QX rfl rfl ?_)) | refine Qk ?_ | refine Qw (by kernel_rfl) ?_)
      refine ⟨rfl, imp_cutk 4 (Nat.zero_le _) (hok_pd bs ⟨n1, n2, n3, n4, la⟩) rfl (by simp) ?_⟩
      repeat' (first | exact fa_nil | refine fa_cons ⟨?_, ?_⟩ ?_)
      all_goals (try first | exact rfl | exact trivial | (simp [IdsLt]; done) | (simp [get_cons]; done) | (simp [get_cons, *]; done) | (refine congrArg (AV.int .i64) (wrap_eq ?_ ?_ ?_) <;> (first | omega | (simp; omega))))
    refine mop_ef rfl rfl rfl ?_
    refine st_call (fun _ => rfl) rfl ?_
    refine ACalls.mono (q3 _) ?_
    rintro r H' ⟨rfl, rfl⟩
    first | refine nx rfl rfl ?_ | refine nx0 ?_
    refine any_br [7, 11] (by kernel_rfl) (br2 ?_ ?_)
    rotate_left
    · refine mop_ef rfl rfl rfl ?_
      refine st_alloc rfl rfl ?_
      first | refine nx rfl rfl ?_ | refine nx0 ?_
      refine any_lin (fuel := 0) [7, 9, 10, 12] (by exact rfl) (by kernel_rfl) (by kernel_rfl) ?_
      refine ds_ef rfl rfl rfl ?_
      refine st_call (fun _ => rfl) rfl ?_
      refine ACalls.mono (q4 _) ?_
      rintro r H' ⟨rfl, rfl⟩
      first | refine nx rfl rfl ?_ | refine nx0 ?_
      refine ds_ef rfl rfl rfl ?_
      refine st_call (fun _ => rfl) rfl ?_
      refine ACalls.mono (q5 _) ?_
      rintro r H' ⟨rfl, rfl⟩
      first | refine nx rfl rfl ?_ | refine nx0 ?_
      repeat' (first | ((apply Qe rfl rfl rfl rfl; intro H9); (refine QP rfl rfl rfl rfl rfl rfl ?_); (exact QY rfl ⟨rfl, rfl⟩)) | (refine Qf rfl rfl rfl ?_; refine QS rfl rfl rfl rfl rfl rfl rfl ?_; (refine QX rfl rfl ?_)) | refine Qk ?_ | refine Qw (by kernel_rfl) ?_)
      refine ⟨rfl, imp_cutk 4 (Nat.zero_le _) (hok_pd bs ⟨n1, n2, n3, n4, la⟩) rfl (by simp) ?_⟩
      repeat' (first | exact fa_nil | refine fa_cons ⟨?_, ?_⟩ ?_)
      all_goals (try first | exact rfl | exact trivial | (simp [IdsLt]; done) | (simp [get_cons]; done) | (simp [get_cons, *]; done) | (refine congrArg (AV.int .i64) (wrap_eq ?_ ?_ ?_) <;> (first | omega | (simp; omega))))
    refine mop_ef rfl rfl rfl ?_
    refine st_call (fun _ => rfl) rfl ?_
    refine ACalls.mono (q4 _) ?_
    rintro r H' ⟨rfl, rfl⟩
    first | refine nx rfl rfl ?_ | refine nx0 ?_
    refine any_br [9, 11] (by kernel_rfl) (br2 ?_ ?_)
    rotate_left
    · refine mop_ef rfl rfl rfl ?_
      refine st_alloc rfl rfl ?_
      first | refine nx rfl rfl ?_ | refine nx0 ?_
      refine any_lin (fuel := 0) [9, 10, 12] (by exact rfl) (by kernel_rfl) (by kernel_rfl) ?_
      refine ds_ef rfl rfl rfl ?_
      refine st_call (fun _ => rfl) rfl ?_
      refine ACalls.mono (q5 _) ?_
      rintro r H' ⟨rfl, rfl⟩
      first | refine nx rfl rfl ?_ | refine nx0 ?_
      repeat' (first | ((apply Qe rfl rfl rfl rfl; intro H9); (refine QP rfl rfl rfl rfl rfl rfl ?_); (exact QY rfl ⟨rfl, rfl⟩)) | (refine Qf rfl rfl rfl ?_; refine QS rfl rfl rfl rfl rfl rfl rfl ?_; (refine QX rfl rfl ?_)) | refine Qk ?_ | refine Qw (by kernel_rfl) ?_)
      refine ⟨rfl, imp_cutk 4 (Nat.zero_le _) (hok_pd bs ⟨n1, n2, n3, n4, la⟩) rfl (by simp) ?_⟩
      repeat' (first | exact fa_nil | refine fa_cons ⟨?_, ?_⟩ ?_)
      all_goals (try first | exact rfl | exact trivial | (simp [IdsLt]; done) | (simp [get_cons]; done) | (simp [get_cons, *]; done) | (refine congrArg (AV.int .i64) (wrap_eq ?_ ?_ ?_) <;> (first | omega | (simp; omega))))
    refine mop_ef rfl rfl rfl ?_
    refine st_call (fun _ => rfl) rfl ?_
    refine ACalls.mono (q5 _) ?_
    rintro r H' ⟨rfl, rfl⟩
    first | refine nx rfl rfl ?_ | refine nx0 ?_
    refine any_lin (fuel := 0) [10, 11, 12] (by exact rfl) (by kernel_rfl) (by kernel_rfl) ?_
    repeat' (first | ((first | refine Qc rfl rfl rfl ?_ | (apply Qe rfl rfl rfl rfl; intro H9)); (first | refine QJ rfl rfl ?_ | refine QP rfl rfl rfl rfl rfl rfl ?_); (first | exact QY rfl ⟨rfl, rfl⟩ | refine QX rfl rfl ?_)) | (refine Qf rfl rfl rfl ?_; refine QS rfl rfl rfl rfl rfl rfl rfl ?_; (refine QX rfl rfl ?_)) | refine Qk ?_ | refine Qw (by kernel_rfl) ?_)
    refine ⟨rfl, imp_cutk 4 (Nat.zero_le _) (hok_pd bs ⟨n1, n2, n3, n4, la⟩) rfl (by simp) ?_⟩
    repeat' (first | exact fa_nil | refine fa_cons ⟨?_, ?_⟩ ?_)
    all_goals (try first | exact rfl | exact trivial | (simp [IdsLt]; done) | (simp [get_cons]; done) | (simp [get_cons, *]; done) | (refine congrArg (AV.int .i64) (wrap_eq ?_ ?_ ?_) <;> (first | omega | (simp; omega))))
end Go.Abs
namespace Go.Abs
def devS (s : Nat) (v : Dv) : Hp := [some (.cells [.own (1 + s) 0 v.image.length, .mp (2 + s), .int .i64 v.writes, .int .i64 v.fuse, .bool v.dead] 118), some (.arr (v.image.map u8A) 5), some (.map (v.old.map oldA))]
theorem rnA_old {g : Nat → Nat} (p : Int × List UInt8) : rnA g (oldA p).2 = (oldA p).2 := by
  show AV.agg (rnL g (p.2.map u8A)) = _
  rw [rnL_map (fun _ => rfl)]; rfl
theorem rnMap_old {g : Nat → Nat} (l : List (Int × List UInt8)) : ((rnL g ((l.map oldA).map (·.1))).zip (rnL g ((l.map oldA).map (·.2)))) = l.map oldA := by
  induction l with
  | nil => rfl
  | cons p l ih =>
    simp only [List.map_cons, rnL, List.zip_cons_cons, ih]
    rw [rnA_old]
    rfl
theorem mapH_devQ (s q : Nat) (v : Dv) : mapH (sh s q 3) (devH v) = devS s v := by
  simp [mapH, devH, devS, rnO, rnL, rnA, sh, rnL_map (f := u8A) (fun _ => rfl)]
  have := rnMap_old (g := sh s q 3) v.old
  simpa using this
theorem mapH_dev (s : Nat) (v : Dv) : mapH (· + s) (devH v) = devS s v := by
  simp [mapH, devH, devS, rnO, rnL, rnA, rnL_map (f := u8A) (fun _ => rfl)]
  have := rnMap_old (g := (· + s)) v.old
  simpa using this
theorem noFz_dev (v : Dv) : noFzH (devH v) = true := by
  simp only [noFzH, devH, List.all_cons, List.all_nil, noFzO, noFzL, noFz, Bool.and_true, Bool.true_and, Bool.and_eq_true, List.map_map]
  exact ⟨noFz_map (fun _ => rfl) _, noFz_map (f := (fun p : AV × AV => p.1) ∘ oldA) (fun _ => rfl) _, noFz_map (f := (fun p : AV × AV => p.2) ∘ oldA) (fun p => (noFz_map (f := u8A) (fun _ => rfl) p.2 : noFzL (p.2.map u8A) = true)) _⟩
theorem some_dev (v : Dv) : ∀ j : Nat, (devH v)[j]? ≠ some none := fun j => by
  match j with
  | 0 => simp [devH]
  | 1 => simp [devH]
  | 2 => simp [devH]
  | j + 3 => simp [devH]
section
variable {X : Nat → Prop} {f : FuncId} {rest : List AV} {r0 : AV}
/-- A device's method, the device s places on. -/
theorem dev_at {v v' : Dv} (hc : ∀ X, ACalls (E0 X) f (.ptr 0 0 :: rest) (devH v) (fun r H' => r = r0 ∧ H' = devH v')) (hrest : IdsLtL 0 rest) (hr : IdsLt 0 r0) (L R : Hp) (s : Nat) (hs : L.length = s) :
    ACalls (E0 X) f (.ptr s 0 :: rest) (L ++ devS s v ++ R) (fun r H' => r = r0 ∧ H' = L ++ devS s v' ++ R) := by
  subst hs
  refine ACalls.conv (ACalls.frameLR (E := E0 X) hc L R (some_dev v) ⟨by simp [IdsLt, devH], ids_mono (Nat.zero_le _) hrest⟩ (hok_dev v)) ?_ (by rw [show (devH v).length = 3 from rfl, mapH_devQ]) ?_
  · show _ :: rnL _ rest = _
    rw [rnL_closed _ hrest]; simp [rnA, sh, devH]
  · rintro r H' ⟨r1, h', ⟨rfl, rfl⟩, -, rfl, rfl⟩
    refine ⟨rn_closed _ hr, ?_⟩
    show L ++ mapH (sh L.length R.length 3) (devH v') ++ R ++ [] = _
    rw [mapH_devQ, List.append_nil]
theorem dev_l {v v' : Dv} (hc : ∀ X, ACalls (E0 X) f (.ptr 0 0 :: rest) (devH v) (fun r H' => r = r0 ∧ H' = devH v')) (hrest : IdsLtL 0 rest) (hr : IdsLt 0 r0) (R : Hp) :
    ACalls (E0 X) f (.ptr 0 0 :: rest) (devH v ++ R) (fun r H' => r = r0 ∧ H' = devH v' ++ R) := dev_at hc hrest hr [] R 0 rfl
end
structure Dv.Inv (v : Dv) : Prop where
  load : LoadOk v.image.length
  nd : (v.old.map (·.1)).Nodup
  sz : ∀ p ∈ v.old, p.2.length = 64
  keys : ∀ p ∈ v.old, 0 ≤ p.1 ∧ p.1 * 64 + 64 ≤ v.image.length
  fuse : v.fuse ≤ 9223372036854775807
theorem Dv.Inv.ok {v : Dv} (h : v.Inv) : v.Ok := ⟨by have := h.load.2.2; omega, h.nd, h.sz, h.fuse⟩
theorem dev_gen {X : Nat → Prop} {f : FuncId} {rest : List AV} {v : Dv} {P : AV → Hp → Prop} (hc : ∀ X, ACalls (E0 X) f (.ptr 0 0 :: rest) (devH v) P) (hrest : IdsLtL 0 rest) (L R : Hp) (s : Nat) (hs : L.length = s) :
    ACalls (E0 X) f (.ptr s 0 :: rest) (L ++ devS s v ++ R) (fun r H' => ∃ r1 h', P r1 h' ∧ r = rnA (sh s R.length 3) r1 ∧ H' = L ++ mapH (sh s R.length 3) (h'.take 3) ++ R ++ mapH (sh s R.length 3) (h'.drop 3)) := by
  subst hs
  refine ACalls.conv (ACalls.frameLR (E := E0 X) hc L R (some_dev v) ⟨by simp [IdsLt, devH], ids_mono (Nat.zero_le _) hrest⟩ (hok_dev v)) ?_ (by rw [show (devH v).length = 3 from rfl, mapH_devQ]) ?_
  · show _ :: rnL _ rest = _
    rw [rnL_closed _ hrest]; simp [rnA, sh, devH]
  · rintro r H' ⟨r1, h', hp, -, rfl, rfl⟩
    exact ⟨r1, h', hp, rfl, rfl⟩
theorem inv_burn {v : Dv} (h : v.Inv) : v.burn.Inv := ⟨h.load, h.nd, h.sz, h.keys, by have := h.fuse; unfold Dv.burn; simp only; split <;> omega⟩
theorem inv_put {v : Dv} (h : v.Inv) {k : Nat} {b : List UInt8} (hk : k * 64 + 64 ≤ v.image.length) (hb : b.length ≤ 64) : (v.put k b).Inv := by
  have hl : (v.put k b).image.length = v.image.length := by simp [Dv.put]; omega
  by_cases hm : (k : Int) ∈ v.old.map (·.1)
  · have e : (v.put k b).old = v.old := by simp only [Dv.put, if_pos hm]
    exact ⟨by rw [hl]; exact h.load, by rw [e]; exact h.nd, by rw [e]; exact h.sz, by rw [e, hl]; exact h.keys, h.fuse⟩
  · have e : (v.put k b).old = v.old ++ [((k : Int), v.sector k)] := by simp only [Dv.put, if_neg hm]
    refine ⟨by rw [hl]; exact h.load, ?_, ?_, ?_, h.fuse⟩
    · rw [e, List.map_append, List.nodup_append]
      refine ⟨h.nd, by simp, fun a ha b hb e => ?_⟩
      simp at hb
      subst hb; subst e
      exact hm ha
    · rw [e]
      intro p hp
      rcases List.mem_append.1 hp with hp | hp
      · exact h.sz p hp
      · simp at hp; subst hp; simp [Dv.sector]; omega
    · rw [e, hl]
      intro p hp
      rcases List.mem_append.1 hp with hp | hp
      · exact h.keys p hp
      · simp at hp; subst hp; simp only; omega
theorem check_eq {v : Dv} (h : v.Inv) (i : Int) : v.check i = if v.dead = true then 1 else if i < 0 ∨ ((v.image.length / 64 : Nat) : Int) ≤ i then 2 else 0 := by
  unfold Dv.check Dv.n
  rw [len_div (by have := h.load.2.2; omega)]
theorem check_in {v : Dv} (h : v.Inv) {i : Int} (hc : v.check i = 0) : v.dead = false ∧ ∃ k : Nat, i = k ∧ k * 64 + 64 ≤ v.image.length := by
  refine ⟨?_, check_zero (by have := h.load.2.2; omega) hc⟩
  rw [check_eq h] at hc
  split at hc
  · omega
  · rename_i hd; simpa using hd
theorem inv_fresh {img : List UInt8} (h : LoadOk img.length) : (Dv.fresh img).Inv := ⟨h, by simp [Dv.fresh], by simp [Dv.fresh], by simp [Dv.fresh], by simp [Dv.fresh]⟩
theorem put_len {v : Dv} {k : Nat} {b : List UInt8} (hk : k * 64 + 64 ≤ v.image.length) (hb : b.length ≤ 64) : (v.put k b).image.length = v.image.length := by simp [Dv.put]; omega
theorem write_ok {v : Dv} (h : v.Inv) (hd : v.dead = false) (hf : v.fuse = -1) {k : Nat} {b : List UInt8} (hk : k * 64 + 64 ≤ v.image.length) (hb : b.length ≤ 64) : v.write (k : Int) b = (0, v.put k b) := by
  have hc : v.check (k : Int) = 0 := by
    rw [check_eq h, hd]
    simp only [Bool.false_eq_true, if_false]
    rw [if_neg (by omega)]
  have hbn : v.burn = v := by
    obtain ⟨a, b, c, d, e⟩ := v
    simp only at hd hf
    subst hd; subst hf
    simp [Dv.burn]
  unfold Dv.write
  rw [if_neg (by rw [hc]; simp), if_neg (by omega), hbn, if_neg (by rw [hd]; simp)]
  rfl
theorem barrier_ok {v : Dv} (hd : v.dead = false) (hf : v.fuse = -1) : v.barrier = (0, { v with old := [] }) := by
  have hbn : v.burn = v := by
    obtain ⟨a, b, c, d, e⟩ := v
    simp only at hd hf
    subst hd; subst hf
    simp [Dv.burn]
  unfold Dv.barrier
  rw [hbn]; simp [hd]
theorem read_at (X : Nat → Prop) (v : Dv) (i : Int) (hl : v.image.length ≤ 1073741824) (L R : Hp) (s : Nat) (hs : L.length = s) :
    ACalls (E0 X) 60 [.ptr s 0, .int .i64 i] (L ++ devS s v ++ R) (fun r H' => (v.check i ≠ 0 ∧ r = .tup [.nils, .int .i64 (v.check i)] ∧ H' = L ++ devS s v ++ R) ∨
      (v.check i = 0 ∧ r = .tup [.own (3 + s + R.length) 0 64, .int .i64 0] ∧ H' = L ++ devS s v ++ R ++ [some (.arr (((v.image.drop (i.toNat * 64)).take 64).map u8A) 5)])) := by
  refine (dev_gen (fun X => read_c X v i hl) ⟨trivial, trivial⟩ L R s hs).mono ?_
  rintro r H' ⟨r1, h', h, rfl, rfl⟩
  rcases h with ⟨h1, rfl, rfl⟩ | ⟨h1, rfl, rfl⟩
  · refine .inl ⟨h1, rfl, ?_⟩
    show L ++ mapH (sh s R.length 3) (devH v) ++ R ++ [] = _
    rw [mapH_devQ, List.append_nil]
  · refine .inr ⟨h1, by simp [rnA, rnL, sh], ?_⟩
    show L ++ mapH (sh s R.length 3) (devH v) ++ R ++ [some (.arr (rnL _ (List.map u8A _)) _)] = _
    rw [mapH_devQ, rnL_map (fun _ => rfl)]
/-- A device that lives, of L bytes, without a fuse. -/
structure Lv (L : Nat) (v : Dv) : Prop where
  inv : v.Inv
  dead : v.dead = false
  fuse : v.fuse = -1
  len : v.image.length = L
theorem Lv.write {L k : Nat} {v : Dv} (h : Lv L v) (hk : k * 64 + 64 ≤ L) {b : List UInt8} (hb : b.length ≤ 64) : v.write (k : Int) b = (0, v.put k b) := write_ok h.inv h.dead h.fuse (by rw [h.len]; exact hk) hb
theorem Lv.put {L k : Nat} {v : Dv} (h : Lv L v) (hk : k * 64 + 64 ≤ L) {b : List UInt8} (hb : b.length ≤ 64) : Lv L (v.put k b) :=
  ⟨inv_put h.inv (by rw [h.len]; exact hk) hb, h.dead, h.fuse, by rw [put_len (by rw [h.len]; exact hk) hb]; exact h.len⟩
theorem Lv.bar {L : Nat} {v : Dv} (h : Lv L v) : v.barrier = (0, { v with old := [] }) := barrier_ok h.dead h.fuse
theorem Lv.clean {L : Nat} {v : Dv} (h : Lv L v) : Lv L { v with old := [] } := ⟨⟨h.inv.load, by simp, by simp, by simp, h.inv.fuse⟩, h.dead, h.fuse, h.len⟩
theorem lv_new (n : Nat) (h : 1 ≤ n) (h2 : n ≤ 100) : Lv (n * 64) (Dv.fresh (List.replicate ((n : Int).toNat * 64) 0)) :=
  ⟨inv_fresh (by simp only [List.length_replicate, Int.toNat_natCast]; exact ⟨by omega, by omega, by omega⟩), rfl, rfl, by simp [Dv.fresh]⟩
theorem check_ok {v : Dv} (h : v.Inv) (hd : v.dead = false) {k : Nat} (hk : k * 64 + 64 ≤ v.image.length) : v.check (k : Int) = 0 := by
  rw [check_eq h, hd]
  simp only [Bool.false_eq_true, if_false]
  rw [if_neg (by omega)]
end Go.Abs
namespace Go.Abs
/-- The sector of a record. -/
def secN (p : PlN) : Nat := 2 + (p.mig + 1) % 2 * 36 + p.idx
theorem secN_lt {p : PlN} (h : p.idx ≤ 35) : secN p < 74 := by unfold secN; omega
theorem sec_of {p : PlN} (h1 : 1 ≤ p.mig) (h2 : p.idx ≤ 35) : secI p.mig p.idx = (secN p : Int) := by
  unfold secI secN
  rw [if_neg (by omega)]
  omega
def Dv.app (v : Dv) (p : PlN) : Dv := { v.put (secN p) (encP p (secN p)) with old := [] }
theorem Lv.app {L : Nat} {v : Dv} (h : Lv L v) (hL : 4736 ≤ L) {p : PlN} (hi : p.idx ≤ 35) : Lv L (v.app p) := by
  have h1 := secN_lt hi
  exact (h.put (k := secN p) (by omega) (b := encP p (secN p)) (by rw [encP_len]; decide)).clean
attribute [local irreducible] AStep aops AWp Nx awM
set_option maxHeartbeats 0 in
set_option maxRecDepth 100000 in
theorem append_c (X : Nat → Prop) (v : Dv) (L : Nat) (hL : 4736 ≤ L) (hL2 : L ≤ 67108864) (hv : Lv L v) (p : PlN) (hp : validB p.pl = true) :
    ACalls (E0 X) 21 [.ptr 0 0, plA p.pl] (devH v) (fun r H' => r = .int .i64 0 ∧ H' = devH (v.app p)) := by
  obtain ⟨q, hq, hk, hm, hi, ht, hf⟩ := valid_nat hp
  have hpq : p = q := by
    obtain ⟨a, b, c, d, e⟩ := p
    obtain ⟨a2, b2, c2, d2, e2⟩ := q
    simp only [PlN.pl, Pl.mk.injEq] at hq
    obtain ⟨h1, h2, h3, h4, h5⟩ := hq
    simp only [PlN.mk.injEq]
    exact ⟨by omega, by omega, by omega, by omega, h5⟩
  subst hpq
  have hs := secN_lt hi
  have hsec := sec_of hm.1 hi
  have hlb := encP_len p (secN p)
  have hw := fun R => dev_l (fun X => write_c X v hv.inv.ok (secN p) (encP p (secN p)) (by omega)) ⟨trivial, idsL_map fun _ => u8A_ids, trivial⟩ trivial R (X := X)
  rw [hv.write (by omega) (by omega)] at hw
  rw [show v.app p = { v.put (secN p) (encP p (secN p)) with old := [] } from rfl]
  have hv1 := hv.put (k := secN p) (by omega) (b := encP p (secN p)) (by omega)
  have hb := fun R => dev_l (fun X => barrier_c X _ hv1.inv.fuse) trivial trivial R (X := X)
  rw [hv1.bar] at hb
  have hen := fun X => penc_c X p (secN p) hp (by omega)
  have hsc := fun X => sector_c X p.mig p.idx (by omega)
  rw [hsec] at hsc
  have hva := fun X => valid_c X p.pl
  rw [hp] at hva
  simp only [PlN.pl] at hen hva
  show ACalls (E0 X) 21 [.ptr 0 0, .agg [.int .i64 (p.kind : Int), .int .i64 (p.mig : Int), .int .i64 (p.idx : Int), .int .i64 (p.tail : Int), .int .i64 p.t.id, .int .i64 p.t.ver, .int .i64 p.t.rs, .int .i64 p.t.regs]] (devH v) _
  refine acalls_of Proofs.Tryd.func21 rfl Proofs.Tryd.ntmps21 (by kernel_rfl) rfl ?_
  intro hH hargs
  clear hH hargs
  repeat' (first | ((refine Qa rfl ?_); (first | refine Q1 ?_ | refine Q3 rfl rfl rfl ?_ | refine QK rfl ?_); (refine QX rfl rfl ?_)) | refine Qa rfl ?_ | refine Qh ?_ | refine Ql ?_ | refine Qo rfl ?_)
  refine st_call (fun _ => rfl) rfl ?_
  refine ACalls.mono (acalls_pure (E := E0 X) (fun X => hva X) (by simp [IdsLtL]) _) ?_
  rintro r H' ⟨rfl, rfl⟩
  first | refine nx rfl rfl ?_ | refine nx0 ?_
  repeat' (first | ((refine Qa rfl ?_); (first | refine Q3 rfl rfl rfl ?_ | refine Q4 rfl rfl rfl rfl rfl ?_ | refine QD rfl ?_); (refine QX rfl rfl ?_)) | refine Qa rfl ?_ | refine Qh ?_ | refine Ql ?_ | refine Qm ?_ | refine Qo rfl ?_ | refine Qq rfl ?_)
  refine st_call (fun _ => rfl) rfl ?_
  refine ACalls.mono (acalls_pure (E := E0 X) (fun X => hsc X) (by simp [IdsLtL, IdsLt]) _) ?_
  rintro r H' ⟨rfl, rfl⟩
  first | refine nx rfl rfl ?_ | refine nx0 ?_
  repeat' (first | ((refine Qa rfl ?_); (first | refine Q0 ?_ | refine Q1 ?_ | refine Q3 rfl rfl rfl ?_); (refine QX rfl rfl ?_)) | refine Qa rfl ?_ | refine Qh ?_ | refine Ql ?_ | refine Qo rfl ?_)
  refine st_call (fun _ => rfl) rfl ?_
  refine ACalls.mono (acalls_pure (E := E0 X) (fun X => hen X) (by simp [IdsLtL, IdsLt]) _) ?_
  rintro r H' ⟨rfl, rfl⟩
  first | refine nx rfl rfl ?_ | refine nx0 ?_
  repeat' (first | ((refine Qa rfl ?_); (first | refine Q0 ?_ | refine Q1 ?_ | refine QC rfl rfl ?_); (refine QX rfl rfl ?_)) | refine Qa rfl ?_ | refine Qh ?_ | refine Ql ?_ | refine Qo rfl ?_)
  refine st_call (fun _ => rfl) rfl ?_
  refine ACalls.mono (hw _) ?_
  rintro r H' ⟨rfl, rfl⟩
  first | refine nx rfl rfl ?_ | refine nx0 ?_
  generalize v.put (secN p) (encP p (secN p)) = v1 at *
  repeat' (first | ((refine Qa rfl ?_); (first | refine Q0 ?_ | refine Q1 ?_ | refine Q2 rfl ?_); (refine QX rfl rfl ?_)) | refine Qa rfl ?_ | refine Qh ?_ | refine Ql ?_ | refine Qm ?_ | refine Qo rfl ?_ | refine Qq rfl ?_)
  refine st_call (fun _ => rfl) rfl ?_
  refine ACalls.mono (hb _) ?_
  rintro r H' ⟨rfl, rfl⟩
  first | refine nx rfl rfl ?_ | refine nx0 ?_
  repeat' (first | ((refine Qa rfl ?_); (refine Q1 ?_); (refine QX rfl rfl ?_)) | refine Qh ?_ | refine Qs ?_)
  refine awp_pre (imp_cutk 3 (Nat.le_refl _) (hok_dev _) rfl (by simp) (sl' := [(4, .int .i64 0)]) ?_) ?_
  · repeat' (first | exact fa_nil | refine fa_cons ⟨?_, ?_⟩ ?_)
    all_goals (try first | exact rfl | exact trivial | (simp [IdsLt, IdsLtL]; done) | (simp [get_cons]; done) | (simp [get_cons, *]; done) | (refine congrArg (AV.int .i64) (wrap_eq ?_ ?_ ?_) <;> (first | omega | (simp; omega))))
  refine awp_ret ?_
  refine ⟨_, rfl, ?_, ?_⟩
  · rfl
  · rfl
set_option maxHeartbeats 0 in
theorem appendbad_c (X : Nat → Prop) (v : Dv) (p : Pl) (hp : validB p = false) :
    ACalls (E0 X) 21 [.ptr 0 0, plA p] (devH v) (fun r H' => r = .int .i64 4 ∧ H' = devH v) := by
  have hva := fun X => valid_c X p
  rw [hp] at hva
  refine acalls_of Proofs.Tryd.func21 rfl Proofs.Tryd.ntmps21 (by kernel_rfl) rfl ?_
  intro hH hargs
  clear hH hargs
  repeat' (first | ((refine Qa rfl ?_); (first | refine Q1 ?_ | refine Q3 rfl rfl rfl ?_ | refine QK rfl ?_); (refine QX rfl rfl ?_)) | refine Qa rfl ?_ | refine Qh ?_ | refine Ql ?_ | refine Qo rfl ?_)
  refine st_call (fun _ => rfl) rfl ?_
  refine ACalls.mono (acalls_pure (E := E0 X) (fun X => hva X) (by simp [IdsLtL]) _) ?_
  rintro r H' ⟨rfl, rfl⟩
  first | refine nx rfl rfl ?_ | refine nx0 ?_
  repeat' (first | ((refine Qa rfl ?_); (first | refine Q1 ?_ | refine QD rfl ?_); (refine QX rfl rfl ?_)) | refine Qh ?_ | refine Ql ?_ | refine Qo rfl ?_ | refine Qp rfl ?_ | refine Qs ?_)
  refine awp_pre (imp_cutk 3 (Nat.le_refl _) (hok_dev _) rfl (by simp) (sl' := [(4, .int .i64 4)]) ?_) ?_
  · repeat' (first | exact fa_nil | refine fa_cons ⟨?_, ?_⟩ ?_)
    all_goals (try first | exact rfl | exact trivial | (simp [IdsLt, IdsLtL]; done) | (simp [get_cons]; done) | (simp [get_cons, *]; done) | (refine congrArg (AV.int .i64) (wrap_eq ?_ ?_ ?_) <;> (first | omega | (simp; omega))))
  refine awp_ret ?_
  refine ⟨_, rfl, ?_, ?_⟩
  · rfl
  · rfl
end Go.Abs
namespace Go.Abs
def repStep (v : Dv) (mig : Int) (i : Nat) : Option Pl :=
  if v.check (secI mig i) ≠ 0 then none else match decP ((v.image.drop ((secI mig i).toNat * 64)).take 64) (secI mig i).toNat with
    | none => none
    | some p => if p.mig = mig ∧ p.idx = (i : Int) then some p else none
def replF (v : Dv) (mig : Int) : Nat → Nat → List Pl
  | _, 0 => []
  | i, n + 1 => match repStep v mig i with
    | none => []
    | some p => p :: replF v mig (i + 1) n
def repl (v : Dv) (mig : Int) : List Pl := replF v mig 0 36
theorem oneEs_pl (l : List Pl) : OneEs (l.map plA) := fun y hy => by
  obtain ⟨b, _, rfl⟩ := List.mem_map.1 hy; exact ⟨rfl, rfl⟩
theorem scal_optP (o : Option Pl) : scal (optP o) = true := by
  cases o <;> rfl
theorem ACalls.frzD {E : Env} {f : FuncId} {args : List AV} {es : List AV} {e : TypeId} {v : Dv} (k : Nat) (h : ACalls E f args (devH v) (fun r H' => ∃ id n, r = .own id 0 n ∧ n = es.length ∧ 3 ≤ id ∧ H'[id]? = some (some (.arr es e)) ∧ H'.take 3 = devH v)) (he : Nat.blt e E.n = true) (hk : Nat.beq (E.ti e).sz k = true) (hes : IdsLtL 0 es) :
    ACalls E f args (devH v) (fun r H' => r = .sl k es ∧ H' = devH v) :=
  h.imp fun r H' ⟨id, n, h1, h2, h3, h4, h5⟩ => by
    subst h1; subst h2
    have hlt : id < H'.length := (List.getElem?_eq_some_iff.1 h4).1
    refine ⟨_, _, ⟨rfl, rfl⟩, ?_⟩
    refine (imp_freeze (id := id) (k := k) (es := es) (e := e) h4 he hk).trans ?_
    refine imp_cutk 3 (Nat.le_refl _) (hok_dev v) ?_ (by simp; omega) ?_
    · show (H'.set id none).take 3 = devH v
      rw [← h5]
      apply List.ext_getElem?
      intro j
      simp only [List.getElem?_take, List.getElem?_set]
      split
      · rw [if_neg (by omega)]
      · rfl
    refine fa_cons ⟨?_, ids_mono (Nat.zero_le _) hes⟩ fa_nil
    simp [get_cons, frz]
theorem hok_da (v : Dv) (l : List Pl) : HOk 4 (devH v ++ [some (.arr (l.map plA) 32)]) := fun j o ho => by
  match j, ho with
  | 0, ho => cases ho; exact ⟨by simp [IdsLt], by simp [IdsLt], trivial, trivial, trivial, trivial⟩
  | 1, ho => cases ho; exact idsL_map fun _ => u8A_ids
  | 2, ho => cases ho; exact ⟨by rw [List.map_map]; exact idsL_map fun _ => trivial, by rw [List.map_map]; exact idsL_map fun p => (idsL_map (f := u8A) fun _ => u8A_ids : IdsLtL _ (p.2.map u8A))⟩
  | 3, ho => cases ho; exact idsL_map fun _ => plA_ids
attribute [local irreducible] AStep aops AWp Nx awM
set_option maxHeartbeats 0 in
set_option maxRecDepth 100000 in
theorem replay_c (X : Nat → Prop) (v : Dv) (hv : v.Inv) (mig : Int) (hm : mig ≤ 9223372036854775807) :
    ACalls (E0 X) 22 [.ptr 0 0, .int .i64 mig] (devH v) (fun r H' => r = .sl 8 ((repl v mig).map plA) ∧ H' = devH v) := by
  have hlv : v.image.length ≤ 1073741824 := by have := hv.load.2.2; omega
  refine ACalls.frzD (e := 32) 8 ?_ rfl rfl (idsL_map fun _ => plA_ids)
  refine acalls_of Proofs.Tryd.func22 rfl Proofs.Tryd.ntmps22 (by kernel_rfl) rfl ?_
  intro hH hargs
  clear hH hargs
  repeat' (first | ((refine Qa rfl ?_); (first | refine Q0 ?_ | refine Q1 ?_); (refine QX rfl rfl ?_)) | refine Qh ?_ | refine Ql ?_ | refine Qn ?_ | refine Qo rfl ?_)
  refine awp_loop2 (fun p : Nat × List Pl => ⟨[(0, .ptr 0 0), (1, .int .i64 mig), (5, .own 3 0 p.2.length), (12, .int .i64 (p.1 : Int))], devH v ++ [some (.arr (p.2.map plA) 32)]⟩)
    (fun p => p.1 ≤ 36 ∧ p.2.length ≤ p.1 ∧ p.2 ++ replF v mig p.1 (36 - p.1) = repl v mig) (fun p => 36 - p.1) (0, []) ⟨by omega, by simp, rfl⟩ ?_ ?_
  · refine Imp.trans (imp_nil 5 32 rfl) (imp_cutk 4 (by simp [devH]) (hok_da v []) rfl (by simp) ?_)
    repeat' (first | exact fa_nil | refine fa_cons ⟨?_, ?_⟩ ?_)
    all_goals (try first | exact rfl | exact trivial | (simp [IdsLt]; done) | (simp [get_cons]; done) | (simp [get_cons, *]; done) | (refine congrArg (AV.int .i64) (wrap_eq ?_ ?_ ?_) <;> (first | omega | (simp; omega))))
  rintro ⟨i, out⟩ ⟨hi, hol, hr⟩
  have hi : i ≤ 36 := hi
  have hol : out.length ≤ i := hol
  have hr : out ++ replF v mig i (36 - i) = repl v mig := hr
  show AWp _ _ _ _ _ ⟨[(0, .ptr 0 0), (1, .int .i64 mig), (5, .own 3 0 out.length), (12, .int .i64 (i : Int))], devH v ++ [some (.arr (out.map plA) 32)]⟩
  have hsc := fun X => sector_c X mig i hm
  repeat' (first | ((refine Qa rfl ?_); (refine Q2 rfl ?_); (refine QX rfl rfl ?_)) | refine Qh ?_ | refine Ql ?_ | refine Qo rfl ?_)
  refine awp_cond_dec rfl (fun h3 => ?_) (fun h3 => ?_)
  · have hi3 : i < 36 := by omega
    have hrn : replF v mig i (36 - i) = match repStep v mig i with
      | none => []
      | some p => p :: replF v mig (i + 1) (36 - (i + 1)) := by
      have : 36 - i = (36 - (i + 1)) + 1 := by omega
      rw [this]; rfl
    repeat' (first | ((refine Qa rfl ?_); (first | refine Q0 ?_ | refine Q1 ?_); (refine QX rfl rfl ?_)) | refine Qa rfl ?_ | refine Qh ?_ | refine Ql ?_ | refine Qm ?_ | refine Qn ?_ | refine Qo rfl ?_)
    refine st_call (fun _ => rfl) rfl ?_
    refine ACalls.mono (acalls_pure (E := E0 X) (fun X => hsc X) (by simp [IdsLtL, IdsLt]) _) ?_
    rintro r H' ⟨rfl, rfl⟩
    first | refine nx rfl rfl ?_ | refine nx0 ?_
    repeat' (first | ((refine Qa rfl ?_); (first | refine Q0 ?_ | refine Q1 ?_); (refine QX rfl rfl ?_)) | refine Qa rfl ?_ | refine Qh ?_ | refine Ql ?_ | refine Qo rfl ?_)
    by_cases hc : v.check (secI mig i) = 0
    · obtain ⟨-, k, hk, hk2⟩ := check_in hv hc
      have hk20 : k < 1048576 := by have := hv.load.2.2; omega
      have hst : repStep v mig i = match decP ((v.image.drop (k * 64)).take 64) k with
        | none => none
        | some p => if p.mig = mig ∧ p.idx = (i : Int) then some p else none := by
        simp only [repStep]
        rw [if_neg (by simp [hc]), hk, Int.toNat_natCast]
      have hbl : ((v.image.drop (k * 64)).take 64).length = 64 := by simp; omega
      have hrd := read_at X v (secI mig i) hlv [] [some (.arr (out.map plA) 32)] 0 rfl
      rw [hk, Int.toNat_natCast] at hrd
      rw [hk] at hc
      rw [hk]
      generalize (v.image.drop (k * 64)).take 64 = bb at *
      refine st_call (fun _ => rfl) rfl ?_
      refine ACalls.mono hrd ?_
      rintro r H' (⟨hc2, -, -⟩ | ⟨-, rfl, rfl⟩)
      · exact absurd hc hc2
      first | refine nx rfl rfl ?_ | refine nx0 ?_
      repeat' (first | ((refine Qa rfl ?_); (first | refine Q0 ?_ | refine Q1 ?_ | refine Q2 rfl ?_ | refine QC rfl rfl ?_); (refine QX rfl rfl ?_)) | refine Qa rfl ?_ | refine Qh ?_ | refine Ql ?_ | refine Qm ?_ | refine Qo rfl ?_ | refine Qq rfl ?_)
      refine st_call (fun _ => rfl) rfl ?_
      refine ACalls.mono (acalls_borrow (E := E0 X) (fun X => pdec_c X bb k hk20 (by omega)) (scal_optP _) (Bor.sl (u8_ids _) (src_ownm' rfl rfl rfl (by omega) (by rw [List.drop_zero, List.take_of_length_le (by omega)])) (Bor.same trivial .nil))) ?_
      rintro r H' ⟨rfl, rfl⟩
      cases hd : decP bb k with
      | none =>
        rw [hd] at hst
        rw [hst] at hrn
        rw [hrn, List.append_nil] at hr
        show Nx _ (.tup [plA zeroP, .bool false]) _
        first | refine nx rfl rfl ?_ | refine nx0 ?_
        repeat' (first | ((refine Qa rfl ?_); (first | refine Q0 ?_ | refine Q1 ?_ | refine Q5 rfl ?_ | refine QC rfl rfl ?_ | refine QD rfl ?_ | refine QJ rfl rfl ?_); (refine QX rfl rfl ?_)) | (refine Qb rfl ?_; try (refine QS rfl rfl rfl rfl rfl rfl rfl ?_; (refine QX rfl rfl ?_))) | refine Qh ?_ | refine Qi rfl ?_ | refine Ql ?_ | refine Qo rfl ?_ | refine Qp rfl ?_ | refine Qr ?_ | refine Qs ?_)
        refine awp_ret ?_
        refine ⟨_, rfl, 3, _, rfl, ?_, Nat.le_refl _, ?_, rfl⟩
        · rw [← hr, List.length_map]
        · rw [← hr]; rfl
      | some p =>
        rw [hd] at hst
        show Nx _ (.tup [plA p, .bool true]) _
        first | refine nx rfl rfl ?_ | refine nx0 ?_
        repeat' (first | ((refine Qa rfl ?_); (first | refine Q0 ?_ | refine Q1 ?_ | refine Q2 rfl ?_ | refine Q3 rfl rfl rfl ?_ | refine Q4 rfl rfl rfl rfl rfl ?_ | refine Q5 rfl ?_ | refine QC rfl rfl ?_ | refine QD rfl ?_ | refine QJ rfl rfl ?_); (refine QX rfl rfl ?_)) | (refine Qb rfl ?_; try (refine QS rfl rfl rfl rfl rfl rfl rfl ?_; (refine QX rfl rfl ?_))) | refine Qh ?_ | refine Qi rfl ?_ | refine Ql ?_ | refine Qo rfl ?_ | refine Qp rfl ?_ | refine Qr ?_ | refine Qs ?_ | ((fail_if_success refine QV rfl ?_); refine Qy rfl rfl (fun _ => ?_) (fun _ => ?_)))
        · rename_i h5
          have h6 : repStep v mig i = none := by rw [hst]; exact if_neg fun h => h5 h.1
          rw [h6] at hrn
          rw [hrn, List.append_nil] at hr
          refine awp_ret ?_
          refine ⟨_, rfl, 3, _, rfl, ?_, Nat.le_refl _, ?_, rfl⟩
          · rw [← hr, List.length_map]
          · rw [← hr]; rfl
        rename_i h5
        refine awp_cond_dec rfl (fun h7 => ?_) (fun h7 => ?_)
        · have h6 : repStep v mig i = none := by rw [hst]; exact if_neg fun h => h7 h.2
          rw [h6] at hrn
          rw [hrn, List.append_nil] at hr
          repeat' (first | ((refine Qa rfl ?_); (first | refine Q0 ?_ | refine Q1 ?_); (refine QX rfl rfl ?_)) | refine Qh ?_ | refine Ql ?_ | refine Qo rfl ?_ | refine Qr ?_ | refine Qs ?_)
          refine awp_ret ?_
          refine ⟨_, rfl, 3, _, rfl, ?_, Nat.le_refl _, ?_, rfl⟩
          · rw [← hr, List.length_map]
          · rw [← hr]; rfl
        · have h8 : p.mig = mig := Decidable.not_not.1 h5
          have h9 : p.idx = (i : Int) := Decidable.not_not.1 h7
          have h6 : repStep v mig i = some p := by rw [hst]; exact if_pos ⟨h8, h9⟩
          rw [h6] at hrn
          rw [hrn] at hr
          repeat' (first | ((refine Qa rfl ?_); (first | refine Q0 ?_ | refine Q3 rfl rfl rfl ?_ | refine QQ rfl rfl rfl rfl rfl rfl rfl rfl rfl rfl rfl ?_); (refine QX rfl rfl ?_)) | refine Qa rfl ?_ | refine Qm ?_ | refine Qo rfl ?_)
          refine st_app (oid := some 3) (es := out.map plA) (out := (out ++ [p]).map plA) (n := out.length + 1) (dst_own rfl (List.length_map _).symm) (rfl) (oneEs_pl [p]) (by rw [List.map_append]; rfl) (by rw [List.length_map]; rfl) (by show _ ≤ 9223372036854775807; omega) (by show _ * 64 ≤ _; omega) rfl rfl rfl rfl rfl rfl rfl rfl ?_
          first | refine nx rfl rfl ?_ | refine nx0 ?_
          repeat' (first | ((refine Qa rfl ?_); (first | refine Q0 ?_ | refine Q1 ?_ | refine Q2 rfl ?_); (refine QX rfl rfl ?_)) | refine Qh ?_ | refine Qo rfl ?_ | refine Qs ?_)
          refine ⟨(i + 1, out ++ [p]), ⟨by show i + 1 ≤ 36; omega, by simp; omega, by show (out ++ [p]) ++ _ = _; rw [← hr]; simp⟩, by show 36 - (i + 1) < 36 - i; omega, ?_⟩
          refine imp_tid 3 [6] (H' := devH v ++ [some (.arr ((out ++ [p]).map plA) 32)]) (os := [.arr ((out ++ [p]).map plA) 32]) (Nat.le_refl _) ?_ ?_ ?_ ?_ rfl ?_ ?_ ?_
          · simp
          · simp
          · simp
          · exact hok_dev v
          · rfl
          · refine fa_cons (ren_lt rfl (by simp [IdsLt])) (fa_cons (ren_lt rfl trivial) (fa_cons ?_ (fa_cons (ren_lt ?_ trivial) fa_nil)))
            · rw [List.length_append]; exact ren_own rfl
            · exact congrArg (AV.int .i64) (wrap_eq (by omega) (by omega) (by omega))
          · exact os_cons rfl (renO_old 3 gcF_lt (idsL_map fun _ => plA_ids)) os_nil
    · have hst : repStep v mig i = none := by simp only [repStep]; rw [if_pos hc]
      rw [hst] at hrn
      rw [hrn, List.append_nil] at hr
      refine st_call (fun _ => rfl) rfl ?_
      refine ACalls.mono (read_at X v (secI mig i) hlv [] [some (.arr (out.map plA) 32)] 0 rfl) ?_
      rintro r H' (⟨-, rfl, rfl⟩ | ⟨hc2, -, -⟩)
      rotate_left
      · exact absurd hc2 hc
      first | refine nx rfl rfl ?_ | refine nx0 ?_
      repeat' (first | ((refine Qa rfl ?_); (first | refine Q0 ?_ | refine Q1 ?_ | refine Q2 rfl ?_ | refine QC rfl rfl ?_); (refine QX rfl rfl ?_)) | refine Qh ?_ | refine Ql ?_ | refine Qo rfl ?_ | refine Qs ?_)
      refine awp_cond_dec rfl (fun h4 => ?_) (fun h4 => ?_)
      · skip
        repeat' (first | ((refine Qa rfl ?_); (first | refine Q0 ?_ | refine Q1 ?_); (refine QX rfl rfl ?_)) | refine Qh ?_ | refine Ql ?_ | refine Qo rfl ?_ | refine Qr ?_ | refine Qs ?_)
        refine awp_ret ?_
        refine ⟨_, rfl, 3, _, rfl, ?_, Nat.le_refl _, ?_, rfl⟩
        · rw [← hr, List.length_map]
        · rw [← hr]; rfl
      · exact absurd (by omega) hc
  · have hi3 : i = 36 := by omega
    subst hi3
    have hr2 : out = repl v mig := by rw [← hr]; simp [replF]
    repeat' (first | ((refine Qa rfl ?_); (first | refine Q0 ?_ | refine Q1 ?_); (refine QX rfl rfl ?_)) | refine Qh ?_ | refine Ql ?_ | refine Qo rfl ?_ | refine Qr ?_ | refine Qs ?_)
    refine awp_ret ?_
    refine ⟨_, rfl, 3, _, rfl, ?_, Nat.le_refl _, ?_, rfl⟩
    · rw [← hr2, List.length_map]
    · rw [← hr2]; rfl
end Go.Abs
namespace Go.Abs
theorem byteAt_nat (n s : Nat) : (byteAt n s).toNat = n / 2 ^ s % 256 := by
  unfold byteAt
  rw [UInt8.toNat_ofNat']; omega
theorem putB4 (n : Nat) : putB n 4 4 = [byteAt n 24, byteAt n 16, byteAt n 8, byteAt n 0] := rfl
theorem putB6 (n : Nat) : putB n 6 6 = [byteAt n 40, byteAt n 32, byteAt n 24, byteAt n 16, byteAt n 8, byteAt n 0] := rfl
theorem num4 {n : Nat} (h : n ≤ 4294967295) : numN [byteAt n 24, byteAt n 16, byteAt n 8, byteAt n 0] = n := by
  simp only [numN, List.foldl_cons, List.foldl_nil, byteAt_nat]
  have e1 : (2 : Nat) ^ 24 = 16777216 := by decide
  have e2 : (2 : Nat) ^ 16 = 65536 := by decide
  have e3 : (2 : Nat) ^ 8 = 256 := by decide
  rw [e1, e2, e3]
  omega
theorem num6 {n : Nat} (h : n ≤ 281474976710655) : numN [byteAt n 40, byteAt n 32, byteAt n 24, byteAt n 16, byteAt n 8, byteAt n 0] = n := by
  simp only [numN, List.foldl_cons, List.foldl_nil, byteAt_nat]
  have e1 : (2 : Nat) ^ 24 = 16777216 := by decide
  have e2 : (2 : Nat) ^ 16 = 65536 := by decide
  have e3 : (2 : Nat) ^ 8 = 256 := by decide
  have e4 : (2 : Nat) ^ 32 = 4294967296 := by decide
  have e5 : (2 : Nat) ^ 40 = 1099511627776 := by decide
  rw [e1, e2, e3, e4, e5]
  omega
theorem num1 {n : Nat} (h : n ≤ 255) : numN [UInt8.ofNat (n % 256)] = n := by
  simp only [numN, List.foldl_cons, List.foldl_nil]
  rw [UInt8.toNat_ofNat']; omega
theorem rs_back {rs : Int} (h : 2 ≤ rs ∧ rs ≤ 2048) (h2 : ibits .and .i64 rs (IntKind.i64.wrap (rs - 1)) = 0) : ((2 ^ min ((lenN rs.toNat - 1) % 256) 30 : Nat) : Int) = rs ∧ lenN rs.toNat - 1 ≤ 255 := by
  have h1 : ((List.range 2049).all fun n => !(decide (2 ≤ n)) || (!(decide (ibits .and .i64 (n : Int) (IntKind.i64.wrap ((n : Int) - 1)) = 0)) || (decide (2 ^ min ((lenN n - 1) % 256) 30 = n) && decide (lenN n - 1 ≤ 255)))) = true := by kernel_rfl
  obtain ⟨n, rfl⟩ := Int.eq_ofNat_of_zero_le (show 0 ≤ rs by omega)
  have h3 := List.all_eq_true.1 h1 n (by simp; omega)
  have h4 : decide (2 ≤ n) = true := by simp; omega
  rw [h4, decide_eq_true h2] at h3
  simp only [Bool.not_true, Bool.false_or, Bool.and_eq_true, decide_eq_true_eq] at h3
  exact ⟨by simp only [Int.toNat_natCast]; rw [h3.1], h3.2⟩
def payL (p : PlN) : List UInt8 := [UInt8.ofNat (p.kind % 256), byteAt p.mig 24, byteAt p.mig 16, byteAt p.mig 8, byteAt p.mig 0, UInt8.ofNat (p.idx % 256), byteAt p.tail 40, byteAt p.tail 32, byteAt p.tail 24, byteAt p.tail 16, byteAt p.tail 8, byteAt p.tail 0,
  byteAt p.t.id.toNat 24, byteAt p.t.id.toNat 16, byteAt p.t.id.toNat 8, byteAt p.t.id.toNat 0, UInt8.ofNat (p.t.ver.toNat % 256), UInt8.ofNat ((lenN p.t.rs.toNat - 1) % 256), UInt8.ofNat (p.t.regs.toNat % 256)]
theorem payP_eq (p : PlN) : payP p = payL p := rfl
theorem parP_pay {p : PlN} (hv : validB p.pl = true) (z : List UInt8) : parP (payP p ++ z) = p.pl := by
  obtain ⟨q, hq, hk, hm, hi, ht, hf⟩ := valid_nat hv
  have hpq : p = q := by
    obtain ⟨a, b, c, d, e⟩ := p
    obtain ⟨a2, b2, c2, d2, e2⟩ := q
    simp only [PlN.pl, Pl.mk.injEq] at hq
    obtain ⟨h1, h2, h3, h4, h5⟩ := hq
    simp only [PlN.mk.injEq]
    exact ⟨by omega, by omega, by omega, by omega, h5⟩
  subst hpq
  obtain ⟨kind, mig, idx, tail, id, ver, rs, regs⟩ := p
  simp only at hk hm hi ht hf
  simp only [formB, Bool.and_eq_true, Bool.or_eq_true, decide_eq_true_eq] at hf
  obtain ⟨f1, f2, f3, f4, f5, f6, f7, f8⟩ := hf
  have hrs := rs_back ⟨f4, f5⟩ f6
  have e1 : (parP (payP ⟨kind, mig, idx, tail, ⟨id, ver, rs, regs⟩⟩ ++ z)) = ⟨((numN [UInt8.ofNat (kind % 256)] : Nat) : Int), ((numN [byteAt mig 24, byteAt mig 16, byteAt mig 8, byteAt mig 0] : Nat) : Int), ((numN [UInt8.ofNat (idx % 256)] : Nat) : Int),
      ((numN [byteAt tail 40, byteAt tail 32, byteAt tail 24, byteAt tail 16, byteAt tail 8, byteAt tail 0] : Nat) : Int),
      ⟨((numN [byteAt id.toNat 24, byteAt id.toNat 16, byteAt id.toNat 8, byteAt id.toNat 0] : Nat) : Int), ((numN [UInt8.ofNat (ver.toNat % 256)] : Nat) : Int),
       if 0 < numN [byteAt id.toNat 24, byteAt id.toNat 16, byteAt id.toNat 8, byteAt id.toNat 0] then ((2 ^ min (numN [UInt8.ofNat ((lenN rs.toNat - 1) % 256)]) 30 : Nat) : Int) else 0, ((numN [UInt8.ofNat (regs.toNat % 256)] : Nat) : Int)⟩⟩ := by
    rw [payP_eq]; rfl
  rw [e1, num1 (by omega), num4 (by omega), num1 (by omega), num6 (by omega), num4 (by omega), num1 (by omega), num1 hrs.2, num1 (by omega)]
  have h9 : 0 < id.toNat := by omega
  rw [if_pos h9]
  have h10 : lenN rs.toNat - 1 = (lenN rs.toNat - 1) % 256 := by have := hrs.2; omega
  rw [h10, hrs.1]
  simp only [PlN.pl, Pl.mk.injEq, La.mk.injEq]
  exact ⟨trivial, trivial, trivial, trivial, by omega, by omega, trivial, by omega⟩
theorem frB_pad {k : Nat} {p : List UInt8} (h : p.length ≤ 59) : frB k (p ++ List.replicate (59 - p.length) 0) = frB k p := by
  have : (p ++ List.replicate (59 - p.length) (0 : UInt8)).length = 59 := by simp; omega
  simp only [frB, this, Nat.sub_self, List.replicate_zero, List.append_nil]
theorem decF_encF {k s n : Nat} {p : List UInt8} (h : p.length ≤ 59) : decF k s n (encF k s n p) = some (p ++ List.replicate (59 - p.length) 0) := by
  have hp : ((encF k s n p).drop 1).take 59 = p ++ List.replicate (59 - p.length) 0 := by
    have e : encF k s n p = UInt8.ofNat (k % 256) :: ((p ++ List.replicate (59 - p.length) 0) ++ putB (frSum s n (frB k p)) 4 4) := rfl
    rw [e]
    simp only [List.drop_succ_cons, List.drop_zero]
    exact List.take_left' (by simp; omega)
  have he : encF k s n (p ++ List.replicate (59 - p.length) 0) = encF k s n p := by simp only [encF, frB_pad h]
  unfold decF
  rw [hp, he, if_pos ⟨encF_len h, rfl⟩]
theorem decP_encP {p : PlN} (hv : validB p.pl = true) (k : Nat) : decP (encP p k) k = some p.pl := by
  have hl := payP_len p
  have h1 : decF 4 0 k (encP p k) = some (payP p ++ List.replicate (59 - (payP p).length) 0) := decF_encF (by omega)
  unfold decP
  rw [h1]
  simp only
  rw [parP_pay hv]
  have h2 : encO p.pl k = some (encP p k) := by
    unfold encO
    rw [if_pos hv]
    simp [PlN.pl]
  rw [if_pos h2]
theorem decP_zero (k : Nat) : decP (List.replicate 64 0) k = none := by
  have h : decF 4 0 k (List.replicate 64 0) = none := by
    unfold decF
    rw [if_neg]
    rintro ⟨_, h2⟩
    have h3 := congrArg (fun l => l[0]?) h2
    have e : ∀ p, (encF 4 0 k p)[0]? = some 4 := fun p => rfl
    simp only [e] at h3
    exact absurd h3 (by decide)
  unfold decP
  rw [h]
/-- What lies in the journal's sectors. -/
def Jn (v : Dv) (w : Nat → Option PlN) : Prop := ∀ j, j < 74 → (v.image.drop (j * 64)).take 64 = match w j with
  | some q => encP q j
  | none => List.replicate 64 0
theorem sec_put {v : Dv} {k j : Nat} {b : List UInt8} (hk : k * 64 + 64 ≤ v.image.length) (hb : b.length = 64) (hj : j * 64 + 64 ≤ v.image.length) :
    ((v.put k b).image.drop (j * 64)).take 64 = if j = k then b else (v.image.drop (j * 64)).take 64 := by
  have e : (v.put k b).image = v.image.take (k * 64) ++ b ++ v.image.drop (k * 64 + 64) := by
    simp [Dv.put, hb]
  rw [e]
  apply List.ext_getElem?
  intro i
  rw [List.getElem?_take]
  by_cases hi : i < 64
  · rw [if_pos hi, List.getElem?_drop]
    by_cases hjk : j = k
    · subst hjk
      rw [if_pos rfl, List.append_assoc, List.getElem?_append_right (by simp; omega), List.getElem?_append_left (by simp; omega)]
      congr 1
      simp; omega
    · rw [if_neg hjk, List.getElem?_take, if_pos hi, List.getElem?_drop]
      rcases Nat.lt_or_ge j k with h1 | h1
      · rw [List.append_assoc, List.getElem?_append_left (by simp; omega), List.getElem?_take, if_pos (by omega)]
      · rw [List.getElem?_append_right (by simp; omega), List.getElem?_drop]
        congr 1
        simp; omega
  · rw [if_neg hi]
    split
    · rw [List.getElem?_eq_none (by omega)]
    · rw [List.getElem?_take, if_neg hi]
theorem Jn.app {v : Dv} {w : Nat → Option PlN} (h : Jn v w) {L : Nat} (hv : Lv L v) (hL : 4736 ≤ L) {p : PlN} (hi : p.idx ≤ 35) : Jn (v.app p) (fun j => if j = secN p then some p else w j) := fun j hj => by
  have h1 := secN_lt hi
  have h2 := sec_put (v := v) (k := secN p) (j := j) (b := encP p (secN p)) (by rw [hv.len]; omega) (encP_len _ _) (by rw [hv.len]; omega)
  show ((v.put (secN p) (encP p (secN p))).image.drop (j * 64)).take 64 = _
  rw [h2]
  by_cases hjk : j = secN p
  · subst hjk; simp
  · simp only [if_neg hjk]; exact h j hj
theorem jn_new (n : Nat) (hn : 74 ≤ n) : Jn (Dv.fresh (List.replicate (((n : Nat) : Int).toNat * 64) 0)) (fun _ => none) := fun j hj => by
  simp only [Dv.fresh, Int.toNat_natCast, List.drop_replicate, List.take_replicate]
  congr 1
  omega
theorem rep_at {v : Dv} {w : Nat → Option PlN} (h : Jn v w) {L : Nat} (hv : Lv L v) (hL : 4736 ≤ L) {mig i : Nat} (hm : 1 ≤ mig) (hi : i < 36) (hw : ∀ j q, w j = some q → validB q.pl = true) :
    repStep v mig i = match w (2 + (mig + 1) % 2 * 36 + i) with
      | some q => if q.mig = mig ∧ q.idx = i then some q.pl else none
      | none => none := by
  have hs : secI mig i = ((2 + (mig + 1) % 2 * 36 + i : Nat) : Int) := by
    unfold secI
    rw [if_neg (by omega)]; omega
  have hlt : 2 + (mig + 1) % 2 * 36 + i < 74 := by omega
  generalize 2 + (mig + 1) % 2 * 36 + i = k at *
  have hc := check_ok hv.inv hv.dead (k := k) (by rw [hv.len]; omega)
  unfold repStep
  rw [hs, if_neg (by rw [hc]; simp), Int.toNat_natCast, h k hlt]
  cases hq : w k with
  | none => simp only [decP_zero]
  | some q =>
    simp only [decP_encP (hw k q hq)]
    have e : (q.pl.mig = (mig : Int) ∧ q.pl.idx = (i : Int)) ↔ (q.mig = mig ∧ q.idx = i) := by
      simp only [PlN.pl]; omega
    simp only [e]
theorem repl_of {v : Dv} {mig : Int} {n : Nat} (hn : n ≤ 36) (f : Nat → Pl) (h : ∀ i, i < n → repStep v mig i = some (f i)) (h2 : n < 36 → repStep v mig n = none) : repl v mig = (List.range n).map f := by
  have : ∀ k, k ≤ n → replF v mig (n - k) (36 - (n - k)) = (List.range' (n - k) k).map f := by
    intro k
    induction k with
    | zero =>
      intro _
      rcases Nat.lt_or_ge n 36 with h3 | h3
      · have e : 36 - (n - 0) = (36 - (n + 1)) + 1 := by omega
        rw [e]
        simp only [Nat.sub_zero, replF, h2 h3]
        rfl
      · have e : 36 - (n - 0) = 0 := by omega
        rw [e]; rfl
    | succ k ih =>
      intro hk
      have ih := ih (by omega)
      have e : 36 - (n - (k + 1)) = (36 - (n - k)) + 1 := by omega
      have e2 : n - (k + 1) + 1 = n - k := by omega
      rw [e]
      simp only [replF, h _ (show n - (k + 1) < n by omega)]
      rw [e2, ih, List.range'_succ, e2]
      rfl
  have h3 := this n (Nat.le_refl _)
  rw [Nat.sub_self, Nat.sub_zero] at h3
  rw [repl, h3, List.range_eq_range']
end Go.Abs
namespace Go.Abs
def tgt : La := ⟨2, 1, 4, 4⟩
attribute [local irreducible] AStep aops AWp Nx awM
set_option maxHeartbeats 0 in
theorem target_c (X : Nat → Prop) : ACalls (E0 X) 20 [] [] (fun r H' => r = laA tgt ∧ H' = []) := by
  refine ACalls.cut0 ?_ laA_ids
  refine acalls_of Proofs.Tryd.func20 rfl Proofs.Tryd.ntmps20 (by kernel_rfl) rfl ?_
  intro hH hargs
  clear hH hargs
  repeat' (first | ((refine Qa rfl ?_); (first | refine QJ rfl rfl ?_ | refine QP rfl rfl rfl rfl rfl rfl ?_); (refine QX rfl rfl ?_)) | (refine Qb rfl ?_; try (refine QS rfl rfl rfl rfl rfl rfl rfl ?_; (refine QX rfl rfl ?_))) | refine Qh ?_ | refine Ql ?_ | refine Qo rfl ?_ | refine Qs ?_)
  refine awp_ret ?_
  exact ⟨_, rfl, rfl⟩
def awP : PlN := ⟨1, 1, 0, 3, tgt⟩
theorem awP_ok : validB awP.pl = true := by kernel_rfl
def lz : List UInt8 := List.replicate ((80 : Int).toNat * 64) 0
theorem lz_lv : Lv 5120 (Dv.fresh lz) := lv_new 80 (by decide) (by decide)
theorem lz_jn : Jn (Dv.fresh lz) (fun _ => none) := jn_new 80 (by decide)
def aw1 : Dv := (Dv.fresh lz).app awP
theorem aw1_lv : Lv 5120 aw1 := lz_lv.app (by decide) (by decide)
theorem aw1_jn : Jn aw1 (fun j => if j = secN awP then some awP else none) := lz_jn.app lz_lv (by decide) (by decide)
theorem aw1_w : ∀ j q, (fun j => if j = secN awP then some awP else none) j = some q → validB q.pl = true := fun j q h => by
  simp only at h
  split at h
  · simp only [Option.some.injEq] at h; subst h; exact awP_ok
  · cases h
theorem aw_r1 : repl aw1 ((1 : Nat) : Int) = [awP.pl] := by
  refine repl_of (n := 1) (by decide) (fun _ => awP.pl) (fun i hi => ?_) (fun _ => ?_)
  · have : i = 0 := by omega
    subst this
    rw [rep_at aw1_jn aw1_lv (by decide) (by decide) (by decide) aw1_w]
    rfl
  · rw [rep_at aw1_jn aw1_lv (by decide) (by decide) (by decide) aw1_w]
    rfl
theorem aw_r2 : repl aw1 ((2 : Nat) : Int) = [] := by
  refine repl_of (n := 0) (by decide) (fun _ => awP.pl) (fun i hi => by omega) (fun _ => ?_)
  rw [rep_at aw1_jn aw1_lv (by decide) (by decide) (by decide) aw1_w]
  rfl
attribute [local irreducible] aw1 lz
set_option maxHeartbeats 0 in
set_option maxRecDepth 100000 in
theorem awake_c (X : Nat → Prop) : ACalls (E0 X) 18 [] [] (fun r H' => r = .bool true ∧ H' = []) := by
  have hnew : ACalls (E0 X) 19 [.int .i64 80] [] (fun r H' => r = .ptr 0 0 ∧ H' = devH (Dv.fresh lz)) := (new_c X 80).mono fun r H' h => by
    rcases h with ⟨_, _, h1, h2⟩ | ⟨h1, _⟩
    · refine ⟨h1, h2.trans ?_⟩
      unfold lz; rfl
    · exact absurd ⟨by decide, by decide⟩ h1
  have hap := append_c X (Dv.fresh lz) 5120 (by decide) (by decide) lz_lv awP awP_ok
  rw [show (Dv.fresh lz).app awP = aw1 by unfold aw1; rfl] at hap
  have h1 := replay_c X aw1 aw1_lv.inv ((1 : Nat) : Int) (by decide)
  rw [aw_r1] at h1
  have h2 := replay_c X aw1 aw1_lv.inv ((2 : Nat) : Int) (by decide)
  rw [aw_r2] at h2
  have hsec := fun X => sector_c X 2 0 (by decide)
  rw [show secI 2 0 = 38 from rfl] at hsec
  refine acalls_of Proofs.Tryd.func18 rfl Proofs.Tryd.ntmps18 (by kernel_rfl) rfl ?_
  intro hH hargs
  clear hH hargs
  repeat' (first | ((refine Qa rfl ?_); (refine Q1 ?_); (refine QX rfl rfl ?_)) | refine Qa rfl ?_ | refine Qh ?_ | refine Ql ?_ | refine Qo rfl ?_)
  refine st_call (fun _ => rfl) rfl ?_
  refine ACalls.mono (hnew) ?_
  rintro r H' ⟨rfl, rfl⟩
  first | refine nx rfl rfl ?_ | refine nx0 ?_
  repeat' (first | ((refine Qa rfl ?_); (first | refine Q0 ?_ | refine Q1 ?_); (refine QX rfl rfl ?_)) | refine Qa rfl ?_ | refine Qh ?_ | refine Ql ?_ | refine Qo rfl ?_)
  refine st_call (fun _ => rfl) rfl ?_
  refine ACalls.mono (acalls_pure (E := E0 X) (fun X => target_c X) (by simp [IdsLtL]) _) ?_
  rintro r H' ⟨rfl, rfl⟩
  first | refine nx rfl rfl ?_ | refine nx0 ?_
  repeat' (first | ((refine Qa rfl ?_); (refine QP rfl rfl rfl rfl rfl rfl ?_); (refine QX rfl rfl ?_)) | refine Qa rfl ?_)
  refine st_call (fun _ => rfl) rfl ?_
  refine ACalls.mono (hap) ?_
  rintro r H' ⟨rfl, rfl⟩
  first | refine nx rfl rfl ?_ | refine nx0 ?_
  repeat' (first | ((refine Qa rfl ?_); (first | refine Q0 ?_ | refine Q1 ?_); (refine QX rfl rfl ?_)) | refine Qa rfl ?_ | refine Qh ?_ | refine Ql ?_ | refine Qo rfl ?_)
  refine st_call (fun _ => rfl) rfl ?_
  refine ACalls.mono (h1) ?_
  rintro r H' ⟨rfl, rfl⟩
  first | refine nx rfl rfl ?_ | refine nx0 ?_
  repeat' (first | ((refine Qa rfl ?_); (refine Q1 ?_); (refine QX rfl rfl ?_)) | refine Qa rfl ?_ | refine Qh ?_ | refine Ql ?_ | refine Qo rfl ?_)
  refine st_call (fun _ => rfl) rfl ?_
  refine ACalls.mono (acalls_pure (E := E0 X) (fun X => hsec X) (by simp [IdsLtL, IdsLt]) _) ?_
  rintro r H' ⟨rfl, rfl⟩
  first | refine nx rfl rfl ?_ | refine nx0 ?_
  repeat' (first | ((refine Qa rfl ?_); (first | refine Q0 ?_ | refine Q2 rfl ?_ | refine Q5 rfl ?_ | refine Q7 rfl rfl rfl ?_); (refine QX rfl rfl ?_)) | refine Qa rfl ?_)
  refine st_ixm (show [awP.pl][0]? = some awP.pl from rfl) rfl rfl rfl rfl rfl rfl rfl (by first | rfl | omega) rfl ?_
  first | refine nx rfl rfl ?_ | refine nx0 ?_
  repeat' (first | ((refine Qa rfl ?_); (first | refine Q0 ?_ | refine Q2 rfl ?_ | refine Q3 rfl rfl rfl ?_ | refine Q4 rfl rfl rfl rfl rfl ?_ | refine Q5 rfl ?_); (refine QX rfl rfl ?_)) | refine Qa rfl ?_)
  refine st_call (fun _ => rfl) rfl ?_
  refine ACalls.mono (h2) ?_
  rintro r H' ⟨rfl, rfl⟩
  first | refine nx rfl rfl ?_ | refine nx0 ?_
  repeat' (first | ((refine Qa rfl ?_); (first | refine Q1 ?_ | refine Q2 rfl ?_ | refine Q5 rfl ?_ | refine Q7 rfl rfl rfl ?_); (refine QX rfl rfl ?_)) | refine Qh ?_ | refine Qs ?_)
  refine awp_pre (imp_cutk 0 (Nat.le_refl _) hok_nil rfl (by simp) (sl' := [(0, .bool true)]) ?_) ?_
  · repeat' (first | exact fa_nil | refine fa_cons ⟨?_, ?_⟩ ?_)
    all_goals (try first | exact rfl | exact trivial | (simp [IdsLt, IdsLtL]; done) | (simp [get_cons]; done) | (simp [get_cons, *]; done) | (refine congrArg (AV.int .i64) (wrap_eq ?_ ?_ ?_) <;> (first | omega | (simp; omega))))
  refine awp_ret ?_
  refine ⟨_, rfl, ?_, ?_⟩
  · rfl
  · rfl
end Go.Abs
namespace Go.Abs
open Go.RowKit Go.ChangeShapes Go.WideShapes
theorem own0 : ownKnob Proofs.Tryd.prog.godebug = none := by kernel_rfl
theorem gTab : Proofs.Tryd.prog.globalNamed "flashcache/crc.table" = some 0 := by kernel_rfl
theorem tTab : (Proofs.Tryd.prog.globals[0]?).map (·.type) = some 213 := by kernel_rfl
theorem u213 : Proofs.Tryd.prog.underlying 213 = some (.array 16 170) := by kernel_rfl
theorem u170 : Proofs.Tryd.prog.underlying 170 = some (.int .u32) := by kernel_rfl
theorem crc_of_laid {W : World} (h : laidMetH Proofs.Tryd.prog [("flashcache/crc.table", Proofs.YtlndakkehobnpaaDoor.Rows.laid_flashcache_crc_table)] W) : ∀ i, i < 16 → W.cell? ⟨0, i, none⟩ = some (.int .u32 (crcT i : Int)) := by
  rw [MakeChecks.laidMetH_plain _ _ _ (by kernel_rfl)] at h
  obtain ⟨ps, ⟨g0, t0, cs0, f0, p0, q0, hg0, ht0, hv0, hd0, _, _⟩, _, _⟩ := h
  obtain rfl := Option.some.inj (gTab.symm.trans hg0)
  obtain rfl := Option.some.inj (tTab.symm.trans ht0)
  obtain ⟨xs, m1, rfl, hx1, hlen, hn3, hel⟩ := DataW.trod_array u213 hd0
  have c170 : Proofs.Tryd.prog.cellsOf 170 = 1 := by kernel_rfl
  intro i hi
  have h0 := hel i hi
  rw [c170] at h0
  obtain ⟨x, hx⟩ : ∃ x, xs[i]? = some x := ⟨_, List.getElem?_eq_getElem (by omega)⟩
  rw [hx] at h0
  obtain ⟨k, e1, e2, _⟩ := DataW.trod_int u170 h0
  have hD : (Proofs.YtlndakkehobnpaaDoor.Rows.laid_flashcache_crc_table : DataW Unit) = .agg (crcTab.map fun (n : Nat) => DataW.lit (.int .u32 (n : Int))) := rfl
  rw [hD] at hx1
  simp only [Prod.mk.injEq, DataW.agg.injEq] at hx1
  have h3 := congrArg (fun l => l[i]?) hx1.1
  simp only [List.getElem?_map, hx, Option.map_some] at h3
  have h4 : crcTab.length = 16 := rfl
  obtain ⟨n, hn⟩ : ∃ n, crcTab[i]? = some n := ⟨_, List.getElem?_eq_getElem (by omega)⟩
  rw [hn] at h3
  have hk : (n : Int) = k := by
    rw [e2] at h3
    simpa using h3
  have hT : crcT i = n := by simp [crcT, hn]
  have hc := World.var?_cell gTab hv0 i
  rw [hc, hT, hk]
  have h5 : (cs0.toList.drop (i * 1)).take 1 = [.int .u32 k] := e1
  have h6 := congrArg (fun l => l[0]?) h5
  rw [Nat.mul_one] at h6
  simpa using h6
theorem relL_u32 {sz : Cx} {m : Mu} {w : World} : ∀ l : List Nat, RelL sz m w (l.map u32A) (l.map fun (b : Nat) => Value.int .u32 (b : Int))
  | [] => by simp [RelL]
  | b :: l => RelL.cons (by simp [Abs.Rel, u32A]) (relL_u32 l)
theorem glob_of_laid {W : World} (h : laidMetH Proofs.Tryd.prog [("flashcache/crc.table", Proofs.YtlndakkehobnpaaDoor.Rows.laid_flashcache_crc_table)] W) : Glob (E0 fun _ => False) [] W := fun g => by
  by_cases hg : g = 0
  · subst hg
    have hc := crc_of_laid h
    have e : (E0 fun _ => False).G 0 = .fp (crcTab.map u32A) := rfl
    rw [e]
    simp only [Env.Rel, Abs.Rel]
    refine ⟨_, crcTab.map fun (b : Nat) => Value.int .u32 (b : Int), rfl, relL_u32 _, fun _ => ⟨_, rfl, ?_, by simp, fun h => h, fun j u hu => ?_⟩⟩
    · have h0 := hc 0 (by decide)
      rcases Nat.lt_or_ge 0 W.heap.size with h1 | h1
      · exact h1
      · exfalso
        unfold World.cell? at h0
        rw [Array.getElem?_eq_none h1] at h0
        simp at h0
    · have hadd : (⟨0, 0, none⟩ : Addr).add j = ⟨0, j, none⟩ := by unfold Addr.add; split <;> simp_all
      rw [hadd]
      have h4 : crcTab.length = 16 := rfl
      have hj : j < 16 := by
        have := (List.getElem?_eq_some_iff.1 hu).1
        rw [List.length_map, h4] at this
        exact this
      rw [hc j hj, ← hu, List.getElem?_map, crcT, List.getElem?_eq_getElem (by omega)]
      rfl
  · have e : (E0 fun _ => False).G g = .any := by simp [E0, hg]
    rw [e]
    simp [Env.Rel, Abs.Rel]
theorem law_trueG {E : Env} {H : Type} {enc : TypeId × Value → H} {W : World} {f : FuncId} {fn : Func} {s : ChangeSpec} {apart fresh handsOn again : Bool} {args : Array Value} {avs : List AV} {ds gs : List (DataW H)} {before : List MemPlace} {tb : TypeId}
    (hok : E.Ok) (hG : Glob E [] W)
    (hl : laidOutB E.P = true) (hvars : s.vars = []) (hp : (fn.params.toList.all fun t => E.P.readableRec t && decide (t < E.P.types.size)) = true)
    (hrt : fn.resultTypes = #[tb]) (htb : E.P.underlying tb = some .bool)
    (hres : (s.fn H (ds ++ gs)).results = [.lit (.bool true)]) (hargs : (s.fn H (ds ++ gs)).args = ds) (hv0 : (s.fn H (ds ++ gs)).vars = [])
    (hW : DataW.Whole enc E.P fn.params.toList s.vars apart W args.toList ds gs before)
    (hX : ∀ b, ¬ E.X b) (hr : E.RelL [] W avs args.toList) (hc : ACalls E f avs [] (fun r H' => r = .bool true ∧ H' = [])) :
    Calls E.P f args W fun e W' => ∃ v, e = .returned v ∧ s.post enc E.P fn apart fresh handsOn again W args v W' := by
  have hsim : E.Sim [] W [] := ⟨rfl, fun _ _ h => by simp at h, fun _ h => by simp at h, fun _ _ _ h => by simp at h, fun b hb => absurd hb (hX b), fun b hb => absurd hb (by simp)⟩
  have h := hc.2 [] W args.toList hok hG hr hsim
  rw [Array.toArray_toList] at h
  refine h.mono ?_
  rintro e W' ⟨v, m', r, H', rfl, hext, hrel, _, rfl, _⟩
  simp only [Abs.Rel] at hrel
  subst hrel
  exact ⟨_, rfl, post_true hl hvars hp hrt htb hres hargs hv0 hW ⟨hext.os, hext.tape, hext.output, hext.size, fun k hk => hext.keep k hk (by simp)⟩⟩
theorem list_of {α : Type} {f : α → AV} : ∀ {es : List AV}, (∀ y ∈ es, ∃ a, y = f a) → ∃ l : List α, es = l.map f
  | [], _ => ⟨[], rfl⟩
  | y :: es, h => by
    obtain ⟨a, rfl⟩ := h y (by simp)
    obtain ⟨l, rfl⟩ := list_of fun z hz => h z (List.mem_cons_of_mem _ hz)
    exact ⟨a :: l, rfl⟩
theorem int_of {X : Nat → Prop} {x : AV} (h : hasC (E0 X) 1 3 [x]) : ∃ n, x = .int .i64 n ∧ -9223372036854775808 ≤ n ∧ n ≤ 9223372036854775807 := by
  have h1 : ∃ n, [x] = [.int .i64 n] ∧ IntKind.i64.min ≤ n ∧ n ≤ IntKind.i64.max := h
  obtain ⟨n, h2, h3, h4⟩ := h1
  simp only [List.cons.injEq, and_true] at h2
  exact ⟨n, h2, h3, h4⟩
/-- The door's own heap meets the condition. -/
theorem door_met (os : Os) (args : Array Value) : laidMetH Proofs.Tryd.prog [("flashcache/crc.table", Proofs.YtlndakkehobnpaaDoor.Rows.laid_flashcache_crc_table)] ((World.doorLaid Proofs.Tryd.prog 400 os).forCall (fun _ _ => 0) ⟨#[], args, []⟩).memory :=
  laidMetH_of_parts3 (fuel := 8) (laidMet_of_run' 8 (by kernel_rfl) (by kernel_rfl)) (by kernel_rfl) (by kernel_rfl)
end Go.Abs
