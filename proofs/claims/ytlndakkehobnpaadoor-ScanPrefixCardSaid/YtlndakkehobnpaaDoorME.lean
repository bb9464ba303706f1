/- superblock.ReadLayout, plan.Decode's closure: the walks. Joined texts, each with what its own name promises; no condition beyond those stated. -/
import Derived.Test.YtlndakkehobnpaaDoorMD
import Derived.Test.YtlndakkehobnpaaDoorRows
import Derived.Test.YtlndakkehobnpaaDoorTie
import Derived.Test.YtlndakkehobnpaaDoorCards
import Derived.ProofKit
import Derived.LaidMore
import Derived.OpenShut
import Derived.Stop.Joined
import Derived.SevenTiedAt
namespace Go.Abs
def rdrS (bs : List UInt8) (s lo : Nat) : Hp := [some (.arr (bs.map u8A) 5), some (rdrC bs s lo)]
theorem mapH_rdrG (g : Nat → Nat) (s t : Nat) (bs : List UInt8) (lo : Nat) (h : g s = t) : mapH g (rdrS bs s lo) = rdrS bs t lo := by
  simp [mapH, rdrS, rdrC, rnO, rnL, rnA, h, rnL_map (f := u8A) (fun _ => rfl)]
theorem some_rdr (bs : List UInt8) (lo : Nat) : ∀ j : Nat, (rdrH bs lo)[j]? ≠ some none := fun j => by
  match j with
  | 0 | 1 => simp [rdrH]
  | j + 2 => simp [rdrH]
def parL (bs : List UInt8) (lo : Nat) : La :=
  ⟨(numN ((bs.drop lo).take 4) : Nat), (numN ((bs.drop (lo + 4)).take 1) : Nat), if 0 < numN ((bs.drop lo).take 4) then ((2 ^ min (numN ((bs.drop (lo + 5)).take 1)) 30 : Nat) : Int) else 0, (numN ((bs.drop (lo + 6)).take 1) : Nat)⟩
theorem num_small {bs : List UInt8} {lo w : Nat} (hw : w ≤ 6) : numN ((bs.drop lo).take w) ≤ 281474976710655 := by
  have h1 := numN_lt ((bs.drop lo).take w)
  have h2 : ((bs.drop lo).take w).length ≤ 6 := by simp; omega
  have hp : 256 ^ ((bs.drop lo).take w).length ≤ 256 ^ 6 := Nat.pow_le_pow_right (by decide) h2
  have h7 : (256 : Nat) ^ 6 = 281474976710656 := by decide
  omega
theorem wrapI {n : Nat} (h : n ≤ 281474976710655) : IntKind.i64.wrap (n : Int) = n := wrap_in (by omega) (by omega)
attribute [local irreducible] AStep aops AWp Nx awM
end Go.Abs
namespace Go.Abs
attribute [local irreducible] AStep aops AWp Nx awM
theorem noFz_rdr (bs : List UInt8) (lo : Nat) : noFzH (rdrH bs lo) = true := by
  simp only [noFzH, rdrH, rdrC, List.all_cons, List.all_nil, noFzO, noFzL, noFz, Bool.and_true]
  exact noFz_map (fun _ => rfl) _
theorem newr_at (X : Nat → Prop) (bs : List UInt8) (hb : bs.length ≤ 1000) (H : Hp) (x : AV) (hx : srcA (E0 X) H 1 x = some (bs.map u8A)) :
    ACalls (E0 X) 108 [x] H (fun r H' => r = .ptr (1 + H.length) 0 ∧ H' = H ++ rdrS bs H.length 0) := by
  refine (acalls_make (E := E0 X) (P := fun v H' => v = .ptr 1 0 ∧ H' = rdrH bs 0) (fun X => newr_c X bs hb) (fun r h' h => by
    obtain ⟨h1, h2⟩ := h; subst h1; subst h2; exact ⟨rfl, noFz_rdr _ _⟩) (Bor.sl (u8_ids _) hx .nil)).mono ?_
  rintro r H' ⟨r0, h', ⟨rfl, rfl⟩, rfl, rfl⟩
  exact ⟨by simp [rnA], by rw [show rdrH bs 0 = rdrS bs 0 0 from rfl, mapH_rdrG _ 0 H.length bs 0 (by simp)]⟩
def parP (bs : List UInt8) : Pl := ⟨(numN ((bs.drop 0).take 1) : Nat), (numN ((bs.drop 1).take 4) : Nat), (numN ((bs.drop 5).take 1) : Nat), (numN ((bs.drop 6).take 6) : Nat), parL bs 12⟩
def zeroP : Pl := ⟨0, 0, 0, 0, ⟨0, 0, 0, 0⟩⟩
def optP (o : Option Pl) : AV := match o with
  | some p => .tup [plA p, .bool true]
  | none => .tup [plA zeroP, .bool false]
def encO (p : Pl) (sector : Nat) : Option (List UInt8) := if validB p = true then some (encP ⟨p.kind.toNat, p.mig.toNat, p.idx.toNat, p.tail.toNat, p.t⟩ sector) else none
def decP (b : List UInt8) (sector : Nat) : Option Pl := match decF 4 0 sector b with
  | none => none
  | some pay => if encO (parP pay) sector = some b then some (parP pay) else none
theorem decF_len {k s n : Nat} {b p : List UInt8} (h : decF k s n b = some p) : p.length = 59 ∧ b.length = 64 := by
  unfold decF at h
  split at h
  · rename_i h1
    simp only [Option.some.injEq] at h
    subst h
    simp; omega
  · cases h
def pdH (o0 : AO) (bs : List UInt8) (p : Pl) : Hp := [some o0, some (.arr (bs.map u8A) 5), some (rdrC bs 1 19), some (.cells [.int .i64 p.kind, .int .i64 p.mig, .int .i64 p.idx, .int .i64 p.tail, .int .i64 p.t.id, .int .i64 p.t.ver, .int .i64 p.t.rs, .int .i64 p.t.regs] 32)]
def zO : AO := .cells [.int .i64 0, .int .i64 0, .int .i64 0, .int .i64 0, .int .i64 0, .int .i64 0, .int .i64 0, .int .i64 0] 32
end Go.Abs
namespace Go.Abs
def devS (s : Nat) (v : Dv) : Hp := [some (.cells [.own (1 + s) 0 v.image.length, .mp (2 + s), .int .i64 v.writes, .int .i64 v.fuse, .bool v.dead] 118), some (.arr (v.image.map u8A) 5), some (.map (v.old.map oldA))]
theorem rnA_old {g : Nat → Nat} (p : Int × List UInt8) : rnA g (oldA p).2 = (oldA p).2 := by
  show AV.agg (rnL g (p.2.map u8A)) = _
  rw [rnL_map (fun _ => rfl)]; rfl
theorem rnMap_old {g : Nat → Nat} (l : List (Int × List UInt8)) : ((rnL g ((l.map oldA).map (·.1))).zip (rnL g ((l.map oldA).map (·.2)))) = l.map oldA := by
  induction l with
  | nil => rfl
  | cons p l ih =>
    simp only [List.map_cons, rnL, List.zip_cons_cons, ih]
    rw [rnA_old]
    rfl
theorem mapH_devQ (s q : Nat) (v : Dv) : mapH (sh s q 3) (devH v) = devS s v := by
  simp [mapH, devH, devS, rnO, rnL, rnA, sh, rnL_map (f := u8A) (fun _ => rfl)]
  have := rnMap_old (g := sh s q 3) v.old
  simpa using this
theorem mapH_dev (s : Nat) (v : Dv) : mapH (· + s) (devH v) = devS s v := by
  simp [mapH, devH, devS, rnO, rnL, rnA, rnL_map (f := u8A) (fun _ => rfl)]
  have := rnMap_old (g := (· + s)) v.old
  simpa using this
theorem noFz_dev (v : Dv) : noFzH (devH v) = true := by
  simp only [noFzH, devH, List.all_cons, List.all_nil, noFzO, noFzL, noFz, Bool.and_true, Bool.true_and, Bool.and_eq_true, List.map_map]
  exact ⟨noFz_map (fun _ => rfl) _, noFz_map (f := (fun p : AV × AV => p.1) ∘ oldA) (fun _ => rfl) _, noFz_map (f := (fun p : AV × AV => p.2) ∘ oldA) (fun p => (noFz_map (f := u8A) (fun _ => rfl) p.2 : noFzL (p.2.map u8A) = true)) _⟩
theorem some_dev (v : Dv) : ∀ j : Nat, (devH v)[j]? ≠ some none := fun j => by
  match j with
  | 0 => simp [devH]
  | 1 => simp [devH]
  | 2 => simp [devH]
  | j + 3 => simp [devH]
section
variable {X : Nat → Prop} {f : FuncId} {rest : List AV} {r0 : AV}
/-- A device's method, the device s places on. -/
theorem dev_at {v v' : Dv} (hc : ∀ X, ACalls (E0 X) f (.ptr 0 0 :: rest) (devH v) (fun r H' => r = r0 ∧ H' = devH v')) (hrest : IdsLtL 0 rest) (hr : IdsLt 0 r0) (L R : Hp) (s : Nat) (hs : L.length = s) :
    ACalls (E0 X) f (.ptr s 0 :: rest) (L ++ devS s v ++ R) (fun r H' => r = r0 ∧ H' = L ++ devS s v' ++ R) := by
  subst hs
  refine ACalls.conv (ACalls.frameLR (E := E0 X) hc L R (some_dev v) ⟨by simp [IdsLt, devH], ids_mono (Nat.zero_le _) hrest⟩ (hok_dev v)) ?_ (by rw [show (devH v).length = 3 from rfl, mapH_devQ]) ?_
  · show _ :: rnL _ rest = _
    rw [rnL_closed _ hrest]; simp [rnA, sh, devH]
  · rintro r H' ⟨r1, h', ⟨rfl, rfl⟩, -, rfl, rfl⟩
    refine ⟨rn_closed _ hr, ?_⟩
    show L ++ mapH (sh L.length R.length 3) (devH v') ++ R ++ [] = _
    rw [mapH_devQ, List.append_nil]
theorem dev_l {v v' : Dv} (hc : ∀ X, ACalls (E0 X) f (.ptr 0 0 :: rest) (devH v) (fun r H' => r = r0 ∧ H' = devH v')) (hrest : IdsLtL 0 rest) (hr : IdsLt 0 r0) (R : Hp) :
    ACalls (E0 X) f (.ptr 0 0 :: rest) (devH v ++ R) (fun r H' => r = r0 ∧ H' = devH v' ++ R) := dev_at hc hrest hr [] R 0 rfl
end
structure Dv.Inv (v : Dv) : Prop where
  load : LoadOk v.image.length
  nd : (v.old.map (·.1)).Nodup
  sz : ∀ p ∈ v.old, p.2.length = 64
  keys : ∀ p ∈ v.old, 0 ≤ p.1 ∧ p.1 * 64 + 64 ≤ v.image.length
  fuse : v.fuse ≤ 9223372036854775807
theorem Dv.Inv.ok {v : Dv} (h : v.Inv) : v.Ok := ⟨by have := h.load.2.2; omega, h.nd, h.sz, h.fuse⟩
theorem dev_gen {X : Nat → Prop} {f : FuncId} {rest : List AV} {v : Dv} {P : AV → Hp → Prop} (hc : ∀ X, ACalls (E0 X) f (.ptr 0 0 :: rest) (devH v) P) (hrest : IdsLtL 0 rest) (L R : Hp) (s : Nat) (hs : L.length = s) :
    ACalls (E0 X) f (.ptr s 0 :: rest) (L ++ devS s v ++ R) (fun r H' => ∃ r1 h', P r1 h' ∧ r = rnA (sh s R.length 3) r1 ∧ H' = L ++ mapH (sh s R.length 3) (h'.take 3) ++ R ++ mapH (sh s R.length 3) (h'.drop 3)) := by
  subst hs
  refine ACalls.conv (ACalls.frameLR (E := E0 X) hc L R (some_dev v) ⟨by simp [IdsLt, devH], ids_mono (Nat.zero_le _) hrest⟩ (hok_dev v)) ?_ (by rw [show (devH v).length = 3 from rfl, mapH_devQ]) ?_
  · show _ :: rnL _ rest = _
    rw [rnL_closed _ hrest]; simp [rnA, sh, devH]
  · rintro r H' ⟨r1, h', hp, -, rfl, rfl⟩
    exact ⟨r1, h', hp, rfl, rfl⟩
theorem inv_put {v : Dv} (h : v.Inv) {k : Nat} {b : List UInt8} (hk : k * 64 + 64 ≤ v.image.length) (hb : b.length ≤ 64) : (v.put k b).Inv := by
  have hl : (v.put k b).image.length = v.image.length := by simp [Dv.put]; omega
  by_cases hm : (k : Int) ∈ v.old.map (·.1)
  · have e : (v.put k b).old = v.old := by simp only [Dv.put, if_pos hm]
    exact ⟨by rw [hl]; exact h.load, by rw [e]; exact h.nd, by rw [e]; exact h.sz, by rw [e, hl]; exact h.keys, h.fuse⟩
  · have e : (v.put k b).old = v.old ++ [((k : Int), v.sector k)] := by simp only [Dv.put, if_neg hm]
    refine ⟨by rw [hl]; exact h.load, ?_, ?_, ?_, h.fuse⟩
    · rw [e, List.map_append, List.nodup_append]
      refine ⟨h.nd, by simp, fun a ha b hb e => ?_⟩
      simp at hb
      subst hb; subst e
      exact hm ha
    · rw [e]
      intro p hp
      rcases List.mem_append.1 hp with hp | hp
      · exact h.sz p hp
      · simp at hp; subst hp; simp [Dv.sector]; omega
    · rw [e, hl]
      intro p hp
      rcases List.mem_append.1 hp with hp | hp
      · exact h.keys p hp
      · simp at hp; subst hp; simp only; omega
theorem check_eq {v : Dv} (h : v.Inv) (i : Int) : v.check i = if v.dead = true then 1 else if i < 0 ∨ ((v.image.length / 64 : Nat) : Int) ≤ i then 2 else 0 := by
  unfold Dv.check Dv.n
  rw [len_div (by have := h.load.2.2; omega)]
theorem check_in {v : Dv} (h : v.Inv) {i : Int} (hc : v.check i = 0) : v.dead = false ∧ ∃ k : Nat, i = k ∧ k * 64 + 64 ≤ v.image.length := by
  refine ⟨?_, check_zero (by have := h.load.2.2; omega) hc⟩
  rw [check_eq h] at hc
  split at hc
  · omega
  · rename_i hd; simpa using hd
theorem inv_fresh {img : List UInt8} (h : LoadOk img.length) : (Dv.fresh img).Inv := ⟨h, by simp [Dv.fresh], by simp [Dv.fresh], by simp [Dv.fresh], by simp [Dv.fresh]⟩
theorem put_len {v : Dv} {k : Nat} {b : List UInt8} (hk : k * 64 + 64 ≤ v.image.length) (hb : b.length ≤ 64) : (v.put k b).image.length = v.image.length := by simp [Dv.put]; omega
theorem write_ok {v : Dv} (h : v.Inv) (hd : v.dead = false) (hf : v.fuse = -1) {k : Nat} {b : List UInt8} (hk : k * 64 + 64 ≤ v.image.length) (hb : b.length ≤ 64) : v.write (k : Int) b = (0, v.put k b) := by
  have hc : v.check (k : Int) = 0 := by
    rw [check_eq h, hd]
    simp only [Bool.false_eq_true, if_false]
    rw [if_neg (by omega)]
  have hbn : v.burn = v := by
    obtain ⟨a, b, c, d, e⟩ := v
    simp only at hd hf
    subst hd; subst hf
    simp [Dv.burn]
  unfold Dv.write
  rw [if_neg (by rw [hc]; simp), if_neg (by omega), hbn, if_neg (by rw [hd]; simp)]
  rfl
theorem barrier_ok {v : Dv} (hd : v.dead = false) (hf : v.fuse = -1) : v.barrier = (0, { v with old := [] }) := by
  have hbn : v.burn = v := by
    obtain ⟨a, b, c, d, e⟩ := v
    simp only at hd hf
    subst hd; subst hf
    simp [Dv.burn]
  unfold Dv.barrier
  rw [hbn]; simp [hd]
theorem read_at (X : Nat → Prop) (v : Dv) (i : Int) (hl : v.image.length ≤ 1073741824) (L R : Hp) (s : Nat) (hs : L.length = s) :
    ACalls (E0 X) 60 [.ptr s 0, .int .i64 i] (L ++ devS s v ++ R) (fun r H' => (v.check i ≠ 0 ∧ r = .tup [.nils, .int .i64 (v.check i)] ∧ H' = L ++ devS s v ++ R) ∨
      (v.check i = 0 ∧ r = .tup [.own (3 + s + R.length) 0 64, .int .i64 0] ∧ H' = L ++ devS s v ++ R ++ [some (.arr (((v.image.drop (i.toNat * 64)).take 64).map u8A) 5)])) := by
  refine (dev_gen (fun X => read_c X v i hl) ⟨trivial, trivial⟩ L R s hs).mono ?_
  rintro r H' ⟨r1, h', h, rfl, rfl⟩
  rcases h with ⟨h1, rfl, rfl⟩ | ⟨h1, rfl, rfl⟩
  · refine .inl ⟨h1, rfl, ?_⟩
    show L ++ mapH (sh s R.length 3) (devH v) ++ R ++ [] = _
    rw [mapH_devQ, List.append_nil]
  · refine .inr ⟨h1, by simp [rnA, rnL, sh], ?_⟩
    show L ++ mapH (sh s R.length 3) (devH v) ++ R ++ [some (.arr (rnL _ (List.map u8A _)) _)] = _
    rw [mapH_devQ, rnL_map (fun _ => rfl)]
/-- A device that lives, of L bytes, without a fuse. -/
structure Lv (L : Nat) (v : Dv) : Prop where
  inv : v.Inv
  dead : v.dead = false
  fuse : v.fuse = -1
  len : v.image.length = L
theorem Lv.write {L k : Nat} {v : Dv} (h : Lv L v) (hk : k * 64 + 64 ≤ L) {b : List UInt8} (hb : b.length ≤ 64) : v.write (k : Int) b = (0, v.put k b) := write_ok h.inv h.dead h.fuse (by rw [h.len]; exact hk) hb
theorem Lv.put {L k : Nat} {v : Dv} (h : Lv L v) (hk : k * 64 + 64 ≤ L) {b : List UInt8} (hb : b.length ≤ 64) : Lv L (v.put k b) :=
  ⟨inv_put h.inv (by rw [h.len]; exact hk) hb, h.dead, h.fuse, by rw [put_len (by rw [h.len]; exact hk) hb]; exact h.len⟩
theorem Lv.bar {L : Nat} {v : Dv} (h : Lv L v) : v.barrier = (0, { v with old := [] }) := barrier_ok h.dead h.fuse
theorem Lv.clean {L : Nat} {v : Dv} (h : Lv L v) : Lv L { v with old := [] } := ⟨⟨h.inv.load, by simp, by simp, by simp, h.inv.fuse⟩, h.dead, h.fuse, h.len⟩
theorem lv_new (n : Nat) (h : 1 ≤ n) (h2 : n ≤ 100) : Lv (n * 64) (Dv.fresh (List.replicate ((n : Int).toNat * 64) 0)) :=
  ⟨inv_fresh (by simp only [List.length_replicate, Int.toNat_natCast]; exact ⟨by omega, by omega, by omega⟩), rfl, rfl, by simp [Dv.fresh]⟩
end Go.Abs
namespace Go.Abs
/-- The sector of a record. -/
def secN (p : PlN) : Nat := 2 + (p.mig + 1) % 2 * 36 + p.idx
theorem secN_lt {p : PlN} (h : p.idx ≤ 35) : secN p < 74 := by unfold secN; omega
def Dv.app (v : Dv) (p : PlN) : Dv := { v.put (secN p) (encP p (secN p)) with old := [] }
theorem Lv.app {L : Nat} {v : Dv} (h : Lv L v) (hL : 4736 ≤ L) {p : PlN} (hi : p.idx ≤ 35) : Lv L (v.app p) := by
  have h1 := secN_lt hi
  exact (h.put (k := secN p) (by omega) (b := encP p (secN p)) (by rw [encP_len]; decide)).clean
attribute [local irreducible] AStep aops AWp Nx awM
end Go.Abs
namespace Go.Abs
def repStep (v : Dv) (mig : Int) (i : Nat) : Option Pl :=
  if v.check (secI mig i) ≠ 0 then none else match decP ((v.image.drop ((secI mig i).toNat * 64)).take 64) (secI mig i).toNat with
    | none => none
    | some p => if p.mig = mig ∧ p.idx = (i : Int) then some p else none
def replF (v : Dv) (mig : Int) : Nat → Nat → List Pl
  | _, 0 => []
  | i, n + 1 => match repStep v mig i with
    | none => []
    | some p => p :: replF v mig (i + 1) n
def repl (v : Dv) (mig : Int) : List Pl := replF v mig 0 36
theorem ACalls.frzD {E : Env} {f : FuncId} {args : List AV} {es : List AV} {e : TypeId} {v : Dv} (k : Nat) (h : ACalls E f args (devH v) (fun r H' => ∃ id n, r = .own id 0 n ∧ n = es.length ∧ 3 ≤ id ∧ H'[id]? = some (some (.arr es e)) ∧ H'.take 3 = devH v)) (he : Nat.blt e E.n = true) (hk : Nat.beq (E.ti e).sz k = true) (hes : IdsLtL 0 es) :
    ACalls E f args (devH v) (fun r H' => r = .sl k es ∧ H' = devH v) :=
  h.imp fun r H' ⟨id, n, h1, h2, h3, h4, h5⟩ => by
    subst h1; subst h2
    have hlt : id < H'.length := (List.getElem?_eq_some_iff.1 h4).1
    refine ⟨_, _, ⟨rfl, rfl⟩, ?_⟩
    refine (imp_freeze (id := id) (k := k) (es := es) (e := e) h4 he hk).trans ?_
    refine imp_cutk 3 (Nat.le_refl _) (hok_dev v) ?_ (by simp; omega) ?_
    · show (H'.set id none).take 3 = devH v
      rw [← h5]
      apply List.ext_getElem?
      intro j
      simp only [List.getElem?_take, List.getElem?_set]
      split
      · rw [if_neg (by omega)]
      · rfl
    refine fa_cons ⟨?_, ids_mono (Nat.zero_le _) hes⟩ fa_nil
    simp [get_cons, frz]
attribute [local irreducible] AStep aops AWp Nx awM
end Go.Abs
namespace Go.Abs
theorem byteAt_nat (n s : Nat) : (byteAt n s).toNat = n / 2 ^ s % 256 := by
  unfold byteAt
  rw [UInt8.toNat_ofNat']; omega
theorem putB4 (n : Nat) : putB n 4 4 = [byteAt n 24, byteAt n 16, byteAt n 8, byteAt n 0] := rfl
theorem num4 {n : Nat} (h : n ≤ 4294967295) : numN [byteAt n 24, byteAt n 16, byteAt n 8, byteAt n 0] = n := by
  simp only [numN, List.foldl_cons, List.foldl_nil, byteAt_nat]
  have e1 : (2 : Nat) ^ 24 = 16777216 := by decide
  have e2 : (2 : Nat) ^ 16 = 65536 := by decide
  have e3 : (2 : Nat) ^ 8 = 256 := by decide
  rw [e1, e2, e3]
  omega
theorem num6 {n : Nat} (h : n ≤ 281474976710655) : numN [byteAt n 40, byteAt n 32, byteAt n 24, byteAt n 16, byteAt n 8, byteAt n 0] = n := by
  simp only [numN, List.foldl_cons, List.foldl_nil, byteAt_nat]
  have e1 : (2 : Nat) ^ 24 = 16777216 := by decide
  have e2 : (2 : Nat) ^ 16 = 65536 := by decide
  have e3 : (2 : Nat) ^ 8 = 256 := by decide
  have e4 : (2 : Nat) ^ 32 = 4294967296 := by decide
  have e5 : (2 : Nat) ^ 40 = 1099511627776 := by decide
  rw [e1, e2, e3, e4, e5]
  omega
theorem num1 {n : Nat} (h : n ≤ 255) : numN [UInt8.ofNat (n % 256)] = n := by
  simp only [numN, List.foldl_cons, List.foldl_nil]
  rw [UInt8.toNat_ofNat']; omega
def payL (p : PlN) : List UInt8 := [UInt8.ofNat (p.kind % 256), byteAt p.mig 24, byteAt p.mig 16, byteAt p.mig 8, byteAt p.mig 0, UInt8.ofNat (p.idx % 256), byteAt p.tail 40, byteAt p.tail 32, byteAt p.tail 24, byteAt p.tail 16, byteAt p.tail 8, byteAt p.tail 0,
  byteAt p.t.id.toNat 24, byteAt p.t.id.toNat 16, byteAt p.t.id.toNat 8, byteAt p.t.id.toNat 0, UInt8.ofNat (p.t.ver.toNat % 256), UInt8.ofNat ((lenN p.t.rs.toNat - 1) % 256), UInt8.ofNat (p.t.regs.toNat % 256)]
theorem frB_pad {k : Nat} {p : List UInt8} (h : p.length ≤ 59) : frB k (p ++ List.replicate (59 - p.length) 0) = frB k p := by
  have : (p ++ List.replicate (59 - p.length) (0 : UInt8)).length = 59 := by simp; omega
  simp only [frB, this, Nat.sub_self, List.replicate_zero, List.append_nil]
theorem decF_encF {k s n : Nat} {p : List UInt8} (h : p.length ≤ 59) : decF k s n (encF k s n p) = some (p ++ List.replicate (59 - p.length) 0) := by
  have hp : ((encF k s n p).drop 1).take 59 = p ++ List.replicate (59 - p.length) 0 := by
    have e : encF k s n p = UInt8.ofNat (k % 256) :: ((p ++ List.replicate (59 - p.length) 0) ++ putB (frSum s n (frB k p)) 4 4) := rfl
    rw [e]
    simp only [List.drop_succ_cons, List.drop_zero]
    exact List.take_left' (by simp; omega)
  have he : encF k s n (p ++ List.replicate (59 - p.length) 0) = encF k s n p := by simp only [encF, frB_pad h]
  unfold decF
  rw [hp, he, if_pos ⟨encF_len h, rfl⟩]
/-- What lies in the journal's sectors. -/
def Jn (v : Dv) (w : Nat → Option PlN) : Prop := ∀ j, j < 74 → (v.image.drop (j * 64)).take 64 = match w j with
  | some q => encP q j
  | none => List.replicate 64 0
theorem sec_put {v : Dv} {k j : Nat} {b : List UInt8} (hk : k * 64 + 64 ≤ v.image.length) (hb : b.length = 64) (hj : j * 64 + 64 ≤ v.image.length) :
    ((v.put k b).image.drop (j * 64)).take 64 = if j = k then b else (v.image.drop (j * 64)).take 64 := by
  have e : (v.put k b).image = v.image.take (k * 64) ++ b ++ v.image.drop (k * 64 + 64) := by
    simp [Dv.put, hb]
  rw [e]
  apply List.ext_getElem?
  intro i
  rw [List.getElem?_take]
  by_cases hi : i < 64
  · rw [if_pos hi, List.getElem?_drop]
    by_cases hjk : j = k
    · subst hjk
      rw [if_pos rfl, List.append_assoc, List.getElem?_append_right (by simp; omega), List.getElem?_append_left (by simp; omega)]
      congr 1
      simp; omega
    · rw [if_neg hjk, List.getElem?_take, if_pos hi, List.getElem?_drop]
      rcases Nat.lt_or_ge j k with h1 | h1
      · rw [List.append_assoc, List.getElem?_append_left (by simp; omega), List.getElem?_take, if_pos (by omega)]
      · rw [List.getElem?_append_right (by simp; omega), List.getElem?_drop]
        congr 1
        simp; omega
  · rw [if_neg hi]
    split
    · rw [List.getElem?_eq_none (by omega)]
    · rw [List.getElem?_take, if_neg hi]
theorem Jn.app {v : Dv} {w : Nat → Option PlN} (h : Jn v w) {L : Nat} (hv : Lv L v) (hL : 4736 ≤ L) {p : PlN} (hi : p.idx ≤ 35) : Jn (v.app p) (fun j => if j = secN p then some p else w j) := fun j hj => by
  have h1 := secN_lt hi
  have h2 := sec_put (v := v) (k := secN p) (j := j) (b := encP p (secN p)) (by rw [hv.len]; omega) (encP_len _ _) (by rw [hv.len]; omega)
  show ((v.put (secN p) (encP p (secN p))).image.drop (j * 64)).take 64 = _
  rw [h2]
  by_cases hjk : j = secN p
  · subst hjk; simp
  · simp only [if_neg hjk]; exact h j hj
end Go.Abs
namespace Go.Abs
def tgt : La := ⟨2, 1, 4, 4⟩
attribute [local irreducible] AStep aops AWp Nx awM
def awP : PlN := ⟨1, 1, 0, 3, tgt⟩
def lz : List UInt8 := List.replicate ((80 : Int).toNat * 64) 0
def aw1 : Dv := (Dv.fresh lz).app awP
attribute [local irreducible] aw1 lz
end Go.Abs
namespace Go.Abs
open Go.RowKit Go.ChangeShapes Go.WideShapes
theorem own0 : ownKnob Proofs.Tryd.prog.godebug = none := by kernel_rfl
theorem gTab : Proofs.Tryd.prog.globalNamed "flashcache/crc.table" = some 0 := by kernel_rfl
theorem tTab : (Proofs.Tryd.prog.globals[0]?).map (·.type) = some 213 := by kernel_rfl
theorem u213 : Proofs.Tryd.prog.underlying 213 = some (.array 16 170) := by kernel_rfl
theorem u170 : Proofs.Tryd.prog.underlying 170 = some (.int .u32) := by kernel_rfl
theorem crc_of_laid {W : World} (h : laidMetH Proofs.Tryd.prog [("flashcache/crc.table", Proofs.YtlndakkehobnpaaDoor.Rows.laid_flashcache_crc_table)] W) : ∀ i, i < 16 → W.cell? ⟨0, i, none⟩ = some (.int .u32 (crcT i : Int)) := by
  rw [MakeChecks.laidMetH_plain _ _ _ (by kernel_rfl)] at h
  obtain ⟨ps, ⟨g0, t0, cs0, f0, p0, q0, hg0, ht0, hv0, hd0, _, _⟩, _, _⟩ := h
  obtain rfl := Option.some.inj (gTab.symm.trans hg0)
  obtain rfl := Option.some.inj (tTab.symm.trans ht0)
  obtain ⟨xs, m1, rfl, hx1, hlen, hn3, hel⟩ := DataW.trod_array u213 hd0
  have c170 : Proofs.Tryd.prog.cellsOf 170 = 1 := by kernel_rfl
  intro i hi
  have h0 := hel i hi
  rw [c170] at h0
  obtain ⟨x, hx⟩ : ∃ x, xs[i]? = some x := ⟨_, List.getElem?_eq_getElem (by omega)⟩
  rw [hx] at h0
  obtain ⟨k, e1, e2, _⟩ := DataW.trod_int u170 h0
  have hD : (Proofs.YtlndakkehobnpaaDoor.Rows.laid_flashcache_crc_table : DataW Unit) = .agg (crcTab.map fun (n : Nat) => DataW.lit (.int .u32 (n : Int))) := rfl
  rw [hD] at hx1
  simp only [Prod.mk.injEq, DataW.agg.injEq] at hx1
  have h3 := congrArg (fun l => l[i]?) hx1.1
  simp only [List.getElem?_map, hx, Option.map_some] at h3
  have h4 : crcTab.length = 16 := rfl
  obtain ⟨n, hn⟩ : ∃ n, crcTab[i]? = some n := ⟨_, List.getElem?_eq_getElem (by omega)⟩
  rw [hn] at h3
  have hk : (n : Int) = k := by
    rw [e2] at h3
    simpa using h3
  have hT : crcT i = n := by simp [crcT, hn]
  have hc := World.var?_cell gTab hv0 i
  rw [hc, hT, hk]
  have h5 : (cs0.toList.drop (i * 1)).take 1 = [.int .u32 k] := e1
  have h6 := congrArg (fun l => l[0]?) h5
  rw [Nat.mul_one] at h6
  simpa using h6
theorem relL_u32 {sz : Cx} {m : Mu} {w : World} : ∀ l : List Nat, RelL sz m w (l.map u32A) (l.map fun (b : Nat) => Value.int .u32 (b : Int))
  | [] => by simp [RelL]
  | b :: l => RelL.cons (by simp [Abs.Rel, u32A]) (relL_u32 l)
theorem glob_of_laid {W : World} (h : laidMetH Proofs.Tryd.prog [("flashcache/crc.table", Proofs.YtlndakkehobnpaaDoor.Rows.laid_flashcache_crc_table)] W) : Glob (E0 fun _ => False) [] W := fun g => by
  by_cases hg : g = 0
  · subst hg
    have hc := crc_of_laid h
    have e : (E0 fun _ => False).G 0 = .fp (crcTab.map u32A) := rfl
    rw [e]
    simp only [Env.Rel, Abs.Rel]
    refine ⟨_, crcTab.map fun (b : Nat) => Value.int .u32 (b : Int), rfl, relL_u32 _, fun _ => ⟨_, rfl, ?_, by simp, fun h => h, fun j u hu => ?_⟩⟩
    · have h0 := hc 0 (by decide)
      rcases Nat.lt_or_ge 0 W.heap.size with h1 | h1
      · exact h1
      · exfalso
        unfold World.cell? at h0
        rw [Array.getElem?_eq_none h1] at h0
        simp at h0
    · have hadd : (⟨0, 0, none⟩ : Addr).add j = ⟨0, j, none⟩ := by unfold Addr.add; split <;> simp_all
      rw [hadd]
      have h4 : crcTab.length = 16 := rfl
      have hj : j < 16 := by
        have := (List.getElem?_eq_some_iff.1 hu).1
        rw [List.length_map, h4] at this
        exact this
      rw [hc j hj, ← hu, List.getElem?_map, crcT, List.getElem?_eq_getElem (by omega)]
      rfl
  · have e : (E0 fun _ => False).G g = .any := by simp [E0, hg]
    rw [e]
    simp [Env.Rel, Abs.Rel]
theorem law_trueG {E : Env} {H : Type} {enc : TypeId × Value → H} {W : World} {f : FuncId} {fn : Func} {s : ChangeSpec} {apart fresh handsOn again : Bool} {args : Array Value} {avs : List AV} {ds gs : List (DataW H)} {before : List MemPlace} {tb : TypeId}
    (hok : E.Ok) (hG : Glob E [] W)
    (hl : laidOutB E.P = true) (hvars : s.vars = []) (hp : (fn.params.toList.all fun t => E.P.readableRec t && decide (t < E.P.types.size)) = true)
    (hrt : fn.resultTypes = #[tb]) (htb : E.P.underlying tb = some .bool)
    (hres : (s.fn H (ds ++ gs)).results = [.lit (.bool true)]) (hargs : (s.fn H (ds ++ gs)).args = ds) (hv0 : (s.fn H (ds ++ gs)).vars = [])
    (hW : DataW.Whole enc E.P fn.params.toList s.vars apart W args.toList ds gs before)
    (hX : ∀ b, ¬ E.X b) (hr : E.RelL [] W avs args.toList) (hc : ACalls E f avs [] (fun r H' => r = .bool true ∧ H' = [])) :
    Calls E.P f args W fun e W' => ∃ v, e = .returned v ∧ s.post enc E.P fn apart fresh handsOn again W args v W' := by
  have hsim : E.Sim [] W [] := ⟨rfl, fun _ _ h => by simp at h, fun _ h => by simp at h, fun _ _ _ h => by simp at h, fun b hb => absurd hb (hX b), fun b hb => absurd hb (by simp)⟩
  have h := hc.2 [] W args.toList hok hG hr hsim
  rw [Array.toArray_toList] at h
  refine h.mono ?_
  rintro e W' ⟨v, m', r, H', rfl, hext, hrel, _, rfl, _⟩
  simp only [Abs.Rel] at hrel
  subst hrel
  exact ⟨_, rfl, post_true hl hvars hp hrt htb hres hargs hv0 hW ⟨hext.os, hext.tape, hext.output, hext.size, fun k hk => hext.keep k hk (by simp)⟩⟩
theorem list_of {α : Type} {f : α → AV} : ∀ {es : List AV}, (∀ y ∈ es, ∃ a, y = f a) → ∃ l : List α, es = l.map f
  | [], _ => ⟨[], rfl⟩
  | y :: es, h => by
    obtain ⟨a, rfl⟩ := h y (by simp)
    obtain ⟨l, rfl⟩ := list_of fun z hz => h z (List.mem_cons_of_mem _ hz)
    exact ⟨a :: l, rfl⟩
/-- The door's own heap meets the condition. -/
theorem door_met (os : Os) (args : Array Value) : laidMetH Proofs.Tryd.prog [("flashcache/crc.table", Proofs.YtlndakkehobnpaaDoor.Rows.laid_flashcache_crc_table)] ((World.doorLaid Proofs.Tryd.prog 400 os).forCall (fun _ _ => 0) ⟨#[], args, []⟩).memory :=
  laidMetH_of_parts3 (fuel := 8) (laidMet_of_run' 8 (by kernel_rfl) (by kernel_rfl)) (by kernel_rfl) (by kernel_rfl)
end Go.Abs

