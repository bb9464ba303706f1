/- Freezing an array also where cells of objects name it. Joined texts, each with what its own name promises; no condition beyond those stated. -/
import Derived.Test.YtlndakkehobnpaaDoorMC
import Derived.Lib.AppendZerosOnto
import Derived.Test.YtlndakkehobnpaaDoorMJ
namespace Go.Abs
def frzO (id k : Nat) (es : List AV) : AO → AO
  | .cells cs e => .cells (cs.map (frz id k es)) e
  | o => o
section
variable {E : Env} {m : Mu} {w : World} {H : Hp} {id k : Nat} {es : List AV} {e : TypeId}
end
section
variable {E : Env} {N n0 : Nat} {s : St}
end
end Go.Abs
namespace Go.Abs
section
variable {E : Env} {ρ : Operand → AV} {H : Hp} {K : AV → Hp → Prop} {d : Option Nat} {ty : TypeId} {pos : String} {after : Array Edge} {g : Option (Nat × Bool)}
end
end Go.Abs
namespace Go.Abs
theorem relL_set {sz : Cx} {m : Mu} {w : World} {a b : AV} (hab : ∀ u, Rel sz m w a u → Rel sz m w b u) : ∀ (cs : List AV) (us : List Value) (j : Nat), RelL sz m w cs us → cs[j]? = some a → RelL sz m w (cs.set j b) us
  | [], _, _, _, hj => by simp at hj
  | c :: cs, us, 0, h, hj => by
    obtain ⟨u, r, rfl, h1, h2⟩ := relL_cons.1 h
    simp at hj
    subst hj
    exact RelL.cons (hab u h1) h2
  | c :: cs, us, j + 1, h, hj => by
    obtain ⟨u, r, rfl, h1, h2⟩ := relL_cons.1 h
    exact RelL.cons h1 (relL_set hab cs r j h2 (by simpa using hj))
section
variable {E : Env} {N n0 : Nat} {s : St}
theorem imp_nilC (id j : Nat) (e : TypeId) {cs : List AV} {t : TypeId} (ho : s.hp[id]? = some (some (.cells cs t))) (hj : cs[j]? = some .nils) :
    Imp E N n0 s ⟨s.sl, s.hp.set id (some (.cells (cs.set j (.own s.hp.length 0 0)) t)) ++ [some (.arr [] e)]⟩ := by
  intro m0 w0 hn m w a hext hs
  have hml := hs.sim.len
  have hid : id < s.hp.length := (List.getElem?_eq_some_iff.1 ho).1
  have hget : ∀ (i : Nat) (x : MS), (m ++ [.nil])[i]? = some x → m[i]? = some x ∨ (i = m.length ∧ x = .nil) := fun i x h => by
    rcases Nat.lt_or_ge i m.length with hl | hg
    · rw [List.getElem?_append_left hl] at h; exact .inl h
    · rw [List.getElem?_append_right hg] at h
      have h0 : i - m.length = 0 := by
        rcases Nat.eq_zero_or_pos (i - m.length) with h0 | h0
        · exact h0
        · rw [List.getElem?_eq_none (by simp; omega)] at h; cases h
      rw [h0] at h
      simp at h
      exact .inr ⟨by omega, h.symm⟩
  have hsub : ∀ b, MS.blk b ∈ m ++ [.nil] → MS.blk b ∈ m := fun b hb => by simpa using hb
  have he : Ext m w (m ++ [.nil]) w := ⟨rfl, rfl, rfl, Nat.le_refl _, fun _ _ _ => rfl, fun b _ h => hsub b h, by simp, fun i x hi hx h => by rwa [List.getElem?_append_left hi] at h, fun _ _ h => h⟩
  have hnil : ∀ u, Abs.Rel E.cx (m ++ [.nil]) w .nils u → Abs.Rel E.cx (m ++ [.nil]) w (.own s.hp.length 0 0) u := fun u h1 => by
    simp only [Abs.Rel] at h1 ⊢
    have hlast : (m ++ [MS.nil])[s.hp.length]? = some .nil := by rw [← hml]; simp
    refine ⟨none, 0, h1, Nat.le_refl _, Nat.zero_le _, by simp [hml], fun _ => ⟨rfl, rfl⟩, fun b hb => ?_⟩
    rw [hlast] at hb; cases hb
  refine ⟨m ++ [.nil], hext.trans he, hs.ok, fun j => (hs.slots j).ext he, hs.size, hs.defers, ?_, fun g => (hs.glob g).ext he⟩
  refine ⟨by simp [hml], fun i o ho2 => ?_, fun i ho2 => ?_, fun i j b hi hj => ?_, hs.sim.xlt, fun b hb => hs.sim.disj b (hsub b hb)⟩
  · rcases Nat.lt_or_ge i s.hp.length with hl | hg
    · rw [List.getElem?_append_left (by simpa using hl)] at ho2
      by_cases h : id = i
      · subst h
        rw [List.getElem?_set_self hid] at ho2
        cases ho2
        obtain ⟨x, h1, h2⟩ := hs.sim.live id _ ho
        refine ⟨x, by rw [List.getElem?_append_left (hml ▸ hl)]; exact h1, ?_⟩
        cases x with
        | dead => exact h2.elim
        | nil => exact h2.elim
        | blk b =>
          obtain ⟨us, h3, h4⟩ := (h2.ext he fun _ _ => rfl : OB E.cx (m ++ [.nil]) w (.cells cs t) (.blk b))
          exact ⟨us, h3, relL_set hnil cs us.toList j h4 hj⟩
      · rw [List.getElem?_set_ne h] at ho2
        obtain ⟨x, h1, h2⟩ := hs.sim.live i o ho2
        exact ⟨x, by rw [List.getElem?_append_left (hml ▸ hl)]; exact h1, h2.ext he fun _ _ => rfl⟩
    · rw [List.getElem?_append_right (by simpa using hg)] at ho2
      simp only [List.length_set] at ho2
      have h0 : i - s.hp.length = 0 := by
        rcases Nat.eq_zero_or_pos (i - s.hp.length) with h0 | h0
        · exact h0
        · rw [List.getElem?_eq_none (by simp; omega)] at ho2; cases ho2
      rw [h0] at ho2
      simp at ho2
      subst ho2
      refine ⟨.nil, ?_, rfl⟩
      rw [List.getElem?_append_right (by omega), hml, h0]; rfl
  · rcases Nat.lt_or_ge i s.hp.length with hl | hg
    · rw [List.getElem?_append_left (by simpa using hl)] at ho2
      rw [List.getElem?_append_left (hml ▸ hl)]
      by_cases h : id = i
      · subst h; rw [List.getElem?_set_self hid] at ho2; cases ho2
      · rw [List.getElem?_set_ne h] at ho2
        exact hs.sim.dead i ho2
    · rw [List.getElem?_append_right (by simpa using hg)] at ho2
      simp only [List.length_set] at ho2
      have h0 : i - s.hp.length = 0 := by
        rcases Nat.eq_zero_or_pos (i - s.hp.length) with h0 | h0
        · exact h0
        · rw [List.getElem?_eq_none (by simp; omega)] at ho2; cases ho2
      rw [h0] at ho2
      simp at ho2
  · rcases hget i _ hi with h1 | ⟨_, h1⟩ <;> rcases hget j _ hj with h2 | ⟨_, h2⟩ <;> first | exact hs.sim.inj i j b h1 h2 | cases h1 | cases h2
end
end Go.Abs
namespace Go.Abs
/-- The names that pre keeps, then those in ids, in that order; all else is dropped. -/
def gcG (pre : Hp) (ids : List Nat) (i : Nat) : Option Nat := match pre[i]? with
  | some (some _) => some i
  | _ => (ids.idxOf? i).map (· + pre.length)
def keepM (pre : Hp) (m : Mu) (i : Nat) : MS := match pre[i]? with
  | some (some _) => (m[i]?).getD .dead
  | _ => .dead
section
variable {E : Env} {N n0 : Nat} {s : St}
theorem imp_gcG (pre : Hp) (ids : List Nat) (sl' : List (Nat × AV)) (os : List AO) (hk : n0 ≤ pre.length) (hkl : pre.length ≤ s.hp.length) (hnd : ids.Nodup) (hge : ∀ i ∈ ids, pre.length ≤ i ∨ pre[i]? = some none)
    (hpre : ∀ (j : Nat) (o' : AO), pre[j]? = some (some o') → ∃ o, s.hp[j]? = some (some o) ∧ RenO (gcG pre ids) o o')
    (hsl : ∀ p ∈ sl', Ren (gcG pre ids) (get s.sl p.1) p.2) (hlen : os.length = ids.length)
    (hos : ∀ (j i : Nat) (o' : AO), ids[j]? = some i → os[j]? = some o' → ∃ o, s.hp[i]? = some (some o) ∧ RenO (gcG pre ids) o o') : Imp E N n0 s ⟨sl', pre ++ os.map some⟩ := by
  intro m0 w0 hn m w a hext hs
  have hml := hs.sim.len
  generalize hkk : pre.length = k at *
  have hdef : ∀ i ∈ ids, i < m.length := fun i hi => by
    obtain ⟨j, hj, he⟩ := List.getElem_of_mem hi
    have h1 : ids[j]? = some i := by rw [List.getElem?_eq_getElem hj, he]
    obtain ⟨o, ho, _⟩ := hos j i os[j] h1 (List.getElem?_eq_getElem (by omega))
    rw [hml]; exact (List.getElem?_eq_some_iff.1 ho).1
  generalize hM : ((List.range k).map (keepM pre m) ++ ids.map fun i => (m[i]?).getD .dead : Mu) = m2
  have hkm : ((List.range k).map (keepM pre m)).length = k := by simp
  have hl2 : m2.length = k + ids.length := by rw [← hM]; simp
  have hlo : ∀ j, j < k → m2[j]? = some (keepM pre m j) := fun j hj => by
    rw [← hM, List.getElem?_append_left (by omega)]
    simp [hj]
  have hhi : ∀ j i, ids[j]? = some i → m2[k + j]? = m[i]? := fun j i hi => by
    rw [← hM, List.getElem?_append_right (by omega), hkm, Nat.add_sub_cancel_left, List.getElem?_map, hi]
    have hlt := hdef i (List.mem_of_getElem? hi)
    simp [List.getElem?_eq_getElem hlt]
  -- where a state comes from
  have hm2 : ∀ (j : Nat) (x : MS), m2[j]? = some x → x ≠ .dead → (∃ o, pre[j]? = some (some o) ∧ j < k ∧ m[j]? = some x) ∨ (k ≤ j ∧ ∃ i, ids[j - k]? = some i ∧ m[i]? = some x) := fun j x h hx => by
    rcases Nat.lt_or_ge j k with hj | hj
    · rw [hlo j hj] at h
      unfold keepM at h
      split at h
      · rename_i o ho
        have hjm : j < m.length := by omega
        rw [List.getElem?_eq_getElem hjm] at h
        simp only [Option.getD_some] at h
        exact .inl ⟨o, ho, hj, by rw [List.getElem?_eq_getElem hjm]; exact h⟩
      · cases h; exact absurd rfl hx
    · have hji : j - k < ids.length := by have := (List.getElem?_eq_some_iff.1 h).1; omega
      have h1 : ids[j - k]? = some ids[j - k] := List.getElem?_eq_getElem hji
      have h2 := hhi (j - k) _ h1
      rw [Nat.add_sub_cancel' hj, h] at h2
      exact .inr ⟨hj, _, h1, h2.symm⟩
  have hidx : ∀ i j, gcG pre ids i = some j → ((∃ o, pre[i]? = some (some o)) ∧ j = i ∧ i < k) ∨ (k ≤ j ∧ ids[j - k]? = some i) := fun i j h => by
    unfold gcG at h
    split at h
    · rename_i o ho
      cases h
      exact .inl ⟨⟨o, ho⟩, rfl, by rw [← hkk]; exact (List.getElem?_eq_some_iff.1 ho).1⟩
    · rw [hkk] at h
      simp only [Option.map_eq_some_iff] at h
      obtain ⟨q, hq, rfl⟩ := h
      refine .inr ⟨by omega, ?_⟩
      rw [Nat.add_sub_cancel]
      exact idxOf_get hq
  have hsub : ∀ b, MS.blk b ∈ m2 → MS.blk b ∈ m := fun b hb => by
    obtain ⟨j, hj, he⟩ := List.getElem_of_mem hb
    rcases hm2 j _ (by rw [List.getElem?_eq_getElem hj, he]) (by simp) with ⟨_, _, _, h⟩ | ⟨_, i, _, h⟩ <;> exact List.mem_of_getElem? h
  have hc : Cmp (gcG pre ids) E.cx E.cx m m2 := ⟨rfl, fun i j hij hi => by
    rcases hidx i j hij with ⟨⟨o, h0⟩, rfl, h1⟩ | ⟨h1, h2⟩
    · refine ⟨by omega, fun x hx h => ?_⟩
      rcases hm2 j x h hx with ⟨_, _, _, h⟩ | ⟨h, _⟩
      · exact h
      · omega
    · refine ⟨by rw [hl2]; have := (List.getElem?_eq_some_iff.1 h2).1; omega, fun x hx h => ?_⟩
      rcases hm2 j x h hx with ⟨_, _, h, _⟩ | ⟨_, i', h3, h4⟩
      · omega
      · rw [h2] at h3; cases h3; exact h4, fun b h => h.imp (hsub b) (fun h => h)⟩
  refine ⟨m2, ⟨hext.os, hext.tape, hext.output, hext.size, hext.keep, fun b hb h => hext.fresh b hb (hsub b h), by rw [hl2]; omega, fun i x hi hx h => ?_, hext.shape⟩, ?_⟩
  · refine hext.ids i x hi hx ?_
    rcases hm2 i x h hx with ⟨_, _, _, h⟩ | ⟨h, _⟩
    · exact h
    · omega
  · refine ⟨hs.ok, fun j => ?_, hs.size, hs.defers, ?_, fun g => ?_⟩
    · have key : ∀ l : List (Nat × AV), (∀ p ∈ l, Ren (gcG pre ids) (get s.sl p.1) p.2) → get l j = .any ∨ Ren (gcG pre ids) (get s.sl j) (get l j) := by
        intro l
        induction l with
        | nil => intro _; exact .inl rfl
        | cons p r ih =>
          intro h
          obtain ⟨q, v⟩ := p
          rw [get_cons]
          split
          · rename_i hq; subst hq; exact .inr (h (q, v) (by simp))
          · exact ih fun p hp => h p (by simp [hp])
      show Abs.Rel E.cx _ w (get sl' j) _
      rcases key sl' hsl with h | h
      · rw [h]; simp [Abs.Rel]
      · exact h _ _ _ _ _ hc (hs.slots j)
    · have hH : ∀ (j : Nat) (o : Option AO), (pre ++ os.map some)[j]? = some o → (j < k ∧ pre[j]? = some o) ∨ (k ≤ j ∧ ∃ o', os[j - k]? = some o' ∧ o = some o') := fun j o h => by
        rcases Nat.lt_or_ge j k with hj | hj
        · rw [List.getElem?_append_left (by omega)] at h
          exact .inl ⟨hj, h⟩
        · rw [List.getElem?_append_right (by omega), hkk, List.getElem?_map] at h
          cases ho : os[j - k]? with
          | none => rw [ho] at h; cases h
          | some o' => rw [ho] at h; simp at h; exact .inr ⟨hj, o', rfl, h.symm⟩
      refine ⟨by rw [hl2]; simp; omega, fun j o ho => ?_, fun j ho => ?_, fun i j b hi hj => ?_, hs.sim.xlt, fun b hb => hs.sim.disj b (hsub b hb)⟩
      · rcases hH j _ ho with ⟨h1, h2⟩ | ⟨h1, o', h2, h3⟩
        · obtain ⟨o0, h3, h4⟩ := hpre j o h2
          obtain ⟨x, h5, h6⟩ := hs.sim.live j o0 h3
          refine ⟨x, ?_, h4 _ _ _ _ _ hc h6⟩
          rw [hlo j h1]
          unfold keepM
          rw [h2]
          simp [h5]
        · cases h3
          have hjl : j - k < ids.length := by rw [← hlen]; exact (List.getElem?_eq_some_iff.1 h2).1
          obtain ⟨o2, h4, h5⟩ := hos (j - k) ids[j - k] o (List.getElem?_eq_getElem hjl) h2
          obtain ⟨x, h6, h7⟩ := hs.sim.live _ _ h4
          refine ⟨x, ?_, h5 _ _ _ _ _ hc h7⟩
          have := hhi (j - k) _ (List.getElem?_eq_getElem hjl)
          rw [Nat.add_sub_cancel' h1] at this
          rw [this, h6]
      · rcases hH j _ ho with ⟨h1, h2⟩ | ⟨h1, o', h2, h3⟩
        · rw [hlo j h1]
          unfold keepM
          rw [h2]
        · cases h3
      · have hno : ∀ (i j : Nat) (o : AO), pre[i]? = some (some o) → i < k → ids[j]? = some i → False := fun i j o h1 h2 h3 => by
          rcases hge i (List.mem_of_getElem? h3) with h | h
          · omega
          · rw [h1] at h; cases h
        rcases hm2 i _ hi (by simp) with ⟨o1, h1, h1k, h2⟩ | ⟨h1, i', h2, h3⟩ <;> rcases hm2 j _ hj (by simp) with ⟨o4, h4, h4k, h5⟩ | ⟨h4, j', h5, h6⟩
        · exact hs.sim.inj i j b h2 h5
        · have := hs.sim.inj i j' b h2 h6; subst this; exact (hno i _ o1 h1 h1k h5).elim
        · have := hs.sim.inj i' j b h3 h5; subst this; exact (hno i' _ o4 h4 h4k h2).elim
        · have h7 := hs.sim.inj i' j' b h3 h6
          subst h7
          obtain ⟨p1, p2⟩ := List.getElem?_eq_some_iff.1 h2
          obtain ⟨p3, p4⟩ := List.getElem?_eq_some_iff.1 h5
          have hpw := List.pairwise_iff_getElem.1 hnd
          rcases Nat.lt_trichotomy (i - k) (j - k) with h | h | h
          · exact absurd (p2.trans p4.symm) (hpw _ _ p1 p3 h)
          · omega
          · exact absurd (p4.trans p2.symm) (hpw _ _ p3 p1 h)
    · exact Rel.cmp hc (n := 0) (fun _ h => absurd h (Nat.not_lt_zero _)) _ (hs.ok.2.2 g) (hs.glob g)
end
theorem ren_cl {f : Nat → Option Nat} {v v' : AV} (e : v = v') (h : IdsLt 0 v') : Ren f v v' := by
  subst e; exact ren_old 0 (fun i h => absurd h (Nat.not_lt_zero i)) h
/-- The objects of the prefix say what the old ones said. -/
def PreOk (hp : Hp) (f : Nat → Option Nat) : Nat → Hp → Prop
  | _, [] => True
  | j, none :: r => PreOk hp f (j + 1) r
  | j, some o' :: r => (∃ o, hp[j]? = some (some o) ∧ RenO f o o') ∧ PreOk hp f (j + 1) r
theorem preOk_get {hp : Hp} {f : Nat → Option Nat} : ∀ (pre : Hp) (j0 : Nat), PreOk hp f j0 pre → ∀ (j : Nat) (o' : AO), pre[j]? = some (some o') → ∃ o, hp[j0 + j]? = some (some o) ∧ RenO f o o'
  | [], _, _, j, _, h => by simp at h
  | none :: r, j0, hp, 0, _, h => by simp at h
  | none :: r, j0, hp, j + 1, o', h => by
    have := preOk_get r (j0 + 1) hp j o' (by simpa using h)
    rw [show j0 + (j + 1) = j0 + 1 + j by omega]; exact this
  | some a :: r, j0, hp, 0, o', h => by
    simp at h; subst h
    exact hp.1
  | some a :: r, j0, hp, j + 1, o', h => by
    have := preOk_get r (j0 + 1) hp.2 j o' (by simpa using h)
    rw [show j0 + (j + 1) = j0 + 1 + j by omega]; exact this
theorem imp_tg {E : Env} {N n0 : Nat} {sl sl' : List (Nat × AV)} {hp H' : Hp} (pre : Hp) (ids : List Nat) (os : List AO) (hk : n0 ≤ pre.length) (hkl : pre.length ≤ hp.length) (hnd : ids.Nodup) (hge : ∀ i ∈ ids, pre.length ≤ i ∨ pre[i]? = some none)
    (hlen : os.length = ids.length) (hH : pre ++ os.map some = H') (hpre : PreOk hp (gcG pre ids) 0 pre) (hsl : ∀ p ∈ sl', Ren (gcG pre ids) (get sl p.1) p.2) (hos : OsOk hp (gcG pre ids) ids os) : Imp E N n0 ⟨sl, hp⟩ ⟨sl', H'⟩ :=
  hH ▸ imp_gcG (E := E) (N := N) (n0 := n0) (s := ⟨sl, hp⟩) pre ids sl' os hk hkl hnd hge (fun j o' h => by have := preOk_get pre 0 hpre j o' h; rwa [Nat.zero_add] at this) hsl hlen hos
end Go.Abs
namespace Go.Abs
deriving instance DecidableEq for La
deriving instance DecidableEq for Pl
attribute [local irreducible] AStep aops AWp Nx awM
end Go.Abs
namespace Go.Abs
attribute [local irreducible] AStep aops AWp Nx awM
end Go.Abs
namespace Go.Abs
structure Hd where
  ver : Int
  slot : Int
  lay : Int
  seq : Int
  tail : Int
  now : Int
def hdL (h : Hd) : List AV := [.int .i64 h.ver, .int .i64 h.slot, .int .i64 h.lay, .int .i64 h.seq, .int .i64 h.tail, .int .i64 h.now]
def hdA (h : Hd) : AV := .agg (hdL h)
@[simp] theorem hdA_ids {n : Nat} {h : Hd} : IdsLt n (hdA h) := ⟨trivial, trivial, trivial, trivial, trivial, trivial, trivial⟩
def hdB (h : Hd) : Bool := (decide (h.ver = 1) || decide (h.ver = 2)) && (decide (0 ≤ h.slot) && (decide (h.slot < 16) && (decide (1 ≤ h.lay) && (decide (h.lay ≤ 4294967295) && (decide (1 ≤ h.seq) && (decide (h.seq ≤ 281474976710655) && (decide (0 ≤ h.tail) && (decide (h.tail ≤ h.seq) && (decide (0 ≤ h.now) && decide (h.now ≤ 549755813888))))))))))
/-- The first sector of a slot. -/
def firstI (l : La) (slot : Int) : Int := if formB l = true ∧ 0 ≤ slot ∧ slot < l.regs then 74 + slot * l.rs else -1
def capI (l : La) : Int := if formB l = true then (l.rs - 1) * 59 else 0
theorem form_rs {l : La} (h : formB l = true) : 2 ≤ l.rs ∧ l.rs ≤ 2048 ∧ 4 ≤ l.regs ∧ l.regs ≤ 16 := by
  simp only [formB, Bool.and_eq_true, Bool.or_eq_true, decide_eq_true_eq] at h
  obtain ⟨_, _, _, f4, f5, _, f7, f8⟩ := h
  exact ⟨f4, f5, f7, f8⟩
theorem slot_mul {l : La} {slot : Int} (h : formB l = true) (h1 : 0 ≤ slot) (h2 : slot < l.regs) : IntKind.i64.wrap (74 + IntKind.i64.wrap (slot * l.rs)) = 74 + slot * l.rs ∧ 0 ≤ slot * l.rs ∧ slot * l.rs ≤ 32768 := by
  obtain ⟨a, b, c, d⟩ := form_rs h
  have h3 : 0 ≤ slot * l.rs := Int.mul_nonneg h1 (by omega)
  have h4 : slot * l.rs ≤ 16 * 2048 := Int.mul_le_mul (by omega) b (by omega) (by omega)
  have e1 : IntKind.i64.wrap (slot * l.rs) = slot * l.rs := wrap_in (by omega) (by omega)
  rw [e1]
  exact ⟨wrap_in (by omega) (by omega), h3, by omega⟩
attribute [local irreducible] AStep aops AWp Nx awM
set_option maxHeartbeats 0 in
set_option maxRecDepth 100000 in
theorem hvalid_c (X : Nat → Prop) (h : Hd) : ACalls (E0 X) 89 [hdA h] [] (fun r H' => r = .bool (hdB h) ∧ H' = []) := by
  refine ACalls.cut0 ?_ trivial
  refine acalls_of Proofs.Tryd.func89 rfl Proofs.Tryd.ntmps89 (by kernel_rfl) rfl ?_
  intro hH hargs
  clear hH hargs
  repeat' (first | ((refine Qa rfl ?_); (first | refine Q0 ?_ | refine Q1 ?_ | refine Q2 rfl ?_ | refine Q3 rfl rfl rfl ?_ | refine Q4 rfl rfl rfl rfl rfl ?_ | refine Q5 rfl ?_ | refine QK rfl ?_); (refine QX rfl rfl ?_)) | refine Qh ?_ | refine Qi rfl ?_ | refine Ql ?_ | refine Qo rfl ?_ | refine Qs ?_ | ((fail_if_success refine QV rfl ?_); refine Qy rfl rfl (fun _ => ?_) (fun _ => ?_)))
  all_goals (refine awp_ret ?_; refine ⟨_, rfl, ?_⟩; refine congrArg AV.bool ?_; simp [hdB, *]; done)
set_option maxHeartbeats 0 in
set_option maxRecDepth 100000 in
theorem first_c (X : Nat → Prop) (l : La) (slot : Int) : ACalls (E0 X) 77 [laA l, .int .i64 slot] [] (fun r H' => r = .int .i64 (firstI l slot) ∧ H' = []) := by
  refine ACalls.cut0 ?_ trivial
  refine acalls_of Proofs.Tryd.func77 rfl Proofs.Tryd.ntmps77 (by kernel_rfl) rfl ?_
  intro hH hargs
  clear hH hargs
  repeat' (first | ((refine Qa rfl ?_); (first | refine Q1 ?_ | refine Q3 rfl rfl rfl ?_ | refine QK rfl ?_); (refine QX rfl rfl ?_)) | refine Qa rfl ?_ | refine Qh ?_ | refine Ql ?_ | refine Qo rfl ?_)
  refine st_call (fun _ => rfl) rfl ?_
  refine ACalls.mono (acalls_pure (E := E0 X) (fun X => form_c X l) (by simp [IdsLtL, IdsLt]) _) ?_
  rintro r H' ⟨rfl, rfl⟩
  first | refine nx rfl rfl ?_ | refine nx0 ?_
  cases hf : formB l with
  | false =>
    have e : firstI l slot = -1 := if_neg fun h => by rw [hf] at h; exact absurd h.1 (by decide)
    rw [e]
    repeat' (first | ((refine Qa rfl ?_); (first | refine Q0 ?_ | refine Q1 ?_ | refine Q5 rfl ?_ | refine QD rfl ?_); (refine QX rfl rfl ?_)) | refine Qh ?_ | refine Qi rfl ?_ | refine Ql ?_ | refine Qo rfl ?_ | refine Qp rfl ?_ | refine Qs ?_)
    refine awp_ret ?_
    exact ⟨_, rfl, rfl⟩
  | true =>
    by_cases h1 : slot < 0
    · have e : firstI l slot = -1 := if_neg fun h => by omega
      rw [e]
      repeat' ((refine Qa rfl ?_); (first | refine Q0 ?_ | refine Q2 rfl ?_ | refine Q5 rfl ?_ | refine QD rfl ?_); (refine QX rfl rfl ?_))
      rw [decide_eq_true h1]
      repeat' (first | ((refine Qa rfl ?_); (first | refine Q1 ?_ | refine Q5 rfl ?_); (refine QX rfl rfl ?_)) | refine Qh ?_ | refine Qi rfl ?_ | refine Ql ?_ | refine Qo rfl ?_ | refine Qp rfl ?_ | refine Qs ?_)
      refine awp_ret ?_
      exact ⟨_, rfl, rfl⟩
    · repeat' ((refine Qa rfl ?_); (first | refine Q0 ?_ | refine Q2 rfl ?_ | refine Q5 rfl ?_ | refine QD rfl ?_); (refine QX rfl rfl ?_))
      rw [decide_eq_false h1]
      repeat' (first | ((refine Qa rfl ?_); (first | refine Q0 ?_ | refine Q2 rfl ?_ | refine Q3 rfl rfl rfl ?_ | refine Q4 rfl rfl rfl rfl rfl ?_ | refine Q5 rfl ?_); (refine QX rfl rfl ?_)) | refine Qh ?_ | refine Qs ?_)
      refine awp_cond_dec rfl (fun h2 => ?_) (fun h2 => ?_)
      · have e : firstI l slot = -1 := if_neg fun h => by omega
        rw [e]
        repeat' (first | ((refine Qa rfl ?_); (refine Q1 ?_); (refine QX rfl rfl ?_)) | refine Qh ?_ | refine Ql ?_ | refine Qo rfl ?_ | refine Qs ?_)
        refine awp_ret ?_
        exact ⟨_, rfl, rfl⟩
      · have e : firstI l slot = 74 + slot * l.rs := if_pos ⟨hf, by omega, by omega⟩
        rw [e, ← (slot_mul hf (by omega) (by omega)).1]
        repeat' (first | ((refine Qa rfl ?_); (first | refine Q0 ?_ | refine Q1 ?_ | refine Q2 rfl ?_ | refine Q3 rfl rfl rfl ?_ | refine Q4 rfl rfl rfl rfl rfl ?_); (refine QX rfl rfl ?_)) | refine Qh ?_ | refine Ql ?_ | refine Qm ?_ | refine Qo rfl ?_ | refine Qs ?_)
        refine awp_ret ?_
        exact ⟨_, rfl, rfl⟩
set_option maxHeartbeats 0 in
set_option maxRecDepth 100000 in
theorem capacity_c (X : Nat → Prop) (l : La) : ACalls (E0 X) 84 [laA l] [] (fun r H' => r = .int .i64 (capI l) ∧ H' = []) := by
  refine ACalls.cut0 ?_ trivial
  refine acalls_of Proofs.Tryd.func84 rfl Proofs.Tryd.ntmps84 (by kernel_rfl) rfl ?_
  intro hH hargs
  clear hH hargs
  repeat' (first | ((refine Qa rfl ?_); (first | refine Q1 ?_ | refine Q3 rfl rfl rfl ?_ | refine QK rfl ?_); (refine QX rfl rfl ?_)) | refine Qa rfl ?_ | refine Qh ?_ | refine Ql ?_ | refine Qo rfl ?_)
  refine st_call (fun _ => rfl) rfl ?_
  refine ACalls.mono (acalls_pure (E := E0 X) (fun X => form_c X l) (by simp [IdsLtL, IdsLt]) _) ?_
  rintro r H' ⟨rfl, rfl⟩
  first | refine nx rfl rfl ?_ | refine nx0 ?_
  cases hf : formB l with
  | false =>
    have e : capI l = 0 := if_neg (by rw [hf]; decide)
    rw [e]
    repeat' (first | ((refine Qa rfl ?_); (first | refine Q1 ?_ | refine QD rfl ?_); (refine QX rfl rfl ?_)) | refine Qh ?_ | refine Ql ?_ | refine Qo rfl ?_ | refine Qp rfl ?_ | refine Qs ?_)
    refine awp_ret ?_
    exact ⟨_, rfl, rfl⟩
  | true =>
    have hr := form_rs hf
    have e : capI l = IntKind.i64.wrap (IntKind.i64.wrap (l.rs - 1) * 59) := by
      have e1 : IntKind.i64.wrap (l.rs - 1) = l.rs - 1 := wrap_in (by omega) (by omega)
      rw [e1, wrap_in (by omega) (by omega)]
      exact if_pos hf
    rw [e]
    repeat' (first | ((refine Qa rfl ?_); (first | refine Q1 ?_ | refine Q2 rfl ?_ | refine Q3 rfl rfl rfl ?_ | refine Q4 rfl rfl rfl rfl rfl ?_ | refine QD rfl ?_); (refine QX rfl rfl ?_)) | refine Qh ?_ | refine Ql ?_ | refine Qm ?_ | refine Qo rfl ?_ | refine Qq rfl ?_ | refine Qs ?_)
    refine awp_ret ?_
    exact ⟨_, rfl, rfl⟩
end Go.Abs
namespace Go.Abs
def payH (h : Hd) : List UInt8 := putN (putN (putN (putN [UInt8.ofNat (h.ver.toNat % 256), UInt8.ofNat (h.slot.toNat % 256)] h.lay.toNat 4) h.seq.toNat 6) h.tail.toNat 6) h.now.toNat 5
theorem payH_len (h : Hd) : (payH h).length = 23 := by simp [payH, putN_len]
def encH (h : Hd) (sector : Nat) : List UInt8 := encF 1 0 sector (payH h)
theorem encH_len (h : Hd) (k : Nat) : (encH h k).length = 64 := encF_len (by rw [payH_len]; decide)
structure HdOk (h : Hd) : Prop where
  ver : 1 ≤ h.ver ∧ h.ver ≤ 2
  slot : 0 ≤ h.slot ∧ h.slot ≤ 15
  lay : 1 ≤ h.lay ∧ h.lay ≤ 4294967295
  seq : 1 ≤ h.seq ∧ h.seq ≤ 281474976710655
  tail : 0 ≤ h.tail ∧ h.tail ≤ h.seq
  now : 0 ≤ h.now ∧ h.now ≤ 549755813888
theorem hd_ok {h : Hd} (hb : hdB h = true) : HdOk h := by
  simp only [hdB, Bool.and_eq_true, Bool.or_eq_true, decide_eq_true_eq] at hb
  obtain ⟨a, b, c, d, e, f, g, i, j, k, l⟩ := hb
  exact ⟨by omega, by omega, by omega, by omega, by omega, by omega⟩
attribute [local irreducible] AStep aops AWp Nx awM
set_option maxHeartbeats 0 in
set_option maxRecDepth 100000 in
theorem henc_x (X : Nat → Prop) (h : Hd) (sector : Nat) (hv : hdB h = true) (hs : sector < 1048576) :
    ACalls (E0 X) 91 [hdA h, .int .i64 (sector : Int)] [] (fun r H' => r = .tup [.sl 1 ((encH h sector).map u8A), .int .i64 0] ∧ H' = []) := by
  refine ACalls.cut0 ?_ ⟨idsL_map fun _ => u8A_ids, trivial, trivial⟩
  have hva := fun X => hvalid_c X h
  rw [hv] at hva
  obtain ⟨⟨a1, a2⟩, ⟨b1, b2⟩, ⟨c1, c2⟩, ⟨d1, d2⟩, ⟨e1, e2⟩, ⟨f1, f2⟩⟩ := hd_ok hv
  have hpay : encH h sector = encF 1 0 sector (payH h) := rfl
  have hl := payH_len h
  have hp : payH h = putN (putN (putN (putN [UInt8.ofNat (h.ver.toNat % 256), UInt8.ofNat (h.slot.toNat % 256)] h.lay.toNat 4) h.seq.toNat 6) h.tail.toNat 6) h.now.toNat 5 := rfl
  rw [hpay]
  generalize payH h = pay at *
  obtain ⟨ver, slot, lay, seq, tail, now⟩ := h
  simp only at a1 a2 b1 b2 c1 c2 d1 d2 e1 e2 f1 f2 hp
  obtain ⟨ver, rfl⟩ := Int.eq_ofNat_of_zero_le (show 0 ≤ ver by omega)
  obtain ⟨slot, rfl⟩ := Int.eq_ofNat_of_zero_le b1
  obtain ⟨lay, rfl⟩ := Int.eq_ofNat_of_zero_le (show 0 ≤ lay by omega)
  obtain ⟨seq, rfl⟩ := Int.eq_ofNat_of_zero_le (show 0 ≤ seq by omega)
  obtain ⟨tail, rfl⟩ := Int.eq_ofNat_of_zero_le e1
  obtain ⟨now, rfl⟩ := Int.eq_ofNat_of_zero_le f1
  simp only [Int.toNat_natCast] at hp
  have hfe := fun X => fenc_c X 1 0 sector pay ⟨by decide, by decide, hs⟩ (by decide) (by omega)
  show ACalls (E0 X) 91 [.agg [.int .i64 (ver : Int), .int .i64 (slot : Int), .int .i64 (lay : Int), .int .i64 (seq : Int), .int .i64 (tail : Int), .int .i64 (now : Int)], .int .i64 (sector : Int)] [] _
  refine acalls_of Proofs.Tryd.func91 rfl Proofs.Tryd.ntmps91 (by kernel_rfl) rfl ?_
  intro hH hargs
  clear hH hargs
  repeat' (first | ((refine Qa rfl ?_); (first | refine Q1 ?_ | refine Q3 rfl rfl rfl ?_ | refine QK rfl ?_); (refine QX rfl rfl ?_)) | refine Qa rfl ?_ | refine Qh ?_ | refine Ql ?_ | refine Qo rfl ?_)
  refine st_call (fun _ => rfl) rfl ?_
  refine ACalls.mono (acalls_pure (E := E0 X) (fun X => hva X) (by simp [IdsLtL, IdsLt]) _) ?_
  rintro r H' ⟨rfl, rfl⟩
  first | refine nx rfl rfl ?_ | refine nx0 ?_
  repeat' (first | ((refine Qa rfl ?_); (first | refine Q0 ?_ | refine Q1 ?_ | refine Q3 rfl rfl rfl ?_ | refine Q4 rfl rfl rfl rfl rfl ?_ | refine QD rfl ?_ | refine QG rfl rfl rfl rfl ?_ | refine QR rfl rfl rfl rfl rfl rfl rfl rfl rfl rfl rfl rfl ?_); (refine QX rfl rfl ?_)) | refine Qa rfl ?_ | refine Qh ?_ | refine Ql ?_ | refine Qm ?_ | refine Qo rfl ?_ | refine Qq rfl ?_)
  rw [byte_of, byte_of, wrap64 (by omega)]
  have l2 : [UInt8.ofNat (ver % 256), UInt8.ofNat (slot % 256)].length = 2 := rfl
  refine st_call (fun _ => rfl) rfl ?_
  refine ACalls.mono (put_at X _ _ [UInt8.ofNat (ver % 256), UInt8.ofNat (slot % 256)] lay 4 (by decide) (by decide) (by simp) rfl) ?_
  rintro r H' ⟨rfl, rfl⟩
  first | refine nx rfl rfl ?_ | refine nx0 ?_
  have l6 : (putN [UInt8.ofNat (ver % 256), UInt8.ofNat (slot % 256)] lay 4).length = 6 := by rw [putN_len]; rfl
  generalize putN [UInt8.ofNat (ver % 256), UInt8.ofNat (slot % 256)] lay 4 = b6 at *
  repeat' (first | ((refine Qa rfl ?_); (first | refine Q0 ?_ | refine Q1 ?_ | refine Q3 rfl rfl rfl ?_ | refine Q4 rfl rfl rfl rfl rfl ?_ | refine QG rfl rfl rfl rfl ?_); (refine QX rfl rfl ?_)) | refine Qa rfl ?_ | refine Qh ?_ | refine Ql ?_ | refine Qo rfl ?_)
  rw [wrap64 (by omega)]
  refine st_call (fun _ => rfl) rfl ?_
  refine ACalls.mono (put_at X _ _ b6 seq 6 (by decide) (by decide) (by omega) (src_ownm' rfl rfl rfl (by omega) (by rw [List.drop_zero, List.take_of_length_le (by omega)]))) ?_
  rintro r H' ⟨rfl, rfl⟩
  first | refine nx rfl rfl ?_ | refine nx0 ?_
  have l12 : (putN b6 seq 6).length = 12 := by rw [putN_len, l6]
  generalize putN b6 seq 6 = b12 at *
  repeat' (first | ((refine Qa rfl ?_); (first | refine Q0 ?_ | refine Q1 ?_ | refine Q3 rfl rfl rfl ?_ | refine Q4 rfl rfl rfl rfl rfl ?_ | refine QG rfl rfl rfl rfl ?_); (refine QX rfl rfl ?_)) | refine Qa rfl ?_ | refine Qh ?_ | refine Ql ?_ | refine Qo rfl ?_)
  rw [wrap64 (by omega)]
  refine st_call (fun _ => rfl) rfl ?_
  refine ACalls.mono (put_at X _ _ b12 tail 6 (by decide) (by decide) (by omega) (src_ownm' rfl rfl rfl (by omega) (by rw [List.drop_zero, List.take_of_length_le (by omega)]))) ?_
  rintro r H' ⟨rfl, rfl⟩
  first | refine nx rfl rfl ?_ | refine nx0 ?_
  have l18 : (putN b12 tail 6).length = 18 := by rw [putN_len, l12]
  generalize putN b12 tail 6 = b18 at *
  repeat' (first | ((refine Qa rfl ?_); (first | refine Q0 ?_ | refine Q1 ?_ | refine Q3 rfl rfl rfl ?_ | refine Q4 rfl rfl rfl rfl rfl ?_ | refine QG rfl rfl rfl rfl ?_); (refine QX rfl rfl ?_)) | refine Qa rfl ?_ | refine Qh ?_ | refine Ql ?_ | refine Qo rfl ?_)
  rw [wrap64 (by omega)]
  refine st_call (fun _ => rfl) rfl ?_
  refine ACalls.mono (put_at X _ _ b18 now 5 (by decide) (by decide) (by omega) (src_ownm' rfl rfl rfl (by omega) (by rw [List.drop_zero, List.take_of_length_le (by omega)]))) ?_
  rintro r H' ⟨rfl, rfl⟩
  first | refine nx rfl rfl ?_ | refine nx0 ?_
  rw [← hp]
  repeat' (first | ((refine Qa rfl ?_); (refine Q1 ?_); (refine QX rfl rfl ?_)) | refine Qh ?_)
  refine then_i ?_
  refine awp_pre (Imp.trans (imp_freeze (id := 4) (k := 1) (es := pay.map u8A) (e := 5) rfl rfl rfl) (imp_cutk 0 (Nat.zero_le _) hok_nil rfl (Nat.zero_le _) (sl' := [(1, .int .i64 (sector : Int)), (6, .sl 1 (pay.map u8A))]) ?_)) ?_
  · refine fa_cons ⟨rfl, trivial⟩ (fa_cons ⟨?_, idsL_map fun _ => u8A_ids⟩ fa_nil)
    show frz 4 _ _ (.own 4 0 (b18.length + 5)) = _
    exact frz_own (by simp [hl, l18])
  repeat' (first | ((refine Qa rfl ?_); (refine Q0 ?_); (refine QX rfl rfl ?_)) | refine Qa rfl ?_ | refine Ql ?_ | refine Qo rfl ?_)
  refine st_call (fun _ => rfl) rfl ?_
  refine ACalls.mono (acalls_pure (E := E0 X) (fun X => hfe X) (by simp [IdsLtL, IdsLt]) _) ?_
  rintro r H' ⟨rfl, rfl⟩
  first | refine nx rfl rfl ?_ | refine nx0 ?_
  repeat' (first | ((refine Qa rfl ?_); (first | refine Q1 ?_ | refine QC rfl rfl ?_); (refine QX rfl rfl ?_)) | refine Qh ?_ | refine Qs ?_)
  refine awp_ret ?_
  exact ⟨_, rfl, rfl⟩
set_option maxHeartbeats 0 in
theorem hencbad_c (X : Nat → Prop) (h : Hd) (sector : Int) (hv : hdB h = false) :
    ACalls (E0 X) 91 [hdA h, .int .i64 sector] [] (fun r H' => r = .tup [.nils, .int .i64 4] ∧ H' = []) := by
  refine ACalls.cut0 ?_ ⟨trivial, trivial, trivial⟩
  have hva := fun X => hvalid_c X h
  rw [hv] at hva
  refine acalls_of Proofs.Tryd.func91 rfl Proofs.Tryd.ntmps91 (by kernel_rfl) rfl ?_
  intro hH hargs
  clear hH hargs
  repeat' (first | ((refine Qa rfl ?_); (first | refine Q1 ?_ | refine Q3 rfl rfl rfl ?_ | refine QK rfl ?_); (refine QX rfl rfl ?_)) | refine Qa rfl ?_ | refine Qh ?_ | refine Ql ?_ | refine Qo rfl ?_)
  refine st_call (fun _ => rfl) rfl ?_
  refine ACalls.mono (acalls_pure (E := E0 X) (fun X => hva X) (by simp [IdsLtL, IdsLt]) _) ?_
  rintro r H' ⟨rfl, rfl⟩
  first | refine nx rfl rfl ?_ | refine nx0 ?_
  repeat' (first | ((refine Qa rfl ?_); (first | refine Q1 ?_ | refine QD rfl ?_); (refine QX rfl rfl ?_)) | refine Qh ?_ | refine Ql ?_ | refine Qo rfl ?_ | refine Qp rfl ?_ | refine Qs ?_)
  refine awp_ret ?_
  exact ⟨_, rfl, rfl⟩
def encHO (h : Hd) (sector : Nat) : Option (List UInt8) := if hdB h = true then some (encH h sector) else none
theorem henc_o (X : Nat → Prop) (h : Hd) (sector : Nat) (hs : sector < 1048576) :
    ACalls (E0 X) 91 [hdA h, .int .i64 (sector : Int)] [] (fun r H' => r = (match encHO h sector with | some e => .tup [.sl 1 (e.map u8A), .int .i64 0] | none => .tup [.nils, .int .i64 4]) ∧ H' = []) := by
  unfold encHO
  cases hv : hdB h with
  | false => exact hencbad_c X h sector hv
  | true => exact henc_x X h sector hv hs
end Go.Abs
namespace Go.Abs
theorem num5h {n : Nat} (h : n ≤ 1099511627775) : numN [byteAt n 32, byteAt n 24, byteAt n 16, byteAt n 8, byteAt n 0] = n := by
  simp only [numN, List.foldl_cons, List.foldl_nil, byteAt_nat]
  have e1 : (2 : Nat) ^ 24 = 16777216 := by decide
  have e2 : (2 : Nat) ^ 16 = 65536 := by decide
  have e3 : (2 : Nat) ^ 8 = 256 := by decide
  have e4 : (2 : Nat) ^ 32 = 4294967296 := by decide
  rw [e1, e2, e3, e4]
  omega
def parH (bs : List UInt8) : Hd := ⟨(numN ((bs.drop 0).take 1) : Nat), (numN ((bs.drop 1).take 1) : Nat), (numN ((bs.drop 2).take 4) : Nat), (numN ((bs.drop 6).take 6) : Nat), (numN ((bs.drop 12).take 6) : Nat), (numN ((bs.drop 18).take 5) : Nat)⟩
def rparH (bs : List UInt8) : Hd := ⟨((bs[0]?.getD 0).toNat : Nat), ((bs[1]?.getD 0).toNat : Nat), (numN ((bs.drop 2).take 4) : Nat), (numN ((bs.drop 6).take 6) : Nat), (numN ((bs.drop 12).take 6) : Nat), (numN ((bs.drop 18).take 5) : Nat)⟩
def zeroHd : Hd := ⟨0, 0, 0, 0, 0, 0⟩
def optH (o : Option Hd) : AV := .tup [hdA (o.getD zeroHd), .bool o.isSome]
def decH (b : List UInt8) (sector : Nat) : Option Hd := match decF 1 0 sector b with
  | none => none
  | some pay => if encHO (parH pay) sector = some b then some (parH pay) else none
def payHl (h : Hd) (z : List UInt8) : List UInt8 := UInt8.ofNat (h.ver.toNat % 256) :: UInt8.ofNat (h.slot.toNat % 256) :: byteAt h.lay.toNat 24 :: byteAt h.lay.toNat 16 :: byteAt h.lay.toNat 8 :: byteAt h.lay.toNat 0 ::
  byteAt h.seq.toNat 40 :: byteAt h.seq.toNat 32 :: byteAt h.seq.toNat 24 :: byteAt h.seq.toNat 16 :: byteAt h.seq.toNat 8 :: byteAt h.seq.toNat 0 ::
  byteAt h.tail.toNat 40 :: byteAt h.tail.toNat 32 :: byteAt h.tail.toNat 24 :: byteAt h.tail.toNat 16 :: byteAt h.tail.toNat 8 :: byteAt h.tail.toNat 0 ::
  byteAt h.now.toNat 32 :: byteAt h.now.toNat 24 :: byteAt h.now.toNat 16 :: byteAt h.now.toNat 8 :: byteAt h.now.toNat 0 :: z
theorem payHl_eq (h : Hd) (z : List UInt8) : payH h ++ z = payHl h z := rfl
theorem parH_e (h : Hd) (z : List UInt8) : parH (payHl h z) = ⟨(numN [UInt8.ofNat (h.ver.toNat % 256)] : Nat), (numN [UInt8.ofNat (h.slot.toNat % 256)] : Nat), (numN [byteAt h.lay.toNat 24, byteAt h.lay.toNat 16, byteAt h.lay.toNat 8, byteAt h.lay.toNat 0] : Nat),
    (numN [byteAt h.seq.toNat 40, byteAt h.seq.toNat 32, byteAt h.seq.toNat 24, byteAt h.seq.toNat 16, byteAt h.seq.toNat 8, byteAt h.seq.toNat 0] : Nat),
    (numN [byteAt h.tail.toNat 40, byteAt h.tail.toNat 32, byteAt h.tail.toNat 24, byteAt h.tail.toNat 16, byteAt h.tail.toNat 8, byteAt h.tail.toNat 0] : Nat),
    (numN [byteAt h.now.toNat 32, byteAt h.now.toNat 24, byteAt h.now.toNat 16, byteAt h.now.toNat 8, byteAt h.now.toNat 0] : Nat)⟩ := rfl
theorem rparH_e (h : Hd) (z : List UInt8) : rparH (payHl h z) = ⟨((UInt8.ofNat (h.ver.toNat % 256)).toNat : Nat), ((UInt8.ofNat (h.slot.toNat % 256)).toNat : Nat), (numN [byteAt h.lay.toNat 24, byteAt h.lay.toNat 16, byteAt h.lay.toNat 8, byteAt h.lay.toNat 0] : Nat),
    (numN [byteAt h.seq.toNat 40, byteAt h.seq.toNat 32, byteAt h.seq.toNat 24, byteAt h.seq.toNat 16, byteAt h.seq.toNat 8, byteAt h.seq.toNat 0] : Nat),
    (numN [byteAt h.tail.toNat 40, byteAt h.tail.toNat 32, byteAt h.tail.toNat 24, byteAt h.tail.toNat 16, byteAt h.tail.toNat 8, byteAt h.tail.toNat 0] : Nat),
    (numN [byteAt h.now.toNat 32, byteAt h.now.toNat 24, byteAt h.now.toNat 16, byteAt h.now.toNat 8, byteAt h.now.toNat 0] : Nat)⟩ := rfl
theorem parH_pay {h : Hd} (hv : hdB h = true) (z : List UInt8) : parH (payH h ++ z) = h ∧ rparH (payH h ++ z) = h := by
  obtain ⟨⟨a1, a2⟩, ⟨b1, b2⟩, ⟨c1, c2⟩, ⟨d1, d2⟩, ⟨e1, e2⟩, ⟨f1, f2⟩⟩ := hd_ok hv
  rw [payHl_eq, parH_e, rparH_e, num1 (by omega), num1 (by omega), num4 (by omega), num6 (by omega), num6 (by omega), num5h (by omega), b_back (by omega), b_back (by omega)]
  obtain ⟨ver, slot, lay, seq, tail, now⟩ := h
  simp only [Hd.mk.injEq]
  simp only at a1 a2 b1 b2 c1 c2 d1 d2 e1 e2 f1 f2
  refine ⟨⟨?_, ?_, ?_, ?_, ?_, ?_⟩, ?_, ?_, ?_, ?_, ?_, ?_⟩ <;> omega
theorem decH_encH {h : Hd} (hv : hdB h = true) (k : Nat) : decH (encH h k) k = some h := by
  have hl := payH_len h
  have h1 : decF 1 0 k (encH h k) = some (payH h ++ List.replicate (59 - (payH h).length) 0) := decF_encF (by omega)
  unfold decH
  rw [h1]
  simp only
  rw [(parH_pay hv _).1]
  have h2 : encHO h k = some (encH h k) := by
    unfold encHO
    rw [if_pos hv]
  rw [if_pos h2]
def zOh : AO := .cells (hdL zeroHd) 69
theorem hok_hd3 (bs : List UInt8) (lo : Nat) : HOk 3 [some zOh, some (.arr (bs.map u8A) 5), some (rdrC bs 1 lo)] := fun j o ho => by
  match j, ho with
  | 0, ho => cases ho; exact ⟨trivial, trivial, trivial, trivial, trivial, trivial, trivial⟩
  | 1, ho => cases ho; exact idsL_map fun _ => u8A_ids
  | 2, ho => cases ho; exact ⟨by simp [IdsLt], trivial, trivial⟩
attribute [local irreducible] AStep aops AWp Nx awM
set_option maxHeartbeats 0 in
theorem hclo_c (X : Nat → Prop) (bs : List UInt8) (lo w : Nat) (hw : 1 ≤ w) (hw6 : w ≤ 6) (h : lo + w ≤ bs.length) (hb : bs.length ≤ 1000) :
    ACalls (E0 X) 124 [.int .i64 (w : Int), .fp [.ptr 1 0]] (rdrH bs lo) (fun r H' => r = .int .i64 (numN ((bs.drop lo).take w) : Int) ∧ H' = rdrH bs (lo + w)) := by
  have s1 := num_small (bs := bs) (lo := lo) (w := w) hw6
  have c1 := num_c X bs lo w hw (by omega) h hb
  generalize numN ((bs.drop lo).take w) = n at *
  refine acalls_of Proofs.Tryd.func124 rfl Proofs.Tryd.ntmps124 (by kernel_rfl) rfl ?_
  intro hH hargs
  clear hH hargs
  repeat' (first | ((refine Qa rfl ?_); (first | refine Q0 ?_ | refine Q1 ?_ | refine Q3 rfl rfl rfl ?_); (refine QX rfl rfl ?_)) | refine Qa rfl ?_ | refine Qh ?_ | refine Ql ?_ | refine Qo rfl ?_)
  refine st_call (fun _ => rfl) rfl ?_
  refine ACalls.mono (c1) ?_
  rintro r H' ⟨rfl, rfl⟩
  first | refine nx rfl rfl ?_ | refine nx0 ?_
  repeat' (first | ((refine Qa rfl ?_); (first | refine Q1 ?_ | refine QG rfl rfl rfl rfl ?_); (refine QX rfl rfl ?_)) | refine Qh ?_ | refine Qs ?_)
  refine awp_ret ?_
  refine ⟨_, rfl, ?_, ?_⟩
  · exact congrArg (AV.int .i64) (wrapI s1)
  · rfl
theorem hclo_at (X : Nat → Prop) (bs : List UInt8) (lo w : Nat) (hw : 1 ≤ w) (hw6 : w ≤ 6) (h : lo + w ≤ bs.length) (hb : bs.length ≤ 1000) (L R : Hp) (s : Nat) (hs : L.length = s) :
    ACalls (E0 X) 124 [.int .i64 (w : Int), .fp [.ptr (1 + s) 0]] (L ++ rdrS bs s lo ++ R) (fun r H' => r = .int .i64 (numN ((bs.drop lo).take w) : Int) ∧ H' = L ++ rdrS bs s (lo + w) ++ R) := by
  subst hs
  have hm : ∀ lo, mapH (sh L.length R.length 2) (rdrH bs lo) = rdrS bs L.length lo := fun lo => mapH_rdrG _ 0 L.length bs lo (by simp [sh])
  refine ACalls.conv (ACalls.frameLR (E := E0 X) (fun X => hclo_c X bs lo w hw hw6 h hb) L R (some_rdr bs lo) ⟨trivial, ⟨by simp [IdsLt, rdrH], trivial⟩, trivial⟩ (hok_rdr bs lo)) ?_ (by rw [show (rdrH bs lo).length = 2 from rfl, hm]) ?_
  · simp [rnL, rnA, sh, rdrH]
  · rintro q H' ⟨r1, h', ⟨rfl, rfl⟩, -, rfl, rfl⟩
    refine ⟨rfl, ?_⟩
    show L ++ mapH (sh L.length R.length 2) (rdrH bs (lo + w)) ++ R ++ [] = _
    rw [hm, List.append_nil]
set_option maxHeartbeats 0 in
set_option maxRecDepth 100000 in
theorem hdec_c (X : Nat → Prop) (b : List UInt8) (sector : Nat) (hs : sector < 1048576) (hb : b.length ≤ 1000) :
    ACalls (E0 X) 78 [.sl 1 (b.map u8A), .int .i64 (sector : Int)] [] (fun r H' => r = optH (decH b sector) ∧ H' = []) := by
  refine ACalls.cut0 ?_ ⟨hdA_ids, trivial, trivial⟩
  have hdec := fun X => fdec_c X 1 0 sector b ⟨by decide, by decide, hs⟩ (by decide) (by omega)
  refine acalls_of Proofs.Tryd.func78 rfl Proofs.Tryd.ntmps78 (by kernel_rfl) rfl ?_
  intro hH hargs
  clear hH hargs
  repeat' (first | ((refine Qa rfl ?_); (first | refine Q0 ?_ | refine Q1 ?_ | refine QJ rfl rfl ?_); (refine QX rfl rfl ?_)) | refine Qa rfl ?_ | refine Qh ?_ | refine Ql ?_ | refine Qo rfl ?_)
  refine st_call (fun _ => rfl) rfl ?_
  refine ACalls.mono (acalls_pure (E := E0 X) hdec (by simp [IdsLtL, IdsLt]) _) ?_
  rintro r H' ⟨rfl, rfl⟩
  cases hd : decF 1 0 sector b with
  | none =>
    have e : decH b sector = none := by simp only [decH, hd]
    rw [e]
    show Nx _ (.tup [.nils, .bool false]) _
    first | refine nx rfl rfl ?_ | refine nx0 ?_
    repeat' (first | ((refine Qa rfl ?_); (first | refine Q0 ?_ | refine Q1 ?_ | refine QC rfl rfl ?_ | refine QD rfl ?_ | refine QP rfl rfl rfl rfl rfl rfl ?_); (refine QX rfl rfl ?_)) | (refine Qb rfl ?_; try (refine QS rfl rfl rfl rfl rfl rfl rfl ?_; (refine QX rfl rfl ?_))) | refine Qh ?_ | refine Ql ?_ | refine Qo rfl ?_ | refine Qp rfl ?_ | refine Qs ?_)
    refine awp_ret ?_
    exact ⟨_, rfl, rfl⟩
  | some bs =>
    obtain ⟨hbl, -⟩ := decF_len hd
    have e : decH b sector = if encHO (parH bs) sector = some b then some (parH bs) else none := by simp only [decH, hd]
    rw [e]
    show Nx _ (.tup [.sl 1 (bs.map u8A), .bool true]) _
    first | refine nx rfl rfl ?_ | refine nx0 ?_
    repeat' (first | ((refine Qa rfl ?_); (first | refine Q0 ?_ | refine Q1 ?_ | refine QC rfl rfl ?_ | refine QD rfl ?_); (refine QX rfl rfl ?_)) | refine Qa rfl ?_ | refine Qh ?_ | refine Ql ?_ | refine Qm ?_ | refine Qo rfl ?_ | refine Qq rfl ?_)
    refine st_call (fun _ => rfl) rfl ?_
    refine ACalls.mono (newr_at X bs (by omega) _ _ rfl) ?_
    rintro r H' ⟨rfl, rfl⟩
    first | refine nx rfl rfl ?_ | refine nx0 ?_
    repeat' (first | ((refine Qa rfl ?_); (refine QJ rfl rfl ?_); (refine QX rfl rfl ?_)) | (refine Qb rfl ?_; try (refine QS rfl rfl rfl rfl rfl rfl rfl ?_; (refine QX rfl rfl ?_))) | refine Qh ?_)
    refine then_i ?_
    refine awp_pre (imp_freezeP (id := 3) (cs := [.ptr 2 0]) rfl) ?_
    refine awp_pre (imp_cutk 3 (Nat.zero_le _) (hok_hd3 bs 0) rfl (by simp) (sl' := [(0, .sl 1 (b.map u8A)), (1, .int .i64 (sector : Int)), (4, .ptr 0 0), (8, .fp [.ptr 2 0])]) ?_) ?_
    · repeat' (first | exact fa_nil | refine fa_cons ⟨?_, ?_⟩ ?_)
      all_goals (try first | exact rfl | exact trivial | (simp [IdsLt, IdsLtL]; done) | (simp [get_cons]; done) | (simp [get_cons, *]; done) | (refine congrArg (AV.int .i64) (wrap_eq ?_ ?_ ?_) <;> (first | omega | (simp; omega))))
    have q1 := fun R => hclo_at X bs 0 1 (by decide) (by decide) (by omega) (by omega) [some zOh] R 1 rfl
    have q2 := fun R => hclo_at X bs 1 1 (by decide) (by decide) (by omega) (by omega) [some zOh] R 1 rfl
    have q3 := fun R => hclo_at X bs 2 4 (by decide) (by decide) (by omega) (by omega) [some zOh] R 1 rfl
    have q4 := fun R => hclo_at X bs 6 6 (by decide) (by decide) (by omega) (by omega) [some zOh] R 1 rfl
    have q5 := fun R => hclo_at X bs 12 6 (by decide) (by decide) (by omega) (by omega) [some zOh] R 1 rfl
    have q6 := fun R => hclo_at X bs 18 5 (by decide) (by decide) (by omega) (by omega) [some zOh] R 1 rfl
    have hp : parH bs = ⟨(numN ((bs.drop 0).take 1) : Nat), (numN ((bs.drop 1).take 1) : Nat), (numN ((bs.drop 2).take 4) : Nat), (numN ((bs.drop 6).take 6) : Nat), (numN ((bs.drop 12).take 6) : Nat), (numN ((bs.drop 18).take 5) : Nat)⟩ := rfl
    rw [hp]
    generalize numN ((bs.drop 0).take 1) = n1 at *
    generalize numN ((bs.drop 1).take 1) = n2 at *
    generalize numN ((bs.drop 2).take 4) = n3 at *
    generalize numN ((bs.drop 6).take 6) = n4 at *
    generalize numN ((bs.drop 12).take 6) = n5 at *
    generalize numN ((bs.drop 18).take 5) = n6 at *
    have hen := fun X => henc_o X ⟨n1, n2, n3, n4, n5, n6⟩ sector hs
    repeat' (first | ((refine Qa rfl ?_); (first | refine Q0 ?_ | refine Q1 ?_ | refine QN ?_); (refine QX rfl rfl ?_)) | refine Qa rfl ?_ | refine Qh ?_ | refine Ql ?_ | refine Qo rfl ?_)
    refine st_call (fun _ => rfl) rfl ?_
    refine ACalls.mono (q1 _) ?_
    rintro r H' ⟨rfl, rfl⟩
    first | refine nx rfl rfl ?_ | refine nx0 ?_
    repeat' (first | ((refine Qa rfl ?_); (refine Q0 ?_); (refine QX rfl rfl ?_)) | refine Qa rfl ?_)
    refine st_call (fun _ => rfl) rfl ?_
    refine ACalls.mono (q2 _) ?_
    rintro r H' ⟨rfl, rfl⟩
    first | refine nx rfl rfl ?_ | refine nx0 ?_
    repeat' (first | ((refine Qa rfl ?_); (refine Q0 ?_); (refine QX rfl rfl ?_)) | refine Qa rfl ?_)
    refine st_call (fun _ => rfl) rfl ?_
    refine ACalls.mono (q3 _) ?_
    rintro r H' ⟨rfl, rfl⟩
    first | refine nx rfl rfl ?_ | refine nx0 ?_
    repeat' (first | ((refine Qa rfl ?_); (refine Q0 ?_); (refine QX rfl rfl ?_)) | refine Qa rfl ?_)
    refine st_call (fun _ => rfl) rfl ?_
    refine ACalls.mono (q4 _) ?_
    rintro r H' ⟨rfl, rfl⟩
    first | refine nx rfl rfl ?_ | refine nx0 ?_
    repeat' (first | ((refine Qa rfl ?_); (refine Q0 ?_); (refine QX rfl rfl ?_)) | refine Qa rfl ?_)
    refine st_call (fun _ => rfl) rfl ?_
    refine ACalls.mono (q5 _) ?_
    rintro r H' ⟨rfl, rfl⟩
    first | refine nx rfl rfl ?_ | refine nx0 ?_
    repeat' (first | ((refine Qa rfl ?_); (refine Q0 ?_); (refine QX rfl rfl ?_)) | refine Qa rfl ?_)
    refine st_call (fun _ => rfl) rfl ?_
    refine ACalls.mono (q6 _) ?_
    rintro r H' ⟨rfl, rfl⟩
    first | refine nx rfl rfl ?_ | refine nx0 ?_
    repeat' (first | ((refine Qa rfl ?_); (first | refine Q0 ?_ | refine Q3 rfl rfl rfl ?_ | refine QJ rfl rfl ?_ | refine QP rfl rfl rfl rfl rfl rfl ?_); (refine QX rfl rfl ?_)) | refine Qa rfl ?_ | (refine Qb rfl ?_; try (refine QS rfl rfl rfl rfl rfl rfl rfl ?_; (refine QX rfl rfl ?_))) | refine Qh ?_ | refine Ql ?_ | refine Qo rfl ?_)
    refine st_call (fun _ => rfl) rfl ?_
    refine ACalls.mono (acalls_pure (E := E0 X) hen (by simp [IdsLtL, IdsLt]) _) ?_
    rintro r H' ⟨rfl, rfl⟩
    cases he : encHO ⟨n1, n2, n3, n4, n5, n6⟩ sector with
    | none =>
      rw [if_neg (by simp)]
      show Nx _ (.tup [.nils, .int .i64 4]) _
      first | refine nx rfl rfl ?_ | refine nx0 ?_
      repeat' (first | ((refine Qa rfl ?_); (first | refine Q0 ?_ | refine Q1 ?_ | refine Q2 rfl ?_ | refine Q5 rfl ?_ | refine QC rfl rfl ?_ | refine QP rfl rfl rfl rfl rfl rfl ?_); (refine QX rfl rfl ?_)) | (refine Qb rfl ?_; try (refine QS rfl rfl rfl rfl rfl rfl rfl ?_; (refine QX rfl rfl ?_))) | refine Qh ?_ | refine Qi rfl ?_ | refine Ql ?_ | refine Qo rfl ?_ | refine Qp rfl ?_ | refine Qs ?_)
      refine awp_ret ?_
      exact ⟨_, rfl, rfl⟩
    | some eb =>
      show Nx _ (.tup [.sl 1 (eb.map u8A), .int .i64 0]) _
      first | refine nx rfl rfl ?_ | refine nx0 ?_
      repeat' (first | ((refine Qa rfl ?_); (first | refine Q0 ?_ | refine Q1 ?_ | refine Q2 rfl ?_ | refine QC rfl rfl ?_); (refine QX rfl rfl ?_)) | refine Qa rfl ?_ | refine Qh ?_ | refine Ql ?_ | refine Qo rfl ?_)
      refine st_call (fun _ => rfl) rfl ?_
      refine ACalls.mono (acalls_pure (E := E0 X) (fun X => beq_c X eb b) (by simp [IdsLtL, IdsLt]) _) ?_
      rintro r H' ⟨rfl, rfl⟩
      first | refine nx rfl rfl ?_ | refine nx0 ?_
      repeat' (first | ((refine Qa rfl ?_); (first | refine Q5 rfl ?_ | refine QD rfl ?_); (refine QX rfl rfl ?_)) | refine Qh ?_ | refine Qs ?_)
      refine awp_cond rfl (fun h9 => ?_) (fun h9 => ?_)
      · have h8 : ¬ eb = b := by simpa using h9
        rw [if_neg (by simpa using h8)]
        repeat' (first | ((refine Qa rfl ?_); (first | refine Q1 ?_ | refine QP rfl rfl rfl rfl rfl rfl ?_); (refine QX rfl rfl ?_)) | (refine Qb rfl ?_; try (refine QS rfl rfl rfl rfl rfl rfl rfl ?_; (refine QX rfl rfl ?_))) | refine Qh ?_ | refine Ql ?_ | refine Qo rfl ?_ | refine Qs ?_)
        refine awp_ret ?_
        exact ⟨_, rfl, rfl⟩
      · have h8 : eb = b := by simpa using h9
        rw [if_pos (by rw [h8])]
        repeat' (first | ((refine Qa rfl ?_); (first | refine Q1 ?_ | refine Q3 rfl rfl rfl ?_); (refine QX rfl rfl ?_)) | (refine Qb rfl ?_; try (refine QS rfl rfl rfl rfl rfl rfl rfl ?_; (refine QX rfl rfl ?_))) | refine Qh ?_ | refine Ql ?_ | refine Qm ?_ | refine Qo rfl ?_ | refine Qs ?_)
        refine awp_ret ?_
        exact ⟨_, rfl, rfl⟩
end Go.Abs
namespace Go.Abs
theorem ACalls.cutDv {E : Env} {f : FuncId} {args : List AV} {v v' : Dv} {r0 : AV} (h : ACalls E f args (devH v) (fun r H' => r = r0 ∧ H'.take 3 = devH v')) (hr : IdsLt 0 r0) : ACalls E f args (devH v) (fun r H' => r = r0 ∧ H' = devH v') :=
  h.imp fun r H' ⟨h1, h2⟩ => by
    subst h1
    refine ⟨_, _, ⟨rfl, rfl⟩, imp_cutk 3 (Nat.le_refl _) (hok_dev v') h2 ?_ ?_⟩
    · have : (H'.take 3).length = 3 := by rw [h2]; rfl
      simp at this ⊢; omega
    · exact fa_cons ⟨rfl, (ids_mono (Nat.zero_le _) (show IdsLtL 0 [r] from ⟨hr, trivial⟩)).1⟩ fa_nil
def fitH (l : La) (slot : Int) (o : Option Hd) : Option Hd := match o with
  | none => none
  | some h => if h.ver = l.ver ∧ h.lay = l.id ∧ h.slot = slot then some h else none
def scanH (v : Dv) (l : La) (slot : Int) : Option Hd := if v.check (firstI l slot) ≠ 0 then none else fitH l slot (decH ((v.image.drop ((firstI l slot).toNat * 64)).take 64) (firstI l slot).toNat)
theorem hok_sh (v : Dv) (l : La) : HOk 5 (devH v ++ [some (.cells [.int .i64 l.id, .int .i64 l.ver, .int .i64 l.rs, .int .i64 l.regs] 29), some zOh]) := fun j o' ho => by
  match j, ho with
  | 0, ho => cases ho; exact ⟨by simp [IdsLt], by simp [IdsLt], trivial, trivial, trivial, trivial⟩
  | 1, ho => cases ho; exact idsL_map fun _ => u8A_ids
  | 2, ho => cases ho; exact ⟨by rw [List.map_map]; exact idsL_map fun _ => trivial, by rw [List.map_map]; exact idsL_map fun p => (idsL_map (f := u8A) fun _ => u8A_ids : IdsLtL _ (p.2.map u8A))⟩
  | 3, ho => cases ho; exact ⟨trivial, trivial, trivial, trivial, trivial⟩
  | 4, ho => cases ho; exact ⟨trivial, trivial, trivial, trivial, trivial, trivial, trivial⟩
attribute [local irreducible] AStep aops AWp Nx awM
set_option maxHeartbeats 0 in
set_option maxRecDepth 100000 in
theorem scanH_c (X : Nat → Prop) (v : Dv) (hv : v.Inv) (l : La) (slot : Int) : ACalls (E0 X) 41 [.ptr 0 0, laA l, .int .i64 slot] (devH v) (fun r H' => r = optH (scanH v l slot) ∧ H' = devH v) := by
  have hlv : v.image.length ≤ 1073741824 := by have := hv.load.2.2; omega
  refine ACalls.cutDv ?_ ⟨hdA_ids, trivial, trivial⟩
  have hfi := fun X => first_c X l slot
  have hrd := fun R => read_at X v (firstI l slot) hlv [] R 0 rfl
  have hci := fun h => check_in hv (i := firstI l slot) h
  unfold scanH
  generalize firstI l slot = fi at *
  show ACalls (E0 X) 41 [.ptr 0 0, .agg [.int .i64 l.id, .int .i64 l.ver, .int .i64 l.rs, .int .i64 l.regs], .int .i64 slot] (devH v) _
  refine acalls_of Proofs.Tryd.func41 rfl Proofs.Tryd.ntmps41 (by kernel_rfl) rfl ?_
  intro hH hargs
  clear hH hargs
  repeat' (first | ((refine Qa rfl ?_); (first | refine Q0 ?_ | refine Q1 ?_ | refine Q3 rfl rfl rfl ?_ | refine QJ rfl rfl ?_ | refine QK rfl ?_); (refine QX rfl rfl ?_)) | refine Qa rfl ?_ | refine Qh ?_ | refine Ql ?_ | refine Qo rfl ?_)
  refine st_call (fun _ => rfl) rfl ?_
  refine ACalls.mono (acalls_pure (E := E0 X) (fun X => hfi X) (by simp [IdsLtL, IdsLt]) _) ?_
  rintro r H' ⟨rfl, rfl⟩
  first | refine nx rfl rfl ?_ | refine nx0 ?_
  repeat' (first | ((refine Qa rfl ?_); (first | refine Q0 ?_ | refine Q1 ?_); (refine QX rfl rfl ?_)) | refine Qa rfl ?_ | refine Qh ?_ | refine Ql ?_ | refine Qo rfl ?_)
  by_cases hc : v.check fi = 0
  · rw [if_neg (by rw [hc]; simp)]
    obtain ⟨-, k, rfl, hk⟩ := hci hc
    rw [Int.toNat_natCast] at *
    have hk20 : k < 1048576 := by have := hv.load.2.2; omega
    have hbl : ((v.image.drop (k * 64)).take 64).length = 64 := by simp; omega
    generalize (v.image.drop (k * 64)).take 64 = bb at *
    refine st_call (fun _ => rfl) rfl ?_
    refine ACalls.mono (hrd [some (.cells [.int .i64 l.id, .int .i64 l.ver, .int .i64 l.rs, .int .i64 l.regs] 29), some zOh]) ?_
    rintro r H' (⟨hc2, -, -⟩ | ⟨-, rfl, rfl⟩)
    · exact absurd hc hc2
    first | refine nx rfl rfl ?_ | refine nx0 ?_
    repeat' (first | ((refine Qa rfl ?_); (first | refine Q0 ?_ | refine Q1 ?_ | refine QC rfl rfl ?_); (refine QX rfl rfl ?_)) | refine Qh ?_)
    refine then_i ?_
    refine awp_pre (Imp.trans (imp_freeze (id := 5) (k := 1) (es := bb.map u8A) (e := 5) rfl rfl rfl) (imp_cutk 5 (by simp [devH]) (hok_sh v l) rfl (by simp [devS])
      (sl' := [(0, .ptr 0 0), (2, .int .i64 slot), (4, .ptr 3 0), (6, .ptr 4 0), (8, .int .i64 (k : Int)), (9, .sl 1 (bb.map u8A)), (10, .int .i64 0)]) ?_)) ?_
    · repeat' (first | exact fa_nil | refine fa_cons ⟨?_, ?_⟩ ?_)
      all_goals (try first | exact rfl | exact trivial | (simp [IdsLt, IdsLtL]; done))
      · show frz 5 1 (bb.map u8A) (.own 5 0 64) = _
        simp [frz, hbl, List.take_of_length_le]
    repeat' (first | ((refine Qa rfl ?_); (first | refine Q0 ?_ | refine Q2 rfl ?_); (refine QX rfl rfl ?_)) | refine Qa rfl ?_ | refine Qh ?_ | refine Ql ?_ | refine Qm ?_ | refine Qo rfl ?_ | refine Qq rfl ?_)
    refine st_call (fun _ => rfl) rfl ?_
    refine ACalls.mono (acalls_pure (E := E0 X) (fun X => hdec_c X bb k hk20 (by omega)) (by simp [IdsLtL, IdsLt]) _) ?_
    rintro r H' ⟨rfl, rfl⟩
    first | refine nx rfl rfl ?_ | refine nx0 ?_
    cases hd : decH bb k with
    | none =>
      repeat' (first | ((refine Qa rfl ?_); (first | refine Q0 ?_ | refine Q1 ?_ | refine Q5 rfl ?_ | refine QC rfl rfl ?_ | refine QD rfl ?_ | refine QJ rfl rfl ?_ | refine QP rfl rfl rfl rfl rfl rfl ?_); (refine QX rfl rfl ?_)) | (refine Qb rfl ?_; try (refine QS rfl rfl rfl rfl rfl rfl rfl ?_; (refine QX rfl rfl ?_))) | refine Qh ?_ | refine Qi rfl ?_ | refine Ql ?_ | refine Qo rfl ?_ | refine Qp rfl ?_ | refine Qs ?_)
      refine awp_ret ?_
      exact ⟨_, rfl, rfl, rfl⟩
    | some h =>
      repeat' (first | ((refine Qa rfl ?_); (first | refine Q0 ?_ | refine Q1 ?_ | refine Q2 rfl ?_ | refine Q3 rfl rfl rfl ?_ | refine Q4 rfl rfl rfl rfl rfl ?_ | refine Q5 rfl ?_ | refine QC rfl rfl ?_ | refine QD rfl ?_ | refine QJ rfl rfl ?_); (refine QX rfl rfl ?_)) | (refine Qb rfl ?_; try (refine QS rfl rfl rfl rfl rfl rfl rfl ?_; (refine QX rfl rfl ?_))) | refine Qh ?_ | refine Ql ?_ | refine Qo rfl ?_)
      by_cases hne : h.ver = l.ver
      rotate_left
      · rw [decide_eq_true (show ((some h).getD zeroHd).ver ≠ l.ver from hne)]
        have ef : fitH l slot (some h) = none := if_neg fun hh => hne hh.1
        rw [ef]
        repeat' (first | ((refine Qa rfl ?_); (first | refine Q0 ?_ | refine Q1 ?_ | refine Q5 rfl ?_ | refine QP rfl rfl rfl rfl rfl rfl ?_); (refine QX rfl rfl ?_)) | (refine Qb rfl ?_; try (refine QS rfl rfl rfl rfl rfl rfl rfl ?_; (refine QX rfl rfl ?_))) | refine Qh ?_ | refine Qi rfl ?_ | refine Ql ?_ | refine Qo rfl ?_ | refine Qp rfl ?_ | refine Qs ?_)
        refine awp_ret ?_
        exact ⟨_, rfl, rfl, rfl⟩
      have h1 := hne
      clear hne
      rw [decide_eq_false (show ¬ ((some h).getD zeroHd).ver ≠ l.ver from fun hh => hh h1)]
      repeat' ((refine Qa rfl ?_); (first | refine Q0 ?_ | refine Q2 rfl ?_ | refine Q3 rfl rfl rfl ?_ | refine Q4 rfl rfl rfl rfl rfl ?_ | refine Q5 rfl ?_); (refine QX rfl rfl ?_))
      by_cases hne : h.lay = l.id
      rotate_left
      · rw [decide_eq_true (show ((some h).getD zeroHd).lay ≠ l.id from hne)]
        have ef : fitH l slot (some h) = none := if_neg fun hh => hne hh.2.1
        rw [ef]
        repeat' (first | ((refine Qa rfl ?_); (first | refine Q1 ?_ | refine Q5 rfl ?_ | refine QP rfl rfl rfl rfl rfl rfl ?_); (refine QX rfl rfl ?_)) | (refine Qb rfl ?_; try (refine QS rfl rfl rfl rfl rfl rfl rfl ?_; (refine QX rfl rfl ?_))) | refine Qh ?_ | refine Qi rfl ?_ | refine Ql ?_ | refine Qo rfl ?_ | refine Qp rfl ?_ | refine Qs ?_)
        refine awp_ret ?_
        exact ⟨_, rfl, rfl, rfl⟩
      have h2 := hne
      clear hne
      rw [decide_eq_false (show ¬ ((some h).getD zeroHd).lay ≠ l.id from fun hh => hh h2)]
      repeat' (first | ((refine Qa rfl ?_); (first | refine Q0 ?_ | refine Q2 rfl ?_ | refine Q3 rfl rfl rfl ?_ | refine Q4 rfl rfl rfl rfl rfl ?_ | refine Q5 rfl ?_); (refine QX rfl rfl ?_)) | refine Qh ?_ | refine Qs ?_)
      by_cases hne : h.slot = slot
      rotate_left
      · rw [decide_eq_true (show ((some h).getD zeroHd).slot ≠ slot from hne)]
        have ef : fitH l slot (some h) = none := if_neg fun hh => hne hh.2.2
        rw [ef]
        repeat' (first | ((refine Qa rfl ?_); (first | refine Q1 ?_ | refine QP rfl rfl rfl rfl rfl rfl ?_); (refine QX rfl rfl ?_)) | (refine Qb rfl ?_; try (refine QS rfl rfl rfl rfl rfl rfl rfl ?_; (refine QX rfl rfl ?_))) | refine Qh ?_ | refine Ql ?_ | refine Qo rfl ?_ | refine Qp rfl ?_ | refine Qs ?_)
        refine awp_ret ?_
        exact ⟨_, rfl, rfl, rfl⟩
      rw [decide_eq_false (show ¬ ((some h).getD zeroHd).slot ≠ slot from fun hh => hh hne)]
      have ef : fitH l slot (some h) = some h := if_pos ⟨h1, h2, hne⟩
      rw [ef]
      repeat' (first | ((refine Qa rfl ?_); (first | refine Q1 ?_ | refine Q3 rfl rfl rfl ?_); (refine QX rfl rfl ?_)) | (refine Qb rfl ?_; try (refine QS rfl rfl rfl rfl rfl rfl rfl ?_; (refine QX rfl rfl ?_))) | refine Qh ?_ | refine Ql ?_ | refine Qm ?_ | refine Qo rfl ?_ | refine Qq rfl ?_ | refine Qs ?_)
      refine awp_ret ?_
      exact ⟨_, rfl, rfl, rfl⟩
  · rw [if_pos hc]
    refine st_call (fun _ => rfl) rfl ?_
    refine ACalls.mono (hrd [some (.cells [.int .i64 l.id, .int .i64 l.ver, .int .i64 l.rs, .int .i64 l.regs] 29), some zOh]) ?_
    rintro r H' (⟨-, rfl, rfl⟩ | ⟨hc2, -, -⟩)
    rotate_left
    · exact absurd hc2 hc
    first | refine nx rfl rfl ?_ | refine nx0 ?_
    repeat' (first | ((refine Qa rfl ?_); (first | refine Q0 ?_ | refine Q1 ?_ | refine Q2 rfl ?_ | refine QC rfl rfl ?_); (refine QX rfl rfl ?_)) | refine Qh ?_ | refine Ql ?_ | refine Qo rfl ?_ | refine Qs ?_)
    refine awp_cond_dec rfl (fun h4 => ?_) (fun h4 => ?_)
    · skip
      repeat' (first | ((refine Qa rfl ?_); (first | refine Q1 ?_ | refine QP rfl rfl rfl rfl rfl rfl ?_); (refine QX rfl rfl ?_)) | (refine Qb rfl ?_; try (refine QS rfl rfl rfl rfl rfl rfl rfl ?_; (refine QX rfl rfl ?_))) | refine Qh ?_ | refine Ql ?_ | refine Qo rfl ?_ | refine Qs ?_)
      refine awp_ret ?_
      exact ⟨_, rfl, rfl, rfl⟩
    · exact absurd (by omega) hc
end Go.Abs
namespace Go.Abs
def iA (n : Int) : AV := .int .i64 n
theorem ids_i (l : List Int) {n : Nat} : IdsLtL n (l.map iA) := idsL_map fun _ => trivial
theorem oneEs_i (l : List Int) : OneEs (l.map iA) := fun y hy => by
  obtain ⟨b, _, rfl⟩ := List.mem_map.1 hy; exact ⟨rfl, rfl⟩
def slotOk (l : La) (slot : Int) : Prop := formB l = true ∧ 0 ≤ slot ∧ slot < l.regs
def secsN (l : La) (slot : Int) (n : Nat) : List Int := (List.range n).map fun (i : Nat) => 74 + slot * l.rs + (i : Int)
attribute [local irreducible] AStep aops AWp Nx awM
end Go.Abs
namespace Go.Abs
/-- A sector of an image; none if it does not exist. -/
def secB (img : List UInt8) (s : Int) : List UInt8 := if s < 0 ∨ (img.length : Int) < s * 64 + 64 then [] else (img.drop (s.toNat * 64)).take 64
def hdrR (img : List UInt8) (l : La) (slot : Int) : Option Hd := if formB l = true ∧ 0 ≤ slot ∧ slot < l.regs then fitH l slot (decH (secB img (74 + slot * l.rs)) (74 + slot * l.rs).toNat) else none
attribute [local irreducible] AStep aops AWp Nx awM
end Go.Abs

