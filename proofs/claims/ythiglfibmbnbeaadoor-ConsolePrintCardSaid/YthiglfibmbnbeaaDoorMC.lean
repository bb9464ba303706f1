/- The borrow rule for functions that make objects: proved over frozen arguments and no objects, they may be handed slices that the caller owns; what they make lies behind the caller's objects. Joined texts, each with what its own name promises; no condition beyond those stated. -/
import Derived.Test.YthiglfibmbnbeaaDoorMB
import Derived.Below
import Derived.Lib.AppendZeros
import Derived.Laws.BytesString
import Derived.Test.YthiglfibmbnbeaaDoorProg
import Derived.KernelRfl
namespace Go.Abs
mutual
/-- Values without frozen memory. -/
def noFz : AV → Bool
  | .any | .int _ _ | .bool _ | .str _ | .nilp | .nils | .nilm | .nilf | .nili | .ptr _ _ | .pe _ _ _ | .own _ _ _ | .mp _ => true
  | .agg cs => noFzL cs
  | .tup cs => noFzL cs
  | _ => false
def noFzL : List AV → Bool
  | [] => true
  | x :: xs => noFz x && noFzL xs
end
def noFzO : AO → Bool
  | .cells cs _ => noFzL cs
  | .arr cs _ => noFzL cs
  | .map es => noFzL (es.map (·.1)) && noFzL (es.map (·.2))
  | .itr _ _ => true
def noFzH (h : Hp) : Bool := h.all fun o => match o with
  | none => true
  | some o => noFzO o
section
variable {sz sz2 : Cx} {m m' : Mu} {w : World}
theorem app_get {k id : Nat} {x : MS} (hk : m.length = k) (_h : id < m'.length) (hx : (m ++ m')[id + k]? = some x) : m'[id]? = some x := by
  rw [List.getElem?_append_right (by omega)] at hx
  have : id + k - m.length = id := by omega
  rwa [this] at hx
theorem Own.shift {A : Option Addr} {c id lo k : Nat} (hz : sz2.sz = sz.sz) (hk : m.length = k) (h : Own sz m' w A c id lo) : Own sz2 (m ++ m') w A c (id + k) lo :=
  ⟨by simp; have := h.1; omega, fun hx => h.2.1 (app_get hk h.1 hx), fun b hb => by rw [hz]; exact h.2.2 b (app_get hk h.1 hb)⟩
theorem PtrE.shift {a : Addr} {id i off k : Nat} (hz : sz2.sz = sz.sz) (hk : m.length = k) (h : PtrE sz m' w a id i off) : PtrE sz2 (m ++ m') w a (id + k) i off :=
  ⟨by simp; have := h.1; omega, fun b hb => by rw [hz]; exact h.2 b (app_get hk h.1 hb)⟩
mutual
theorem Rel.shift {k : Nat} (hz : sz2.sz = sz.sz) (hk : m.length = k) : ∀ (x : AV) {v : Value}, noFz x = true → Rel sz m' w x v → Rel sz2 (m ++ m') w (rnA (· + k) x) v
  | .any, _, _, _ => by simp [rnA, Rel]
  | .int _ _, _, _, h | .bool _, _, _, h | .str _, _, _, h | .nilp, _, _, h | .nils, _, _, h | .nilm, _, _, h | .nilf, _, _, h | .nili, _, _, h => by simpa [Rel, rnA] using h
  | .ptr id off, _, _, h => by
    simp only [Rel, rnA] at h ⊢
    obtain ⟨a, h1, h2, h3⟩ := h
    exact ⟨a, h1, by simp; omega, fun b hb => h3 b (app_get hk h2 hb)⟩
  | .pe id i off, _, _, h => by
    simp only [Rel, rnA] at h ⊢
    obtain ⟨a, h1, h2⟩ := h
    exact ⟨a, h1, h2.shift hz hk⟩
  | .own id lo n, _, _, h => by
    simp only [Rel, rnA] at h ⊢
    obtain ⟨a, c, h1, h2, h3, h4⟩ := h
    exact ⟨a, c, h1, h2, h3, h4.shift hz hk⟩
  | .mp id, _, _, h => by
    simp only [Rel, rnA] at h ⊢
    obtain ⟨r, h1, h2, h3⟩ := h
    exact ⟨r, h1, by simp; omega, fun b hb => h3 b (app_get hk h2 hb)⟩
  | .agg cs, _, hs, h => by
    simp only [Rel, rnA] at h ⊢; simp only [noFz] at hs
    obtain ⟨us, h1, h2⟩ := h
    exact ⟨us, h1, RelL.shift hz hk cs hs h2⟩
  | .tup cs, _, hs, h => by
    simp only [Rel, rnA] at h ⊢; simp only [noFz] at hs
    obtain ⟨us, h1, h2⟩ := h
    exact ⟨us, h1, RelL.shift hz hk cs hs h2⟩
  | .fp _, _, hs, _ | .sl _ _, _, hs, _ | .clo _ _ _, _, hs, _ | .ifc _ _, _, hs, _ | .gp _ _, _, hs, _ => by simp [noFz] at hs
theorem RelL.shift {k : Nat} (hz : sz2.sz = sz.sz) (hk : m.length = k) : ∀ (xs : List AV) {vs : List Value}, noFzL xs = true → RelL sz m' w xs vs → RelL sz2 (m ++ m') w (rnL (· + k) xs) vs
  | [], _, _, h => by simpa [RelL, rnL] using h
  | x :: xs, _, hs, h => by
    simp only [RelL, rnL] at h ⊢; simp only [noFzL, Bool.and_eq_true] at hs
    obtain ⟨u, r, h1, h2, h3⟩ := h
    exact ⟨u, r, h1, Rel.shift hz hk x hs.1 h2, RelL.shift hz hk xs hs.2 h3⟩
end
theorem OB.shift {k : Nat} (hz : sz2.sz = sz.sz) (hk : m.length = k) {o : AO} {x : MS} (hs : noFzO o = true) (h : OB sz m' w o x) : OB sz2 (m ++ m') w (rnO (· + k) o) x := by
  cases x with
  | dead => cases o <;> exact h.elim
  | nil =>
    cases o with
    | cells cs e => exact h.elim
    | map es => exact h.elim
    | itr s p => exact h.elim
    | arr es e =>
      simp only [OB] at h
      subst h
      rfl
  | blk b =>
    cases o with
    | cells cs e =>
      obtain ⟨us, h2, h3⟩ := h
      exact ⟨us, h2, RelL.shift hz hk _ hs h3⟩
    | arr es e =>
      obtain ⟨us, vs, h2, h3, h4, h5⟩ := h
      exact ⟨us, vs, h2, RelL.shift hz hk _ hs h3, by rw [hz]; exact h4, h5⟩
    | map es =>
      obtain ⟨us, clock, h3, h4, h5, h6, h7⟩ := h
      simp only [noFzO, Bool.and_eq_true] at hs
      refine ⟨us, clock, h3, h4, h5, ?_, ?_⟩
      · show RelL _ _ _ ((_ : List (AV × AV)).map (·.1)) _
        rw [rnO_fst]; exact RelL.shift hz hk _ hs.1 h6
      · show RelL _ _ _ ((_ : List (AV × AV)).map (·.2)) _
        rw [rnO_snd]; exact RelL.shift hz hk _ hs.2 h7
    | itr s p => exact h
end
end Go.Abs
namespace Go.Abs
section
variable {E : Env} {ρ : Operand → AV} {H : Hp} {K : AV → Hp → Prop} {d : Option Nat} {ty : TypeId} {pos : String} {after : Array Edge} {g : Option (Nat × Bool)}
theorem st_slo {x : Operand} {lo hi : Option Operand} {t e e' : TypeId} {id o n : Nat} {es : List AV} {l h lo' n' : Nat} (hl : Bnd ρ lo 0 l) (hh : Bnd ρ hi n h) (hlh : l ≤ h) (hle : h ≤ n) (e1 : o + l = lo') (e2 : h - l = n')
    (ht : Nat.blt t E.n = true) (htk : (E.ti t).k = .sl e) (he : Nat.blt e E.n = true) (he' : Nat.blt e' E.n = true)
    (hx : ρ x = .own id o n) (ho : H[id]? = some (some (.arr es e'))) (hk : Nat.beq (E.ti e).sz (E.ti e').sz = true) (hK : K (.own id lo' n') H) :
    AStep E ⟨d, .slice t x lo hi none, ty, pos, after, g⟩ ρ H K := st_slice_own ht htk he he' hx ho hk hl hh hlh hle (by rw [e1, e2]; exact hK)
theorem st_sls {α : Type} {f : α → AV} {xs : List α} {x : Operand} {lo hi : Option Operand} {t e : TypeId} {k : Nat} {l h : Nat} {ys : List α} (hl : Bnd ρ lo 0 l) (hh : Bnd ρ hi (xs.map f).length h) (hlh : l ≤ h) (hle : h ≤ xs.length) (e1 : (xs.take h).drop l = ys)
    (ht : Nat.blt t E.n = true) (htk : (E.ti t).k = .sl e) (he : Nat.blt e E.n = true) (hx : ρ x = .sl k (xs.map f))
    (hk : Nat.beq (E.ti e).sz k = true) (hK : K (.sl k (ys.map f)) H) :
    AStep E ⟨d, .slice t x lo hi none, ty, pos, after, g⟩ ρ H K := st_slice_sl ht htk he hx hk hl hh hlh (by simpa using hle) (by rw [← List.map_take, ← List.map_drop, e1]; exact hK)
theorem st_ixo {x i : Operand} {t e e' : TypeId} {id lo len p : Nat} {es : List AV} {kk : IntKind} {n : Int} {j : Nat} (hn : n = (j : Int)) (hj : j < len) (e1 : lo + j = p) (ht : Nat.blt t E.n = true) (htk : (E.ti t).k = .sl e) (he : Nat.blt e E.n = true) (he' : Nat.blt e' E.n = true)
    (hx : ρ x = .own id lo len) (hi : ρ i = .int kk n) (ho : H[id]? = some (some (.arr es e'))) (hk : Nat.beq (E.ti e).sz (E.ti e').sz = true) (h : K (.pe id p 0) H) :
    AStep E ⟨d, .indexAddr t x i, ty, pos, after, g⟩ ρ H K := st_index_own ht htk he he' hx hi ho hk hn hj (by rw [e1]; exact h)
theorem st_app {t t' e : TypeId} {x y : Operand} {z es new out : List AV} {oid : Option Nat} {n : Nat} (hd : dstA H e (ρ x) = some (oid, es)) (hs : srcA E H (E.ti e).sz (ρ y) = some new) (hone : OneEs new) (e1 : es ++ new = out) (e2 : es.length + new.length = n)
    (hm : n ≤ maxLen) (hb : n * (E.ti e).bt ≤ 140737488355328) (ht : Nat.blt t E.n = true) (hk : (E.ti t).k = .sl e) (ht' : Nat.blt t' E.n = true) (hk' : (E.ti t').k = .sl e) (he : Nat.blt e E.n = true) (hz : (E.ti e).z = some z)
    (hzl : Nat.beq z.length (E.ti e).sz = true) (hz0 : Nat.blt 0 (E.ti e).sz = true) (h : K (.own H.length 0 n) (dropId H oid ++ [some (.arr out e)])) :
    AStep E ⟨d, .call ⟨.builtin .append, #[x, y], #[t, t']⟩, ty, pos, after, g⟩ ρ H K := st_append ht hk ht' hk' he hz hzl hz0 hd hs hone (by rw [e2]; exact hm) (by rw [e2]; exact hb) (by rw [e1, e2]; exact h)
end
end Go.Abs
namespace Go.Abs
end Go.Abs
namespace Go.Abs
open Go.RowKit
theorem ext_below {m' : Mu} {w w' : World} (hb : Below w.heap.size w w') (hm : ∀ b, MS.blk b ∈ m' → w.heap.size ≤ b) : Ext [] w m' w' where
  os := hb.os
  tape := hb.tape
  output := hb.output
  size := hb.size
  keep := fun b h _ => hb.block b h
  fresh := fun b h h1 => absurd (hm b h1) (by omega)
  len := Nat.zero_le _
  ids := fun id _ h => absurd h (Nat.not_lt_zero _)
  shape := fun b s h => by
    have hlt : b < w.heap.size := by
      rcases Nat.lt_or_ge b w.heap.size with h1 | h1
      · exact h1
      · simp only [World.shape?, Array.getElem?_eq_none h1] at h; cases h
    simp only [World.shape?] at h ⊢
    rw [hb.block b hlt]; exact h
end Go.Abs
namespace Go.Abs
def frzP (id : Nat) (cs : List AV) : AV → AV
  | .ptr i off => if i = id ∧ off = 0 then .fp cs else .ptr i off
  | v => v
section
variable {E : Env} {N n0 : Nat} {s : St}
theorem imp_freezeP {id : Nat} {cs : List AV} {e : TypeId} (ho : s.hp[id]? = some (some (.cells cs e))) :
    Imp E N n0 s ⟨s.sl.map fun p => (p.1, frzP id cs p.2), s.hp.set id none⟩ := by
  intro m0 w0 hn m w a hext hs
  have hid : id < s.hp.length := (List.getElem?_eq_some_iff.1 ho).1
  have hidm : id < m.length := by rw [hs.sim.len]; exact hid
  have hget : ∀ (i : Nat) (x : MS), x ≠ .dead → (m.set id .dead)[i]? = some x → m[i]? = some x ∧ i ≠ id := fun i x hx h => by
    by_cases hi : id = i
    · subst hi; rw [List.getElem?_set_self hidm] at h; cases h; exact absurd rfl hx
    · rw [List.getElem?_set_ne hi] at h; exact ⟨h, Ne.symm hi⟩
  have hsub : ∀ b, MS.blk b ∈ m.set id .dead → MS.blk b ∈ m := fun b hb => by
    obtain ⟨i, hi, he⟩ := List.getElem_of_mem hb
    exact List.mem_of_getElem? (hget i _ (by simp) (by rw [List.getElem?_eq_getElem hi, he])).1
  have hc : Cmp some E.cx E.cx m (m.set id .dead) := ⟨rfl, fun i j hij hi => by
    cases hij
    exact ⟨by simpa using hi, fun x hx h => (hget _ x hx h).1⟩, fun b h => h.imp (hsub b) (fun h => h)⟩
  refine ⟨m.set id .dead, ⟨hext.os, hext.tape, hext.output, hext.size, hext.keep, fun b hb h => hext.fresh b hb (hsub b h), by simpa using hext.len, fun i x hi hx h => hext.ids i x hi hx (hget i x hx h).1, hext.shape⟩, ?_⟩
  obtain ⟨q, hq, hob⟩ := hs.sim.live id _ ho
  refine ⟨hs.ok, fun j => ?_, hs.size, hs.defers, ?_, fun g => Rel.cmp_all hc (hs.glob g)⟩
  · show Abs.Rel E.cx _ w (get (s.sl.map fun p => (p.1, frzP id cs p.2)) j) _
    rw [get_map _ rfl]
    have hj := hs.slots j
    generalize get s.sl j = v at hj ⊢
    generalize a.tmps.getD j undef = u at hj ⊢
    cases v with
    | ptr i off =>
      simp only [frzP]
      split
      · rename_i hcond
        obtain ⟨rfl, rfl⟩ := hcond
        simp only [Env.Rel, Abs.Rel] at hj ⊢
        obtain ⟨ad, h1, h2, h3⟩ := hj
        cases q with
        | dead => exact hob.elim
        | nil => exact hob.elim
        | blk b =>
          obtain ⟨us, h7, h8⟩ := hob
          have hA := h3 b hq
          subst hA
          refine ⟨_, us.toList, h1, RelL.cmp hc (n := m.length) (fun _ _ => rfl) _ (RelL.ids _ h8) h8, fun _ => ⟨_, rfl, (Array.getElem?_eq_some_iff.1 h7).1, fun hm => ?_, hs.sim.disj b (List.mem_of_getElem? hq), fun j u hu => ?_⟩⟩
          · obtain ⟨i2, hi2, he2⟩ := List.getElem_of_mem hm
            obtain ⟨h14, h15⟩ := hget i2 (.blk b) (by simp) (by rw [List.getElem?_eq_getElem hi2, he2])
            exact h15 (hs.sim.inj i2 i b h14 hq)
          · have hadd : (⟨b, 0, none⟩ : Addr).add j = ⟨b, 0 + j, none⟩ := by unfold Addr.add; split <;> simp_all
            rw [hadd, cell_of_row w b _ us e (0, 0) h7]
            simpa using hu
      · exact Rel.cmp_all hc hj
    | _ => exact Rel.cmp_all hc hj
  · refine ⟨by simp [hs.sim.len], fun i o hi => ?_, fun i hi => ?_, fun i j b hi hj => ?_, hs.sim.xlt, fun b hb => hs.sim.disj b (hsub b hb)⟩
    · by_cases h : id = i
      · subst h; rw [List.getElem?_set_self hid] at hi; cases hi
      · rw [List.getElem?_set_ne h] at hi
        obtain ⟨x, h1, h2⟩ := hs.sim.live i o hi
        exact ⟨x, by rw [List.getElem?_set_ne h]; exact h1, h2.cmp hc (n := m.length) (fun _ _ => rfl) h2.ids⟩
    · by_cases h : id = i
      · subst h; rw [List.getElem?_set_self hidm]
      · rw [List.getElem?_set_ne h] at hi ⊢
        exact hs.sim.dead i hi
    · exact hs.sim.inj i j b (hget i _ (by simp) hi).1 (hget j _ (by simp) hj).1

end
section
variable {E : Env} {ρ : Operand → AV} {H : Hp} {K : AV → Hp → Prop} {d : Option Nat} {ty : TypeId} {pos : String} {after : Array Edge} {g : Option (Nat × Bool)}
end
end Go.Abs
namespace Go.Abs
theorem ACalls.imp {E : Env} {f : FuncId} {args : List AV} {H : Hp} {R R' : AV → Hp → Prop} (h : ACalls E f args H R)
    (k : ∀ r H', R r H' → ∃ r' H'', R' r' H'' ∧ Imp E 1 H.length ⟨[(0, r)], H'⟩ ⟨[(0, r')], H''⟩) : ACalls E f args H R' := by
  refine ⟨h.1, fun m w vs hok hglob hargs hsim => (h.2 m w vs hok hglob hargs hsim).mono ?_⟩
  rintro e w' ⟨v, m', r, H', rfl, hext, hr, hs, hR⟩
  obtain ⟨r', H'', hR', hi⟩ := k r H' hR
  obtain ⟨m2, h1, h2⟩ := hi m w hsim.len m' w' { tmps := #[v], defers := [] } hext ⟨hok, fun k => by
    rw [get_cons]
    split
    · rename_i hk; subst hk; exact hr
    · exact (by simp [get, Env.Rel, Abs.Rel]), rfl, rfl, hs, fun g => (hglob g).ext hext⟩
  refine ⟨v, m2, r', H'', rfl, h1, ?_, h2.sim, hR'⟩
  have := h2.slots 0
  rw [get_cons, if_pos rfl] at this
  exact this
end Go.Abs
namespace Go.Abs
section
variable {E : Env} {ρ : Operand → AV} {H : Hp} {K : AV → Hp → Prop} {d : Option Nat} {ty : TypeId} {pos : String} {after : Array Edge} {g : Option (Nat × Bool)}
end
end Go.Abs
namespace Go.Abs
section
variable {E : Env} {ρ : Operand → AV} {H : Hp} {K : AV → Hp → Prop} {d : Option Nat} {ty : TypeId} {pos : String} {after : Array Edge} {g : Option (Nat × Bool)}
theorem foldl_push (l : List UInt8) : ∀ s : ByteArray, (l.map fun b => (b.toNat : Int)).foldl (fun r n => r.push (UInt8.ofNat n.toNat)) s = ⟨s.data ++ l.toArray⟩ := by
  induction l with
  | nil => intro s; simp
  | cons b l ih =>
    intro s
    simp only [List.map_cons, List.foldl_cons]
    rw [ih]
    have hb : UInt8.ofNat ((b.toNat : Int).toNat) = b := by simp
    rw [hb]
    simp [ByteArray.push]
theorem relL_u8v {sz : Cx} {m : Mu} {w : World} : ∀ {l : List UInt8} {vs : List Value}, RelL sz m w (l.map u8A) vs → vs = l.map fun b => Value.int .u8 b.toNat
  | [], vs, h => by simpa [RelL] using h
  | b :: l, vs, h => by
    obtain ⟨v, r, rfl, h1, h2⟩ := relL_cons.1 h
    simp only [u8A, Abs.Rel] at h1
    rw [h1, relL_u8v h2]; rfl
theorem st_bstr {x : Operand} {t u e : TypeId} {l : List UInt8} (hx : srcA E H 1 (ρ x) = some (l.map u8A)) (ht : Nat.blt t E.n = true) (hkt : (E.ti t).k = .sl e) (hu : Nat.blt u E.n = true) (hk : (E.ti u).k = .str) (he : Nat.blt e E.n = true) (hke : (E.ti e).k = .int .u8)
    (h : K (.str l) H) : AStep E ⟨d, .convert t u x, ty, pos, after, g⟩ ρ H K := by
  refine step_same _ (fun m w a hok hr hsim => ⟨.string ⟨l.toArray⟩, ?_, by simp [Env.Rel, Abs.Rel]⟩) h
  obtain ⟨A, c, vs, h1, h2, h3, h4, h5⟩ := src_spec hok hsim (hr x) hx
  have hvs := relL_u8v h3
  subst hvs
  rw [flat_one (u8_one l)] at h5
  have hu1 := run_underlying (w := w) (tk_sl hok ht hkt)
  have hu2 := run_underlying (w := w) (tk_str hok hu hk)
  have hu3 := run_underlying (w := w) (tk_int hok he hke)
  have hb : (Conv.bytesToString (a.eval x)).run E.P w = .ok (.string ⟨l.toArray⟩) w := by
    rw [h1, List.length_map]
    cases A with
    | none =>
      have hl : l = [] := by
        rcases l with _ | ⟨b, l⟩
        · rfl
        · obtain ⟨a, ha, _⟩ := h5 (by simp)
          cases ha
      subst hl
      simp [Conv.bytesToString, Sem.run_pure]
      rfl
    | some ad =>
      have hc : ∀ (j : Nat) (u : Value), (l.map fun b => Value.int .u8 b.toNat)[j]? = some u → w.cell? (ad.add j) = some u := fun j u hj => by
        obtain ⟨a, ha, hcell⟩ := h5 (by intro h0; rw [h0] at hj; simp at hj)
        cases ha
        exact hcell j u hj
      have hrun := run_cells (E := E) hc
      have h6 : (l.map fun b => Value.int .u8 b.toNat) = (l.map fun b => (b.toNat : Int)).map (Value.int .u8) := by simp
      rw [h6] at hrun
      simp only [List.length_map] at hrun
      have := run_bytesToString w ad l.length c (l.map fun b => (b.toNat : Int)) hrun
      rw [this, foldl_push]
      simp
  simp only [execOp, convert, Sem.run_bind, hu1, hu2, hu3, Result.andThen_ok, h1]
  rw [h1] at hb
  generalize hcc : c = c' at *
  cases A with
  | none => simp only [Result.andThen_ok, hb, Sem.run_pure]
  | some ad => simp only [Result.andThen_ok, hb, Sem.run_pure]
end
section
variable {E : Env} {N n0 : Nat} {sl : List (Nat × AV)} {hp : Hp}
end
end Go.Abs
namespace Go.Abs

def ti0 (t : Nat) : Ty := cond (Nat.blt t 8)
 (cond (Nat.blt t 4)
 (cond (Nat.blt t 2)
 (cond (Nat.blt t 1)
 (⟨1, 0, .other, (some [.any]), false⟩)
 (⟨1, 8, .fn, (some [.nilf]), false⟩))
 (cond (Nat.blt t 3)
 (⟨1, 8, (.int .i64), (some [.int .i64 0]), false⟩)
 (⟨1, 8, (.int .i64), (some [.int .i64 0]), false⟩)))
 (cond (Nat.blt t 6)
 (cond (Nat.blt t 5)
 (⟨1, 1, .bool, (some [.bool false]), false⟩)
 (⟨1, 1, (.int .u8), (some [.int .u8 0]), false⟩))
 (cond (Nat.blt t 7)
 (⟨1, 1, (.int .u8), (some [.int .u8 0]), false⟩)
 (⟨4, 24, (.struct [(0, 2), (1, 3), (2, 4), (3, 6)]), (some [.int .i64 0, .int .i64 0, .bool false, .int .u8 0]), true⟩))))
 (cond (Nat.blt t 12)
 (cond (Nat.blt t 10)
 (cond (Nat.blt t 9)
 (⟨4, 24, (.struct [(0, 2), (1, 3), (2, 4), (3, 6)]), (some [.int .i64 0, .int .i64 0, .bool false, .int .u8 0]), true⟩)
 (⟨1, 16, .str, (some [.str []]), false⟩))
 (cond (Nat.blt t 11)
 (⟨1, 16, .str, (some [.str []]), false⟩)
 (⟨1, 16, .str, (some [.str []]), false⟩)))
 (cond (Nat.blt t 14)
 (cond (Nat.blt t 13)
 (⟨1, 8, (.int .u64), (some [.int .u64 0]), false⟩)
 (⟨2, 24, (.struct [(0, 9), (1, 12)]), (some [.str [], .int .u64 0]), false⟩))
 (cond (Nat.blt t 15)
 (⟨2, 24, (.struct [(0, 9), (1, 12)]), (some [.str [], .int .u64 0]), false⟩)
 (⟨1, 8, (.ptr 130), (some [.nilp]), false⟩))))
def ti1 (t : Nat) : Ty := cond (Nat.blt t 24)
 (cond (Nat.blt t 20)
 (cond (Nat.blt t 18)
 (cond (Nat.blt t 17)
 (⟨1, 8, (.ptr 133), (some [.nilp]), false⟩)
 (⟨1, 8, (.ptr 141), (some [.nilp]), false⟩))
 (cond (Nat.blt t 19)
 (⟨1, 8, (.struct [(0, 17)]), (some [.nilp]), false⟩)
 (⟨1, 8, (.struct [(0, 17)]), (some [.nilp]), false⟩)))
 (cond (Nat.blt t 22)
 (cond (Nat.blt t 21)
 (⟨1, 16, .ifc, (some [.nili]), false⟩)
 (⟨1, 4, (.int .i32), (some [.int .i32 0]), false⟩))
 (cond (Nat.blt t 23)
 (⟨1, 24, (.sl 5), (some [.nils]), false⟩)
 (⟨1, 24, (.sl 4), (some [.nils]), false⟩))))
 (cond (Nat.blt t 28)
 (cond (Nat.blt t 26)
 (cond (Nat.blt t 25)
 (⟨1, 24, (.sl 47), (some [.nils]), false⟩)
 (⟨8, 128, (.struct [(0, 3), (1, 22), (2, 22), (3, 3), (4, 3), (5, 3), (6, 23), (7, 24)]), (some [.int .i64 0, .nils, .nils, .int .i64 0, .int .i64 0, .int .i64 0, .nils, .nils]), true⟩))
 (cond (Nat.blt t 27)
 (⟨8, 128, (.struct [(0, 3), (1, 22), (2, 22), (3, 3), (4, 3), (5, 3), (6, 23), (7, 24)]), (some [.int .i64 0, .nils, .nils, .int .i64 0, .int .i64 0, .int .i64 0, .nils, .nils]), true⟩)
 (⟨1, 0, .other, (some [.any]), false⟩)))
 (cond (Nat.blt t 30)
 (cond (Nat.blt t 29)
 (⟨1, 8, .fn, (some [.nilf]), false⟩)
 (⟨1, 8, .fn, (some [.nilf]), false⟩))
 (cond (Nat.blt t 31)
 (⟨1, 8, .fn, (some [.nilf]), false⟩)
 (⟨1, 8, .fn, (some [.nilf]), false⟩))))
def ti2 (t : Nat) : Ty := cond (Nat.blt t 40)
 (cond (Nat.blt t 36)
 (cond (Nat.blt t 34)
 (cond (Nat.blt t 33)
 (⟨1, 8, .fn, (some [.nilf]), false⟩)
 (⟨1, 0, .other, (some [.any]), false⟩))
 (cond (Nat.blt t 35)
 (⟨1, 8, .fn, (some [.nilf]), false⟩)
 (⟨1, 8, .fn, (some [.nilf]), false⟩)))
 (cond (Nat.blt t 38)
 (cond (Nat.blt t 37)
 (⟨1, 8, .fn, (some [.nilf]), false⟩)
 (⟨1, 8, (.int .i64), (some [.int .i64 0]), false⟩))
 (cond (Nat.blt t 39)
 (⟨1, 8, .fn, (some [.nilf]), false⟩)
 (⟨1, 8, .fn, (some [.nilf]), false⟩))))
 (cond (Nat.blt t 44)
 (cond (Nat.blt t 42)
 (cond (Nat.blt t 41)
 (⟨1, 8, .fn, (some [.nilf]), false⟩)
 (⟨1, 24, (.sl 9), (some [.nils]), false⟩))
 (cond (Nat.blt t 43)
 (⟨1, 8, .fn, (some [.nilf]), false⟩)
 (⟨1, 8, .fn, (some [.nilf]), false⟩)))
 (cond (Nat.blt t 46)
 (cond (Nat.blt t 45)
 (⟨1, 8, .fn, (some [.nilf]), false⟩)
 (⟨1, 8, .fn, (some [.nilf]), false⟩))
 (cond (Nat.blt t 47)
 (⟨2, 16, (.struct [(0, 3), (1, 3)]), (some [.int .i64 0, .int .i64 0]), true⟩)
 (⟨2, 16, (.struct [(0, 3), (1, 3)]), (some [.int .i64 0, .int .i64 0]), true⟩))))
def ti3 (t : Nat) : Ty := cond (Nat.blt t 56)
 (cond (Nat.blt t 52)
 (cond (Nat.blt t 50)
 (cond (Nat.blt t 49)
 (⟨1, 8, .fn, (some [.nilf]), false⟩)
 (⟨1, 8, .fn, (some [.nilf]), false⟩))
 (cond (Nat.blt t 51)
 (⟨1, 8, .fn, (some [.nilf]), false⟩)
 (⟨1, 8, .fn, (some [.nilf]), false⟩)))
 (cond (Nat.blt t 54)
 (cond (Nat.blt t 53)
 (⟨1, 8, .fn, (some [.nilf]), false⟩)
 (⟨1, 8, .fn, (some [.nilf]), false⟩))
 (cond (Nat.blt t 55)
 (⟨1, 8, .fn, (some [.nilf]), false⟩)
 (⟨1, 8, .fn, (some [.nilf]), false⟩))))
 (cond (Nat.blt t 60)
 (cond (Nat.blt t 58)
 (cond (Nat.blt t 57)
 (⟨1, 8, .fn, (some [.nilf]), false⟩)
 (⟨1, 8, .fn, (some [.nilf]), false⟩))
 (cond (Nat.blt t 59)
 (⟨0, 0, (.struct []), (some []), true⟩)
 (⟨0, 0, (.struct []), (some []), true⟩)))
 (cond (Nat.blt t 62)
 (cond (Nat.blt t 61)
 (⟨1, 8, .fn, (some [.nilf]), false⟩)
 (⟨1, 0, .other, (some [.any]), false⟩))
 (cond (Nat.blt t 63)
 (⟨1, 8, .fn, (some [.nilf]), false⟩)
 (⟨1, 0, .other, (some [.any]), false⟩))))
def ti4 (t : Nat) : Ty := cond (Nat.blt t 72)
 (cond (Nat.blt t 68)
 (cond (Nat.blt t 66)
 (cond (Nat.blt t 65)
 (⟨1, 8, .fn, (some [.nilf]), false⟩)
 (⟨1, 0, .other, (some [.any]), false⟩))
 (cond (Nat.blt t 67)
 (⟨1, 8, .fn, (some [.nilf]), false⟩)
 (⟨1, 0, .other, (some [.any]), false⟩)))
 (cond (Nat.blt t 70)
 (cond (Nat.blt t 69)
 (⟨1, 8, .fn, (some [.nilf]), false⟩)
 (⟨1, 8, (.ptr 71), (some [.nilp]), false⟩))
 (cond (Nat.blt t 71)
 (⟨2, 32, (.struct [(0, 69), (1, 22)]), (some [.nilp, .nils]), true⟩)
 (⟨2, 32, (.struct [(0, 69), (1, 22)]), (some [.nilp, .nils]), true⟩))))
 (cond (Nat.blt t 76)
 (cond (Nat.blt t 74)
 (cond (Nat.blt t 73)
 (⟨1, 8, .fn, (some [.nilf]), false⟩)
 (⟨1, 16, .ifc, (some [.nili]), false⟩))
 (cond (Nat.blt t 75)
 (⟨1, 16, .ifc, (some [.nili]), false⟩)
 (⟨1, 0, .other, (some [.any]), false⟩)))
 (cond (Nat.blt t 78)
 (cond (Nat.blt t 77)
 (⟨1, 8, .fn, (some [.nilf]), false⟩)
 (⟨1, 8, .fn, (some [.nilf]), false⟩))
 (cond (Nat.blt t 79)
 (⟨1, 8, .fn, (some [.nilf]), false⟩)
 (⟨1, 8, .fn, (some [.nilf]), false⟩))))
def ti5 (t : Nat) : Ty := cond (Nat.blt t 88)
 (cond (Nat.blt t 84)
 (cond (Nat.blt t 82)
 (cond (Nat.blt t 81)
 (⟨1, 8, .fn, (some [.nilf]), false⟩)
 (⟨1, 8, .fn, (some [.nilf]), false⟩))
 (cond (Nat.blt t 83)
 (⟨1, 8, (.int .u64), (some [.int .u64 0]), false⟩)
 (⟨1, 8, .fn, (some [.nilf]), false⟩)))
 (cond (Nat.blt t 86)
 (cond (Nat.blt t 85)
 (⟨1, 0, .other, (some [.any]), false⟩)
 (⟨1, 8, .fn, (some [.nilf]), false⟩))
 (cond (Nat.blt t 87)
 (⟨1, 8, .fn, (some [.nilf]), false⟩)
 (⟨1, 8, .fn, (some [.nilf]), false⟩))))
 (cond (Nat.blt t 92)
 (cond (Nat.blt t 90)
 (cond (Nat.blt t 89)
 (⟨1, 8, .fn, (some [.nilf]), false⟩)
 (⟨1, 8, (.ptr 5), (some [.nilp]), false⟩))
 (cond (Nat.blt t 91)
 (⟨1, 8, .fn, (some [.nilf]), false⟩)
 (⟨1, 8, .fn, (some [.nilf]), false⟩)))
 (cond (Nat.blt t 94)
 (cond (Nat.blt t 93)
 (⟨256, 256, (.arr 256 4), (some (List.replicate 256 (.bool false))), false⟩)
 (⟨256, 256, (.arr 256 4), (some (List.replicate 256 (.bool false))), false⟩))
 (cond (Nat.blt t 95)
 (⟨1, 0, .other, (some [.any]), false⟩)
 (⟨1, 8, .fn, (some [.nilf]), false⟩))))
def ti6 (t : Nat) : Ty := cond (Nat.blt t 104)
 (cond (Nat.blt t 100)
 (cond (Nat.blt t 98)
 (cond (Nat.blt t 97)
 (⟨1, 8, .fn, (some [.nilf]), false⟩)
 (⟨1, 8, (.ptr 93), (some [.nilp]), false⟩))
 (cond (Nat.blt t 99)
 (⟨1, 0, .other, (some [.any]), false⟩)
 (⟨1, 8, .fn, (some [.nilf]), false⟩)))
 (cond (Nat.blt t 102)
 (cond (Nat.blt t 101)
 (⟨1, 8, .other, (some [.nilp]), false⟩)
 (⟨1, 8, .fn, (some [.nilf]), false⟩))
 (cond (Nat.blt t 103)
 (⟨1, 8, .fn, (some [.nilf]), false⟩)
 (⟨1, 8, .fn, (some [.nilf]), false⟩))))
 (cond (Nat.blt t 108)
 (cond (Nat.blt t 106)
 (cond (Nat.blt t 105)
 (⟨1, 8, .fn, (some [.nilf]), false⟩)
 (⟨1, 8, .fn, (some [.nilf]), false⟩))
 (cond (Nat.blt t 107)
 (⟨1, 8, .fn, (some [.nilf]), false⟩)
 (⟨24, 24, (.arr 24 5), (some (List.replicate 24 (.int .u8 0))), false⟩)))
 (cond (Nat.blt t 110)
 (cond (Nat.blt t 109)
 (⟨1, 8, (.int .u64), (some [.int .u64 0]), false⟩)
 (⟨1, 8, .fn, (some [.nilf]), false⟩))
 (cond (Nat.blt t 111)
 (⟨1, 8, .fn, (some [.nilf]), false⟩)
 (⟨1, 0, .other, (some [.any]), false⟩))))
def ti7 (t : Nat) : Ty := cond (Nat.blt t 120)
 (cond (Nat.blt t 116)
 (cond (Nat.blt t 114)
 (cond (Nat.blt t 113)
 (⟨1, 8, .fn, (some [.nilf]), false⟩)
 (⟨1, 8, .fn, (some [.nilf]), false⟩))
 (cond (Nat.blt t 115)
 (⟨256, 256, (.arr 256 5), (some (List.replicate 256 (.int .u8 0))), false⟩)
 (⟨2, 2, (.struct [(0, 5), (1, 5)]), (some [.int .u8 0, .int .u8 0]), true⟩)))
 (cond (Nat.blt t 118)
 (cond (Nat.blt t 117)
 (⟨2, 2, (.struct [(0, 5), (1, 5)]), (some [.int .u8 0, .int .u8 0]), true⟩)
 (⟨32, 32, (.arr 16 116), (some (List.replicate 32 (.int .u8 0))), false⟩))
 (cond (Nat.blt t 119)
 (⟨1, 4, (.int .u32), (some [.int .u32 0]), false⟩)
 (⟨1, 0, .other, (some [.any]), false⟩))))
 (cond (Nat.blt t 124)
 (cond (Nat.blt t 122)
 (cond (Nat.blt t 121)
 (⟨1, 8, .fn, (some [.nilf]), false⟩)
 (⟨1, 8, .fn, (some [.nilf]), false⟩))
 (cond (Nat.blt t 123)
 (⟨20, 160, (.arr 20 108), (some (List.replicate 20 (.int .u64 0))), false⟩)
 (⟨65, 65, (.arr 65 5), (some (List.replicate 65 (.int .u8 0))), false⟩)))
 (cond (Nat.blt t 126)
 (cond (Nat.blt t 125)
 (⟨1, 8, .fn, (some [.nilf]), false⟩)
 (⟨1, 8, .fn, (some [.nilf]), false⟩))
 (cond (Nat.blt t 127)
 (⟨1, 8, .fn, (some [.nilf]), false⟩)
 (⟨32, 32, (.arr 32 5), (some (List.replicate 32 (.int .u8 0))), false⟩))))
def ti8 (t : Nat) : Ty := cond (Nat.blt t 135)
 (cond (Nat.blt t 131)
 (cond (Nat.blt t 129)
 (⟨64, 64, (.arr 64 5), (some (List.replicate 64 (.int .u8 0))), false⟩)
 (cond (Nat.blt t 130)
 (⟨4, 40, (.struct [(0, 17), (1, 17), (2, 17), (3, 9)]), (some [.nilp, .nilp, .nilp, .str []]), false⟩)
 (⟨4, 40, (.struct [(0, 17), (1, 17), (2, 17), (3, 9)]), (some [.nilp, .nilp, .nilp, .str []]), false⟩)))
 (cond (Nat.blt t 133)
 (cond (Nat.blt t 132)
 (⟨0, 0, (.arr 0 16), (some []), false⟩)
 (⟨0, 0, (.struct [(0, 131)]), (some []), false⟩))
 (cond (Nat.blt t 134)
 (⟨0, 0, (.struct [(0, 131)]), (some []), false⟩)
 (⟨1, 8, .fn, (some [.nilf]), false⟩))))
 (cond (Nat.blt t 138)
 (cond (Nat.blt t 136)
 (⟨1, 1, (.int .u8), (some [.int .u8 0]), false⟩)
 (cond (Nat.blt t 137)
 (⟨1, 1, (.int .u8), (some [.int .u8 0]), false⟩)
 (⟨1, 8, .fn, (some [.nilf]), false⟩)))
 (cond (Nat.blt t 140)
 (cond (Nat.blt t 139)
 (⟨1, 4, (.int .i32), (some [.int .i32 0]), false⟩)
 (⟨1, 4, (.int .i32), (some [.int .i32 0]), false⟩))
 (cond (Nat.blt t 141)
 (⟨11, 48, (.struct [(0, 12), (1, 12), (2, 118), (3, 135), (4, 5), (5, 5), (6, 136), (7, 137), (8, 89), (9, 138), (10, 139)]), (some [.int .u64 0, .int .u64 0, .int .u32 0, .int .u8 0, .int .u8 0, .int .u8 0, .int .u8 0, .nilf, .nilp, .int .i32 0, .int .i32 0]), false⟩)
 (⟨11, 48, (.struct [(0, 12), (1, 12), (2, 118), (3, 135), (4, 5), (5, 5), (6, 136), (7, 137), (8, 89), (9, 138), (10, 139)]), (some [.int .u64 0, .int .u64 0, .int .u32 0, .int .u8 0, .int .u8 0, .int .u8 0, .int .u8 0, .nilf, .nilp, .int .i32 0, .int .i32 0]), false⟩))))
def tiT (t : Nat) : Ty := cond (Nat.blt t 64) (cond (Nat.blt t 32) (cond (Nat.blt t 16) (ti0 t) (ti1 t)) (cond (Nat.blt t 48) (ti2 t) (ti3 t))) (cond (Nat.blt t 96) (cond (Nat.blt t 80) (ti4 t) (ti5 t)) (cond (Nat.blt t 112) (ti6 t) (cond (Nat.blt t 128) (ti7 t) (ti8 t))))
theorem tiT_all : (List.range 142).map (tyOf Proofs.Tryd.prog) = (List.range 142).map (fun t => some (tiT t)) := by kernel_rfl
theorem mixed : Proofs.Tryd.prog.follows .mixedOrders = true := by kernel_rfl
theorem ti_ok (t : Nat) (ht : t < 142) : tyOf Proofs.Tryd.prog t = some (tiT t) := by
  have h := congrArg (fun l : List (Option Ty) => l[t]?) tiT_all
  simp only [List.getElem?_map, List.getElem?_range ht, Option.map_some, Option.some.injEq] at h
  exact h
end Go.Abs

