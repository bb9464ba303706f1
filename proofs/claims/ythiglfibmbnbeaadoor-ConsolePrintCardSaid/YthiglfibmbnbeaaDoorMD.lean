/- Freezing an array also where cells of objects name it. Joined texts, each with what its own name promises; no condition beyond those stated. -/
import Derived.Test.YthiglfibmbnbeaaDoorMC
import Derived.Lib.AppendZerosOnto
import Derived.Defers
import Derived.Laws.Externs
import Derived.Recover
namespace Go.Abs
def frzO (id k : Nat) (es : List AV) : AO → AO
  | .cells cs e => .cells (cs.map (frz id k es)) e
  | o => o
section
variable {E : Env} {m : Mu} {w : World} {H : Hp} {id k : Nat} {es : List AV} {e : TypeId}
theorem frz_rel (hok : E.Ok) (hsim : E.Sim m w H) (ho : H[id]? = some (some (.arr es e))) (he : Nat.blt e E.n = true) (hk : Nat.beq (E.ti e).sz k = true) {v : AV} {u : Value} (hj : E.Rel m w v u) :
    Abs.Rel E.cx (m.set id .dead) w (frz id k es v) u := by
  have hkk := Nat.eq_of_beq_eq_true hk
  have hsz2 : E.cx.sz e = (E.ti e).sz := by obtain ⟨_, _, _, _, _, _, _, _, _, h⟩ := tyOf_spec hok he; exact h
  have hid : id < H.length := (List.getElem?_eq_some_iff.1 ho).1
  have hidm : id < m.length := by rw [hsim.len]; exact hid
  have hget : ∀ (i : Nat) (x : MS), x ≠ .dead → (m.set id .dead)[i]? = some x → m[i]? = some x ∧ i ≠ id := fun i x hx h => by
    by_cases hi : id = i
    · subst hi; rw [List.getElem?_set_self hidm] at h; cases h; exact absurd rfl hx
    · rw [List.getElem?_set_ne hi] at h; exact ⟨h, Ne.symm hi⟩
  have hsub : ∀ b, MS.blk b ∈ m.set id .dead → MS.blk b ∈ m := fun b hb => by
    obtain ⟨i, hi, he⟩ := List.getElem_of_mem hb
    exact List.mem_of_getElem? (hget i _ (by simp) (by rw [List.getElem?_eq_getElem hi, he])).1
  have hc : Cmp some E.cx E.cx m (m.set id .dead) := ⟨rfl, fun i j hij hi => by
    cases hij
    exact ⟨by simpa using hi, fun x hx h => (hget _ x hx h).1⟩, fun b h => h.imp (hsub b) (fun h => h)⟩
  obtain ⟨q, hq, hob⟩ := hsim.live id _ ho
  cases v with
  | own i lo n =>
    simp only [frz]
    split
    · rename_i hcond
      obtain ⟨rfl, hle⟩ := hcond
      simp only [Env.Rel, Abs.Rel] at hj ⊢
      obtain ⟨A, c, h1, h2, h3, h4, h5, h6⟩ := hj
      have hlen : ((es.drop lo).take n).length = n := by simp; omega
      cases q with
      | dead => exact hob.elim
      | nil =>
        subst hob
        simp at hle
        obtain ⟨rfl, rfl⟩ := hle
        exact ⟨A, c, [], by simpa using h1, by simp, h3, by simp [Abs.RelL], by simp, by simp [Fz, flat]⟩
      | blk b =>
        obtain ⟨us, vs, h7, h8, h9, h10⟩ := hob
        obtain ⟨e2, k2, h11, h12, h13⟩ := h6 b hq
        have hee : e2 = e := by
          unfold World.shape? at h11
          rw [h7] at h11
          simp at h11
          exact h11.1.symm
        subst hee
        have hk9 : ∀ u ∈ (vs.drop lo).take n, u.cells.size = k := fun u hu => by
          rw [h9 u (List.mem_of_mem_drop (List.mem_of_mem_take hu)), hsz2, hkk]
        have hr8 := (h8.drop lo).take n
        refine ⟨A, c, (vs.drop lo).take n, by rw [hlen]; exact h1, by omega, h3, RelL.cmp hc (n := m.length) (fun _ _ => rfl) _ (RelL.ids _ hr8) hr8, hk9, fun hne => ?_⟩
        have hn0 : 0 < n := by
          rcases Nat.eq_zero_or_pos n with h0 | h0
          · subst h0; simp [flat] at hne
          · exact h0
        have hA := h13 (.inl (by omega))
        refine ⟨_, hA, (Array.getElem?_eq_some_iff.1 h7).1, fun hm => ?_, hsim.disj b (List.mem_of_getElem? hq), fun j u hu => ?_⟩
        · obtain ⟨i2, hi2, he2⟩ := List.getElem_of_mem hm
          obtain ⟨h14, h15⟩ := hget i2 (.blk b) (by simp) (by rw [List.getElem?_eq_getElem hi2, he2])
          exact h15 (hsim.inj i2 i b h14 hq)
        · have hadd : (⟨b, lo * E.cx.sz e2, none⟩ : Addr).add j = ⟨b, lo * E.cx.sz e2 + j, none⟩ := by unfold Addr.add; split <;> simp_all
          rw [hadd, cell_of_row w b _ us e2 (0, 0) h7]
          have h9d : ∀ u ∈ vs.drop lo, u.cells.size = E.cx.sz e2 := fun u hu => h9 u (List.mem_of_mem_drop hu)
          rw [flat_take h9d, flat_drop h9, List.getElem?_take, List.getElem?_drop] at hu
          split at hu
          · rw [← h10, List.getElem?_take] at hu
            split at hu
            · simpa using hu
            · cases hu
          · cases hu
    · exact Rel.cmp_all hc hj
  | _ => exact Rel.cmp_all hc hj
theorem frz_relL (hok : E.Ok) (hsim : E.Sim m w H) (ho : H[id]? = some (some (.arr es e))) (he : Nat.blt e E.n = true) (hk : Nat.beq (E.ti e).sz k = true) : ∀ {vs : List AV} {us : List Value}, RelL E.cx m w vs us → RelL E.cx (m.set id .dead) w (vs.map (frz id k es)) us
  | [], us, h => by simpa [RelL] using h
  | v :: vs, us, h => by
    obtain ⟨u, r, rfl, h1, h2⟩ := relL_cons.1 h
    exact RelL.cons (frz_rel hok hsim ho he hk h1) (frz_relL hok hsim ho he hk h2)
end
section
variable {E : Env} {N n0 : Nat} {s : St}
theorem imp_freezeH {id k : Nat} {es : List AV} {e : TypeId} (ho : s.hp[id]? = some (some (.arr es e))) (he : Nat.blt e E.n = true) (hk : Nat.beq (E.ti e).sz k = true) :
    Imp E N n0 s ⟨s.sl.map fun p => (p.1, frz id k es p.2), (s.hp.map (Option.map (frzO id k es))).set id none⟩ := by
  intro m0 w0 hn m w a hext hs
  have hid : id < s.hp.length := (List.getElem?_eq_some_iff.1 ho).1
  have hidm : id < m.length := by rw [hs.sim.len]; exact hid
  have hget : ∀ (i : Nat) (x : MS), x ≠ .dead → (m.set id .dead)[i]? = some x → m[i]? = some x ∧ i ≠ id := fun i x hx h => by
    by_cases hi : id = i
    · subst hi; rw [List.getElem?_set_self hidm] at h; cases h; exact absurd rfl hx
    · rw [List.getElem?_set_ne hi] at h; exact ⟨h, Ne.symm hi⟩
  have hsub : ∀ b, MS.blk b ∈ m.set id .dead → MS.blk b ∈ m := fun b hb => by
    obtain ⟨i, hi, he⟩ := List.getElem_of_mem hb
    exact List.mem_of_getElem? (hget i _ (by simp) (by rw [List.getElem?_eq_getElem hi, he])).1
  have hc : Cmp some E.cx E.cx m (m.set id .dead) := ⟨rfl, fun i j hij hi => by
    cases hij
    exact ⟨by simpa using hi, fun x hx h => (hget _ x hx h).1⟩, fun b h => h.imp (hsub b) (fun h => h)⟩
  refine ⟨m.set id .dead, ⟨hext.os, hext.tape, hext.output, hext.size, hext.keep, fun b hb h => hext.fresh b hb (hsub b h), by simpa using hext.len, fun i x hi hx h => hext.ids i x hi hx (hget i x hx h).1, hext.shape⟩, ?_⟩
  refine ⟨hs.ok, fun j => ?_, hs.size, hs.defers, ?_, fun g => Rel.cmp_all hc (hs.glob g)⟩
  · show Abs.Rel E.cx _ w (get (s.sl.map fun p => (p.1, frz id k es p.2)) j) _
    rw [get_map _ rfl]
    exact frz_rel hs.ok hs.sim ho he hk (hs.slots j)
  · refine ⟨by simp [hs.sim.len], fun i o hi => ?_, fun i hi => ?_, fun i j b hi hj => ?_, hs.sim.xlt, fun b hb => hs.sim.disj b (hsub b hb)⟩
    · by_cases h : id = i
      · subst h; rw [List.getElem?_set_self (by simpa using hid)] at hi; cases hi
      · rw [List.getElem?_set_ne h, List.getElem?_map] at hi
        cases h0 : s.hp[i]? with
        | none => rw [h0] at hi; cases hi
        | some o0 =>
          rw [h0] at hi
          cases o0 with
          | none => simp at hi
          | some o1 =>
            simp only [Option.map_some, Option.some.injEq] at hi
            subst hi
            obtain ⟨x, h1, h2⟩ := hs.sim.live i o1 h0
            refine ⟨x, by rw [List.getElem?_set_ne h]; exact h1, ?_⟩
            cases o1 with
            | cells cs e2 =>
              cases x with
              | dead => exact h2.elim
              | nil => exact h2.elim
              | blk b =>
                obtain ⟨us, h3, h4⟩ := h2
                exact ⟨us, h3, frz_relL hs.ok hs.sim ho he hk h4⟩
            | arr es2 e2 => exact OB.cmp hc (n := m.length) (fun _ _ => rfl) (OB.ids h2) h2
            | map es2 => exact OB.cmp hc (n := m.length) (fun _ _ => rfl) (OB.ids h2) h2
            | itr s2 p2 => exact OB.cmp hc (n := m.length) (fun _ _ => rfl) (OB.ids h2) h2
    · by_cases h : id = i
      · subst h; rw [List.getElem?_set_self hidm]
      · rw [List.getElem?_set_ne h] at hi ⊢
        refine hs.sim.dead i ?_
        rw [List.getElem?_map] at hi
        cases h0 : s.hp[i]? with
        | none => rw [h0] at hi; cases hi
        | some o0 =>
          rw [h0] at hi
          cases o0 with
          | none => rfl
          | some o1 => simp at hi
    · exact hs.sim.inj i j b (hget i _ (by simp) hi).1 (hget j _ (by simp) hj).1
end
end Go.Abs
namespace Go.Abs
section
variable {E : Env} {ρ : Operand → AV} {H : Hp} {K : AV → Hp → Prop} {d : Option Nat} {ty : TypeId} {pos : String} {after : Array Edge} {g : Option (Nat × Bool)}
end
end Go.Abs
namespace Go.Abs
theorem relL_set {sz : Cx} {m : Mu} {w : World} {a b : AV} (hab : ∀ u, Rel sz m w a u → Rel sz m w b u) : ∀ (cs : List AV) (us : List Value) (j : Nat), RelL sz m w cs us → cs[j]? = some a → RelL sz m w (cs.set j b) us
  | [], _, _, _, hj => by simp at hj
  | c :: cs, us, 0, h, hj => by
    obtain ⟨u, r, rfl, h1, h2⟩ := relL_cons.1 h
    simp at hj
    subst hj
    exact RelL.cons (hab u h1) h2
  | c :: cs, us, j + 1, h, hj => by
    obtain ⟨u, r, rfl, h1, h2⟩ := relL_cons.1 h
    exact RelL.cons h1 (relL_set hab cs r j h2 (by simpa using hj))
section
variable {E : Env} {N n0 : Nat} {s : St}
theorem imp_nilC (id j : Nat) (e : TypeId) {cs : List AV} {t : TypeId} (ho : s.hp[id]? = some (some (.cells cs t))) (hj : cs[j]? = some .nils) :
    Imp E N n0 s ⟨s.sl, s.hp.set id (some (.cells (cs.set j (.own s.hp.length 0 0)) t)) ++ [some (.arr [] e)]⟩ := by
  intro m0 w0 hn m w a hext hs
  have hml := hs.sim.len
  have hid : id < s.hp.length := (List.getElem?_eq_some_iff.1 ho).1
  have hget : ∀ (i : Nat) (x : MS), (m ++ [.nil])[i]? = some x → m[i]? = some x ∨ (i = m.length ∧ x = .nil) := fun i x h => by
    rcases Nat.lt_or_ge i m.length with hl | hg
    · rw [List.getElem?_append_left hl] at h; exact .inl h
    · rw [List.getElem?_append_right hg] at h
      have h0 : i - m.length = 0 := by
        rcases Nat.eq_zero_or_pos (i - m.length) with h0 | h0
        · exact h0
        · rw [List.getElem?_eq_none (by simp; omega)] at h; cases h
      rw [h0] at h
      simp at h
      exact .inr ⟨by omega, h.symm⟩
  have hsub : ∀ b, MS.blk b ∈ m ++ [.nil] → MS.blk b ∈ m := fun b hb => by simpa using hb
  have he : Ext m w (m ++ [.nil]) w := ⟨rfl, rfl, rfl, Nat.le_refl _, fun _ _ _ => rfl, fun b _ h => hsub b h, by simp, fun i x hi hx h => by rwa [List.getElem?_append_left hi] at h, fun _ _ h => h⟩
  have hnil : ∀ u, Abs.Rel E.cx (m ++ [.nil]) w .nils u → Abs.Rel E.cx (m ++ [.nil]) w (.own s.hp.length 0 0) u := fun u h1 => by
    simp only [Abs.Rel] at h1 ⊢
    have hlast : (m ++ [MS.nil])[s.hp.length]? = some .nil := by rw [← hml]; simp
    refine ⟨none, 0, h1, Nat.le_refl _, Nat.zero_le _, by simp [hml], fun _ => ⟨rfl, rfl⟩, fun b hb => ?_⟩
    rw [hlast] at hb; cases hb
  refine ⟨m ++ [.nil], hext.trans he, hs.ok, fun j => (hs.slots j).ext he, hs.size, hs.defers, ?_, fun g => (hs.glob g).ext he⟩
  refine ⟨by simp [hml], fun i o ho2 => ?_, fun i ho2 => ?_, fun i j b hi hj => ?_, hs.sim.xlt, fun b hb => hs.sim.disj b (hsub b hb)⟩
  · rcases Nat.lt_or_ge i s.hp.length with hl | hg
    · rw [List.getElem?_append_left (by simpa using hl)] at ho2
      by_cases h : id = i
      · subst h
        rw [List.getElem?_set_self hid] at ho2
        cases ho2
        obtain ⟨x, h1, h2⟩ := hs.sim.live id _ ho
        refine ⟨x, by rw [List.getElem?_append_left (hml ▸ hl)]; exact h1, ?_⟩
        cases x with
        | dead => exact h2.elim
        | nil => exact h2.elim
        | blk b =>
          obtain ⟨us, h3, h4⟩ := (h2.ext he fun _ _ => rfl : OB E.cx (m ++ [.nil]) w (.cells cs t) (.blk b))
          exact ⟨us, h3, relL_set hnil cs us.toList j h4 hj⟩
      · rw [List.getElem?_set_ne h] at ho2
        obtain ⟨x, h1, h2⟩ := hs.sim.live i o ho2
        exact ⟨x, by rw [List.getElem?_append_left (hml ▸ hl)]; exact h1, h2.ext he fun _ _ => rfl⟩
    · rw [List.getElem?_append_right (by simpa using hg)] at ho2
      simp only [List.length_set] at ho2
      have h0 : i - s.hp.length = 0 := by
        rcases Nat.eq_zero_or_pos (i - s.hp.length) with h0 | h0
        · exact h0
        · rw [List.getElem?_eq_none (by simp; omega)] at ho2; cases ho2
      rw [h0] at ho2
      simp at ho2
      subst ho2
      refine ⟨.nil, ?_, rfl⟩
      rw [List.getElem?_append_right (by omega), hml, h0]; rfl
  · rcases Nat.lt_or_ge i s.hp.length with hl | hg
    · rw [List.getElem?_append_left (by simpa using hl)] at ho2
      rw [List.getElem?_append_left (hml ▸ hl)]
      by_cases h : id = i
      · subst h; rw [List.getElem?_set_self hid] at ho2; cases ho2
      · rw [List.getElem?_set_ne h] at ho2
        exact hs.sim.dead i ho2
    · rw [List.getElem?_append_right (by simpa using hg)] at ho2
      simp only [List.length_set] at ho2
      have h0 : i - s.hp.length = 0 := by
        rcases Nat.eq_zero_or_pos (i - s.hp.length) with h0 | h0
        · exact h0
        · rw [List.getElem?_eq_none (by simp; omega)] at ho2; cases ho2
      rw [h0] at ho2
      simp at ho2
  · rcases hget i _ hi with h1 | ⟨_, h1⟩ <;> rcases hget j _ hj with h2 | ⟨_, h2⟩ <;> first | exact hs.sim.inj i j b h1 h2 | cases h1 | cases h2
end
end Go.Abs
namespace Go.Abs
/-- The names that pre keeps, then those in ids, in that order; all else is dropped. -/
def gcG (pre : Hp) (ids : List Nat) (i : Nat) : Option Nat := match pre[i]? with
  | some (some _) => some i
  | _ => (ids.idxOf? i).map (· + pre.length)
def keepM (pre : Hp) (m : Mu) (i : Nat) : MS := match pre[i]? with
  | some (some _) => (m[i]?).getD .dead
  | _ => .dead
section
variable {E : Env} {N n0 : Nat} {s : St}
end
/-- The objects of the prefix say what the old ones said. -/
def PreOk (hp : Hp) (f : Nat → Option Nat) : Nat → Hp → Prop
  | _, [] => True
  | j, none :: r => PreOk hp f (j + 1) r
  | j, some o' :: r => (∃ o, hp[j]? = some (some o) ∧ RenO f o o') ∧ PreOk hp f (j + 1) r
end Go.Abs
namespace Go.Abs
/-- A chain of one panic, of an interface that is not nil. -/
def OneCh (ch : List PanicEntry) : Prop := ∃ t v, ch = [{ v := .iface t v, recovered := false }]
section
variable {E : Env} {N n0 : Nat} {Q : Exit → St → Prop} {s : St} {ρ : Operand → AV} {H : Hp}
variable {d : Option Tmp} {ty : TypeId} {pos : String} {after : Array Edge} {g : Option (Nat × Bool)}
/-- The operation panics. -/
def APanic (E : Env) (o : Oper) (ρ : Operand → AV) (H : Hp) (K : Hp → Prop) : Prop :=
  ∀ m w a, E.Ok → (∀ x, E.Rel m w (ρ x) (a.eval x)) → E.Sim m w H → a.defers = [] →
    ∀ nx, o.wp E.P a w nx (fun e a' w' => ∃ ch, e = .panic ch ∧ OneCh ch ∧ a' = a ∧ ∃ m' H', Ext m w m' w' ∧ E.Sim m' w' H' ∧ K H')
/-- The function panics. -/
def APanics (E : Env) (f : FuncId) (args : List AV) (H : Hp) (K : Hp → Prop) : Prop :=
  Callable E f ∧ ∀ (m : Mu) (w : World) (vs : List Value), E.Ok → Glob E m w → E.RelL m w args vs → E.Sim m w H →
    Calls E.P f vs.toArray w fun e w' => ∃ ch m' H', e = .panicked ch ∧ OneCh ch ∧ Ext m w m' w' ∧ E.Sim m' w' H' ∧ K H'
theorem APanics.mono {f : FuncId} {args : List AV} {K K' : Hp → Prop} (h : APanics E f args H K) (k : ∀ H', K H' → K' H') : APanics E f args H K' :=
  ⟨h.1, fun m w vs h1 h2 h3 h4 => (h.2 m w vs h1 h2 h3 h4).mono fun _ _ ⟨ch, m', H', a, b, c, d, e⟩ => ⟨ch, m', H', a, b, c, d, k _ e⟩⟩
theorem pn_call {f : Operand} {args : List Operand} {tys : Array TypeId} {k : FuncId} {cap : List AV} {K : Hp → Prop} (hG : ∀ g, ρ (.global g) = E.G g) (hf : ρ f = .clo (.func k) [] cap)
    (h : APanics E k (args.map ρ ++ cap) H K) : APanic E ⟨d, .call ⟨.value f, args.toArray, tys⟩, ty, pos, after, g⟩ ρ H K := by
  intro m w a hok hr hsim hdf nx
  obtain ⟨⟨fn, hfn, hbody, hname⟩, hcall⟩ := h
  have hff := hr f
  rw [hf] at hff
  simp only [Env.Rel, Abs.Rel] at hff
  obtain ⟨us, vs, h1, h2, h3⟩ := hff
  rw [relL_nil] at h2
  subst h2
  have hglob : Glob E m w := fun g => by have := hr (.global g); rw [hG] at this; exact this
  have hargs : E.RelL m w (args.map ρ ++ cap) (args.map a.eval ++ vs) := (relL_map hr args).append h3
  have hc := hcall m w _ hok hglob hargs hsim
  unfold Oper.wp
  have hrun : (execOp a.eval ⟨d, .call ⟨.value f, args.toArray, tys⟩, ty, pos, after, g⟩).run E.P w = .ok (.enter k (args.map a.eval ++ vs).toArray) w := by
    simp only [execOp, resolve, h1, Deferred.ofValue, Sem.run_bind, Sem.run_pure, Result.andThen_ok, invoke, callFunc, run_program, hfn, hname, hbody, Bool.false_eq_true, if_false]
    simp
  rw [hrun, Oper.upon_enter]
  refine hc.mono ?_
  rintro e w' ⟨ch, m', H', rfl, h4, h5, h6, h7⟩
  exact ⟨ch, rfl, h4, rfl, m', H', h5, h6, h7⟩
theorem wpList_app {ops : Array Oper} {K : St → Prop} {Q' : Exit → Act → World → Prop} (rest : List Oper) : ∀ (l : List Oper) (s : St) (m0 : Mu) (w0 : World) (m : Mu) (w : World) (a : Act), dstOk N l = true →
    Ext m0 w0 m w → SRel E N m w s a → aops E ops l K s → (∀ m' w' s' a', Ext m0 w0 m' w' → SRel E N m' w' s' a' → K s' → wpList E.P ops Q' rest a' w') →
    wpList E.P ops Q' (l ++ rest) a w
  | [], s, m0, w0, m, w, a, _, he, hs, h, hQ => by
    obtain ⟨sl', h1, h2⟩ := h
    have hs' : SRel E N m w ⟨sl', s.hp⟩ a := ⟨hs.ok, fun k => (h1 k) ▸ hs.slots k, hs.size, hs.defers, hs.sim, hs.glob⟩
    exact hQ m w _ a he hs' h2
  | o :: l, s, m0, w0, m, w, a, hd, he, hs, h, hQ => by
    simp only [dstOk, List.all_cons, Bool.and_eq_true] at hd
    have hd1 : ∀ k, o.dst = some k → k < N := fun k hk => by
      have := hd.1; rw [hk] at this; simpa using this
    simp only [aops] at h
    show wpList E.P ops Q' (o :: (l ++ rest)) a w
    unfold wpList
    cases hw : wantedA ops o s.sl with
    | none => rw [hw] at h; exact h.elim
    | some b =>
      rw [hw] at h
      rw [wanted_of hs hw]
      cases b with
      | true =>
        simp only [if_true]
        left
        refine Oper.wp_mono ?_ (h m w a hs.ok (ev_rel hs) hs.sim hs.defers _)
        rintro a' w' ⟨v', rfl, m', r, H', h1, h2, h3, h4⟩
        exact wpList_app rest l _ m0 w0 m' w' _ hd.2 (he.trans h1) (hs.put h1 hd1 h2 h3) h4 hQ
      | false =>
        simp only [Bool.false_eq_true, if_false]
        exact wpList_app rest l _ m0 w0 m w _ hd.2 he (hs.put (Ext.refl m w) hd1 rel_undef hs.sim) h hQ
theorem wp_monoQ {o : Oper} {a : Act} {w : World} {P : Program} {nx : Act → World → Prop} {Q1 Q2 : Exit → Act → World → Prop} (h : o.wp P a w nx Q1) (hq : ∀ ch a' w', Q1 (.panic ch) a' w' → Q2 (.panic ch) a' w') (hl : ∀ a' w', ¬ Q1 .outgrown a' w') : o.wp P a w nx Q2 := by
  unfold Oper.wp at *
  generalize (execOp a.eval o).run P w = r at *
  cases r with
  | ok n w' =>
    cases n <;> simp only [Oper.upon] at h ⊢ <;> first
      | exact h
      | (refine Calls.mono h fun e w'' he => ?_
         cases e with
         | returned v => exact he
         | panicked ch => exact hq _ _ _ he
         | outgrown => obtain ⟨x, y, z⟩ := he; exact absurd z (hl _ _))
  | halt hh w' => cases hh <;> simp only [Oper.upon] at h ⊢ <;> first | exact hq _ _ _ h | exact h
/-- A region whose operations go on till one panics. -/
theorem awp_region_panic {id : Nat} {l pre post : List Oper} {o : Oper} (hl : l = pre ++ o :: post) (hd : dstOk N pre = true)
    (h : aops E l.toArray pre (fun s' => wantedA l.toArray o s'.sl = some true ∧ APanic E o (ev E s'.sl) s'.hp (fun H' => ∀ ch, OneCh ch → Q (.panic ch) ⟨s'.sl, H'⟩)) s) : AWp E N n0 (.region id l.toArray false) Q s := by
  intro m0 w0 _ m w a he hs
  refine wp_region_lit ?_
  have := wpList_app (Q' := Lift E N m0 w0 Q) (o :: post) pre s m0 w0 m w a hd he hs h ?_
  · rw [← hl] at this; exact this
  intro m' w' s' a' he' hs' ⟨hw, hp⟩
  unfold wpList
  rw [wanted_of hs' hw]
  simp only [if_true]
  left
  refine wp_monoQ (hp m' w' a' hs'.ok (ev_rel hs') hs'.sim hs'.defers _) ?_ ?_
  · rintro ch a2 w2 ⟨ch2, e, h1, rfl, m2, H2, h2, h3, h4⟩
    injection e with e
    subst e
    exact ⟨m2, ⟨s'.sl, H2⟩, he'.trans h2, ⟨hs'.ok, fun k => Rel.ext h2 _ (hs'.slots k), hs'.size, hs'.defers, h3, fun g => (hs'.glob g).ext h2⟩, h4 ch h1⟩
  · rintro a2 w2 ⟨ch2, e, _⟩
    cases e
/-- The body of a function that panics. -/
def PPost (K : Hp → Prop) : Exit → St → Prop
  | .panic ch, s => OneCh ch ∧ K s.hp
  | _, _ => False
theorem apanics_of {f : FuncId} {fn : Func} {c : Code} {args : List AV} {K : Hp → Prop} (hf : E.P.funcs[f]? = some fn) (hb : fn.body = some c) (hn : fn.ntmps = N) (hname : (fn.name == "runtime.NumGoroutine") = false) (hl : Nat.ble args.length N = true)
    (h : AWp E N H.length c (PPost K) ⟨slots 0 args, H⟩) : APanics E f args H K := by
  refine ⟨⟨fn, hf, by rw [hb]; rfl, hname⟩, fun m w vs hok hglob hargs hsim => ?_⟩
  have hvl := hargs.length
  have hle : args.length ≤ N := Nat.le_of_ble_eq_true hl
  refine calls_of_wp hf hb ?_
  have hs0 : SRel E N m w ⟨slots 0 args, H⟩ { tmps := vs.toArray ++ Array.replicate (fn.ntmps - vs.toArray.size) undef, defers := [] } := by
    refine ⟨hok, fun k => ?_, ?_, rfl, hsim, hglob⟩
    · show Abs.Rel E.cx m w (get (slots 0 args) k) _
      rw [get_slots]
      simp only [Nat.zero_le, if_true, Nat.sub_zero]
      cases hk : args[k]? with
      | none => simp [Abs.Rel]
      | some x =>
        obtain ⟨u, h1, h2⟩ := hargs.get k hk
        have hlt : k < vs.length := (List.getElem?_eq_some_iff.1 h1).1
        have : (vs.toArray ++ Array.replicate (fn.ntmps - vs.toArray.size) undef).getD k undef = u := by
          rw [Array.getD_eq_getD_getElem?, Array.getElem?_append_left (by simpa using hlt)]
          simp [h1]
        show Abs.Rel E.cx m w x ((vs.toArray ++ Array.replicate (fn.ntmps - vs.toArray.size) undef).getD k undef)
        rw [this]
        exact h2
    · simp; omega
  refine wp_mono (h m w hsim.len m w _ (Ext.refl m w) hs0) ?_
  rintro e a' w' ⟨m', s', h1, h2, h3⟩
  cases e with
  | panic ch => exact ⟨h2.defers, ch, m', s'.hp, rfl, h3.1, h1, h2.sim, h3.2⟩
  | _ => exact h3.elim
end
end Go.Abs
namespace Go.Abs
section
variable {E : Env} {H : Hp} {K : AV → Hp → Prop} {ρ : Operand → AV}
variable {d : Option Tmp} {ty : TypeId} {pos : String} {after : Array Edge} {g : Option (Nat × Bool)}
def TK.isIfc : TK → Bool
  | .ifc => true
  | _ => false
theorem st_makeIface {t : TypeId} {x : Operand} (ht : Nat.blt t E.n = true) (hk : (E.ti t).k.isIfc = false) (h : K (.ifc t (ρ x)) H) : AStep E ⟨d, .makeInterface t x, ty, pos, after, g⟩ ρ H K := by
  refine step_same (.ifc t (ρ x)) (fun m w a hok hr hs => ?_) h
  obtain ⟨i, D, h1, h2, h3, h4, h5, h6⟩ := tyOf_spec hok ht
  have hne : ∀ p, D ≠ .interface p := fun p e => by
    subst e
    have : (E.ti t).k = .ifc := h5.symm
    rw [this] at hk
    cases hk
  refine ⟨.iface t (a.eval x), ?_, ⟨_, rfl, hr x⟩⟩
  simp only [execOp, Instr.makeInterface, Sem.run_bind, run_underlying h2, Result.andThen_ok]
  cases D with
  | interface p => exact absurd rfl (hne p)
  | _ => simp
theorem pn_panic {x : Operand} {t : TypeId} {v : AV} {P : Hp → Prop} (hx : ρ x = .ifc t v) (h : P H) : APanic E ⟨d, .panic x, ty, pos, after, g⟩ ρ H P := by
  intro m w a hok hr hs hdf nx
  have h1 := hr x
  rw [hx] at h1
  simp only [Env.Rel, Abs.Rel] at h1
  obtain ⟨u, h2, _⟩ := h1
  unfold Oper.wp
  have hrun : (execOp a.eval ⟨d, .panic x, ty, pos, after, g⟩).run E.P w = .halt (.panic (.iface t u)) w := by
    simp [execOp, h2, Instr.panic, goPanic]
  rw [hrun, Oper.upon_panic]
  exact ⟨_, rfl, ⟨t, u, rfl⟩, rfl, m, H, Ext.refl m w, hs, h⟩
end
end Go.Abs
open Go.MapKept
namespace Go.Abs
section
variable {E : Env} {H : Hp} {K : AV → Hp → Prop} {ρ : Operand → AV}
variable {d : Option Tmp} {ty : TypeId} {pos : String} {after : Array Edge} {g : Option (Nat × Bool)}
theorem st_sadd {x y : Operand} {t t' : TypeId} {a b : List UInt8} (hx : ρ x = .str a) (hy : ρ y = .str b) (hl : a.length + b.length ≤ 9223372036854775807) (h : K (.str (a ++ b)) H) :
    AStep E ⟨d, .binOp .add t x y t', ty, pos, after, g⟩ ρ H K := by
  refine step_same _ (fun m w c _ hr _ => ⟨_, ?_, mk_str⟩) h
  have h1 := hr x
  rw [hx] at h1
  have h2 := hr y
  rw [hy] at h2
  have hle : ¬ (IntKind.i64.max < ((a.length + b.length : Nat) : Int)) := by show ¬ (9223372036854775807 < ((a.length + b.length : Nat) : Int)); omega
  have e : (⟨a.toArray⟩ : ByteArray) ++ ⟨b.toArray⟩ = ⟨(a ++ b).toArray⟩ := by
    rw [ByteArray.ext_iff, ByteArray.data_append]; simp
  have hs : (⟨a.toArray⟩ : ByteArray).size + (⟨b.toArray⟩ : ByteArray).size = a.length + b.length := rfl
  have hso : (Op.stringOp .add (⟨a.toArray⟩ : ByteArray) ⟨b.toArray⟩).run E.P w = .ok (.string ⟨(a ++ b).toArray⟩) w := by
    simp only [Op.stringOp]
    rw [hs, if_neg hle, e]
    rfl
  simp [execOp, eqGuard, binOp, rel_str h1, rel_str h2, hso]
theorem st_range_str {t : TypeId} {x : Operand} {s : List UInt8} (ht : Nat.blt t E.n = true) (hk : (E.ti t).k = .str) (hx : ρ x = .str s) (h : K (.ptr H.length 0) (H ++ [some (.itr s 0)])) : AStep E ⟨d, .range t x, ty, pos, after, g⟩ ρ H K := by
  refine step_any (fun m w a hok hr hsim => ?_)
  have h1 := hr x
  rw [hx] at h1
  have hb : (w.alloc (.stringIter ⟨s.toArray⟩ 0)).heap[w.heap.size]? = some (.stringIter ⟨s.toArray⟩ 0) := (heap_alloc w _).1
  refine ⟨.pointer (some ⟨w.heap.size, 0, none⟩), w.alloc (.stringIter ⟨s.toArray⟩ 0), m ++ [.blk w.heap.size], .ptr H.length 0, _, ?_, Ext.push m w _, ptr_new hsim, hsim.push (ao := .itr s 0) hb, h⟩
  simp [execOp, Instr.range, run_underlying (tk_str hok ht hk), rel_str h1]
theorem itr_set {m : Mu} {w : World} {id b p q : Nat} {s : List UInt8} (hsim : E.Sim m w H) (hq : m[id]? = some (.blk b)) (hb : w.heap[b]? = some (.stringIter ⟨s.toArray⟩ p)) :
    Ext m w m { w with heap := w.heap.setIfInBounds b (.stringIter ⟨s.toArray⟩ q) } ∧ E.Sim m { w with heap := w.heap.setIfInBounds b (.stringIter ⟨s.toArray⟩ q) } (H.set id (some (.itr s q))) := by
  have hs := heap_set (o' := .stringIter ⟨s.toArray⟩ q) hb
  have hext : Ext m w m { w with heap := w.heap.setIfInBounds b (.stringIter ⟨s.toArray⟩ q) } :=
    Ext.owned (List.mem_of_getElem? hq) rfl rfl rfl (by simp) (fun c hc => hs.2 c hc) (fun s h => by
      unfold World.shape? at h ⊢
      rw [hb] at h
      cases h)
  exact ⟨hext, hsim.owned (ao := .itr s q) hext hq (fun c hc => hs.2 c hc) hs.1⟩
/-- The character at p, as its number and its length. -/
def runeAt (s : List UInt8) (p : Nat) : Nat × Nat := Utf8.decode ⟨s.toArray⟩ p
theorem st_next_str {x : Operand} {id p q c : Nat} {s : List UInt8} (hx : ρ x = .ptr id 0) (ho : H[id]? = some (some (.itr s p))) (hp : p < s.length) (hc : runeAt s p = (c, q)) (h : K (.tup [.bool true, .int .i64 (p : Int), .int .i32 (c : Int)]) (H.set id (some (.itr s (p + q))))) :
    AStep E ⟨d, .next x true, ty, pos, after, g⟩ ρ H K := by
  refine step_any (fun m w a hok hr hsim => ?_)
  have h1 := hr x
  rw [hx] at h1
  simp only [Env.Rel, Abs.Rel] at h1
  obtain ⟨ad, h2, h3, h4⟩ := h1
  obtain ⟨y, h5, hob⟩ := hsim.live id _ ho
  cases y with
  | dead => exact hob.elim
  | nil => exact hob.elim
  | blk b =>
    have hb : w.heap[b]? = some (.stringIter ⟨s.toArray⟩ p) := hob
    have had := h4 b h5
    subst had
    obtain ⟨g1, g2⟩ := itr_set (q := p + q) hsim h5 hb
    refine ⟨.tuple #[.bool true, goInt p, .int .i32 (c : Int)], _, m, .tup [.bool true, .int .i64 (p : Int), .int .i32 (c : Int)], _, ?_, g1, ?_, g2, h⟩
    · have hg : (getObj b).run E.P w = .ok (.stringIter ⟨s.toArray⟩ p) w := by simp [getObj, Sem.run, hb]
      have hset : (setObj b (.stringIter ⟨s.toArray⟩ (p + q))).run E.P w = .ok () { w with heap := w.heap.setIfInBounds b (.stringIter ⟨s.toArray⟩ (p + q)) } := by
        simp [setObj, Sem.run, hb]
      have hsz : p < (⟨s.toArray⟩ : ByteArray).size := hp
      have hd : Utf8.decode ⟨s.toArray⟩ p = (c, q) := hc
      simp [execOp, Instr.next, h2, hg, hsz, hd, hset]
    · simp [Abs.Rel, Abs.RelL, goInt]
theorem st_next_end {x : Operand} {id p : Nat} {s : List UInt8} (hx : ρ x = .ptr id 0) (ho : H[id]? = some (some (.itr s p))) (hp : s.length ≤ p) (h : K (.tup [.bool false]) H) :
    AStep E ⟨d, .next x true, ty, pos, after, g⟩ ρ H K := by
  refine step_same (.tup [.bool false]) (fun m w a hok hr hsim => ?_) h
  have h1 := hr x
  rw [hx] at h1
  simp only [Env.Rel, Abs.Rel] at h1
  obtain ⟨ad, h2, h3, h4⟩ := h1
  obtain ⟨y, h5, hob⟩ := hsim.live id _ ho
  cases y with
  | dead => exact hob.elim
  | nil => exact hob.elim
  | blk b =>
    have hb : w.heap[b]? = some (.stringIter ⟨s.toArray⟩ p) := hob
    have had := h4 b h5
    subst had
    have hg : (getObj b).run E.P w = .ok (.stringIter ⟨s.toArray⟩ p) w := by simp [getObj, Sem.run, hb]
    have hsz : ¬ p < (⟨s.toArray⟩ : ByteArray).size := by show ¬ p < s.length; omega
    refine ⟨.tuple #[.bool false], ?_, by simp [Abs.Rel, Abs.RelL]⟩
    simp [execOp, Instr.next, h2, hg, hsz]
end
end Go.Abs
namespace Go.Abs
section
variable {E : Env} {N n0 : Nat} {Q : Exit → St → Prop}
/-- i waits for j. -/
def waitsB (o : Oper) (j : Nat) : Bool := o.after.any fun e => Region.binds .any e && e.on == j
def readsB (o : Oper) (t : Nat) : Bool := (tsOf o).contains t
/-- Operation i of the list: no guard, what waits lies before it; if it is carried out, it waits for each of ok that writes what it reads; else it waits for one that is not of ok. -/
def pchk1 (ops : Array Oper) (ok pn : List Nat) (i : Nat) (o : Oper) : Bool :=
  o.after.all (fun e => !Region.binds .any e || Nat.blt e.on i) &&
  (if ok.contains i || pn.contains i then o.guard.isNone && ok.all (fun j => match ops[j]? with
      | some oj => match oj.dst with
        | some t => !readsB o t || waitsB o j
        | none => true
      | none => false)
   else o.after.any fun e => Region.binds .any e && !ok.contains e.on)
def pchk (ops : Array Oper) (ok pn vals : List Nat) (p : Nat) : Bool :=
  pn.contains p && Nat.blt p ops.size && pn.all (fun i => !ok.contains i) && (List.range ops.size).all (fun i => match ops[i]? with
    | some o => pchk1 ops ok pn i o
    | none => true) && vals.all fun t => ok.any fun j => match ops[j]? with
      | some o => match o.dst with
        | some d => d == t
        | none => false
      | none => false
def okOp (E : Env) (ops : Array Oper) (τ : Sf) (H : Hp) (i : Nat) : Prop := ∃ o, ops[i]? = some o ∧ AStep E o (evF E (tsOf o) τ) H (fun r H' => (∀ d, o.dst = some d → τ d = r) ∧ H' = H)
def pnOp (E : Env) (ops : Array Oper) (τ : Sf) (H : Hp) (K : Hp → Prop) (i : Nat) : Prop := ∃ o, ops[i]? = some o ∧ APanic E o (evF E (tsOf o) τ) H K
theorem unl_lt {n i : Nat} {listed : Array Bool} (hi : i < n) (hl : listed.getD i true = false) :
    ((List.range n).filter fun j => !(listed.setIfInBounds i true).getD j false).length < ((List.range n).filter fun j => !listed.getD j false).length := by
  have hlt : i < listed.size := by
    rcases Nat.lt_or_ge i listed.size with h | h
    · exact h
    · simp [Array.getElem?_eq_none h] at hl
  have e : (List.range n).filter (fun j => !(listed.setIfInBounds i true).getD j false) = ((List.range n).filter fun j => !listed.getD j false).filter (fun j => j != i) := by
    rw [List.filter_filter]
    refine List.filter_congr fun j hj => ?_
    by_cases hij : i = j
    · subst hij; simp [hlt]
    · rw [getD_set_ne false hij]
      have : (j != i) = true := by simpa using Ne.symm hij
      rw [this, Bool.true_and]
  rw [e]
  have hm : i ∈ (List.range n).filter fun j => !listed.getD j false := by
    refine List.mem_filter.2 ⟨List.mem_range.2 hi, ?_⟩
    have : listed.getD i true = listed.getD i false := by simp [hlt]
    rw [← this, hl]; rfl
  exact List.length_filter_lt_length_iff_exists.2 ⟨i, hm, by simp⟩
theorem some_ready {ops : Array Oper} {listed : Array Bool} (hsz : listed.size = ops.size) (hlow : ∀ (i : Nat) (o : Oper), ops[i]? = some o → ∀ e ∈ o.after, Region.binds .any e = true → e.on < i) :
    ∀ k, k < ops.size → listed.getD k false = false → Region.ready .any ops listed ≠ [] := by
  intro k
  induction k using Nat.strongRecOn with
  | _ k ih =>
    intro hk hl hr
    have hnr : k ∉ Region.ready .any ops listed := by rw [hr]; simp
    have hl2 : listed.getD k true = false := by
      have : listed.getD k true = listed.getD k false := by simp [hsz, hk]
      rw [this]; exact hl
    have hex : ∃ e ∈ ops[k].after, Region.binds .any e = true ∧ listed.getD e.on false = false := by
      refine Classical.byContradiction fun hno => hnr (mem_ready.2 ⟨hl2, ops[k], Array.getElem?_eq_getElem hk, fun e he hb => ?_⟩)
      cases hv : listed.getD e.on false with
      | true => rfl
      | false => exact absurd ⟨e, he, hb, hv⟩ hno
    obtain ⟨e, he, hb, hv⟩ := hex
    have hlt := hlow k _ (Array.getElem?_eq_getElem hk) e he hb
    exact ih e.on hlt (Nat.lt_trans hlt hk) hv hr
theorem wpAny_panic {ops : Array Oper} {ok pn vals : List Nat} {p : Nat} {τ : Sf} {H : Hp} {K : Hp → Prop} {Q' : Exit → Act → World → Prop} {m0 : Mu} {w0 : World} (hd : dstOk N ops.toList = true) (hc : pchk ops ok pn vals p = true)
    (hok : ∀ i ∈ ok, okOp E ops τ H i) (hpn : ∀ i ∈ pn, pnOp E ops τ H K i)
    (hQ : ∀ ch m w H' a, Ext m0 w0 m w → a.tmps.size = N → a.defers = [] → E.Ok → E.Sim m w H' → (∀ g, E.Rel m w (E.G g) (.pointer (some ⟨g, 0, none⟩))) → OneCh ch → K H' → Q' (.panic ch) a w) :
    ∀ (fuel : Nat) (listed : Array Bool) (σ : Sf) (m : Mu) (w : World) (a : Act), Ext m0 w0 m w → SRelF E N m w σ H a → listed.size = ops.size →
      (∀ i, i < ops.size → listed.getD i false = true → i ∈ ok) → (∀ t, (∀ j ∈ ok, ∀ o, ops[j]? = some o → o.dst = some t → listed.getD j false = true) → σ t = τ t) →
      ((List.range ops.size).filter fun j => !listed.getD j false).length ≤ fuel → wpAny E.P .any ops Q' fuel listed a w := by
  simp only [pchk, Bool.and_eq_true] at hc
  obtain ⟨⟨⟨⟨hp1, hp2⟩, hdis⟩, hall⟩, -⟩ := hc
  have hp1 : p ∈ pn := by simpa using hp1
  have hp2 : p < ops.size := by simpa using hp2
  have hpk : ∀ i ∈ pn, i ∉ ok := fun i hi hm => by
    have := List.all_eq_true.1 hdis i hi
    simp [hm] at this
  have hchk : ∀ i o, ops[i]? = some o → pchk1 ops ok pn i o = true := fun i o ho => by
    have := List.all_eq_true.1 hall i (List.mem_range.2 (Array.getElem?_eq_some_iff.1 ho).1)
    simp only [ho] at this
    exact this
  have hlow : ∀ (i : Nat) (o : Oper), ops[i]? = some o → ∀ e ∈ o.after, Region.binds .any e = true → e.on < i := fun i o ho e he hb => by
    have := hchk i o ho
    simp only [pchk1, Bool.and_eq_true] at this
    have h2 := Array.all_eq_true'.1 this.1 e he
    simpa [hb] using h2
  have hpun : ∀ (listed : Array Bool), (∀ i, i < ops.size → listed.getD i false = true → i ∈ ok) → listed.getD p false = false := fun listed h => by
    cases hv : listed.getD p false with
    | false => rfl
    | true => exact absurd (h p hp2 hv) (hpk p hp1)
  intro fuel
  induction fuel with
  | zero =>
    intro listed σ m w a he hs hsz hsub hag hf
    exfalso
    have : p ∈ (List.range ops.size).filter fun j => !listed.getD j false := List.mem_filter.2 ⟨List.mem_range.2 hp2, by rw [hpun listed hsub]; rfl⟩
    have h0 := List.length_pos_of_mem this
    omega
  | succ fuel ih =>
    intro listed σ m w a he hs hsz hsub hag hf
    refine ⟨fun h0 => absurd h0 (some_ready hsz hlow p hp2 (hpun listed hsub)), fun i hi => ?_⟩
    obtain ⟨hiun, o, ho, hrd⟩ := mem_ready.1 hi
    have hilt : i < ops.size := (Array.getElem?_eq_some_iff.1 ho).1
    have hc1 := hchk i o ho
    simp only [pchk1, Bool.and_eq_true] at hc1
    have hc2 := hc1.2
    by_cases hin : (ok.contains i || pn.contains i) = true
    · rw [if_pos hin] at hc2
      simp only [Bool.and_eq_true] at hc2
      have hguard : o.guard = none := by simpa using hc2.1
      have hev : evF E (tsOf o) σ = evF E (tsOf o) τ := by
        funext x
        cases x with
        | tmp t =>
          simp only [evF]
          cases hct : (tsOf o).contains t with
          | false => rfl
          | true =>
            refine hag t fun j hj oj hoj hdj => ?_
            have h3 := List.all_eq_true.1 hc2.2 j hj
            have hrb : readsB o t = true := hct
            simp only [hoj, hdj, hrb, Bool.not_true, Bool.false_or] at h3
            obtain ⟨e, he2, hb⟩ := Array.any_eq_true'.1 h3
            simp only [Bool.and_eq_true, beq_iff_eq] at hb
            rw [← hb.2]
            exact hrd e he2 hb.1
        | _ => rfl
      have hwant : Region.wanted o (yielded ops a.tmps) = true := by simp [Region.wanted, hguard]
      have hd1 : ∀ k, o.dst = some k → k < N := fun k hk => by
        have h1 := List.all_eq_true.1 hd o (Array.mem_toList_iff.2 (Array.mem_of_getElem? ho))
        rw [hk] at h1; simpa using h1
      unfold wpOp
      simp only [ho, hwant, if_true]
      left
      by_cases hik : i ∈ ok
      · obtain ⟨o', ho', hst⟩ := hok i hik
        rw [ho] at ho'; cases ho'
        rw [← hev] at hst
        refine Oper.wp_mono ?_ (hst m w a hs.ok (evF_rel hs _) hs.sim hs.defers Q')
        rintro a' w' ⟨v', rfl, m', r, H', h1, h2, h3, hv, rfl⟩
        refine ih _ (upd o.dst r σ) m' w' _ (he.trans h1) (hs.put h1 hd1 h2 h3) (by simp [hsz]) (fun j hj hl => ?_) (fun t ht => ?_) ?_
        · by_cases hij : i = j
          · exact hij ▸ hik
          · rw [getD_set_ne false hij] at hl; exact hsub j hj hl
        · by_cases hdt : o.dst = some t
          · rw [hdt]; simp only [upd, if_true]
            exact (hv t hdt).symm
          · have e1 : upd o.dst r σ t = σ t := by
              cases hod : o.dst with
              | none => rfl
              | some d =>
                have hne : d ≠ t := fun e => hdt (by rw [hod, e])
                simp [upd, hne]
            rw [e1]
            refine hag t fun j hj oj hoj hdj => ?_
            have h5 := ht j hj oj hoj hdj
            by_cases hij : i = j
            · subst hij
              rw [ho] at hoj; cases hoj
              exact absurd hdj hdt
            · rwa [getD_set_ne false hij] at h5
        · have := unl_lt hilt hiun
          omega
      · have hip : i ∈ pn := by
          simp only [Bool.or_eq_true, List.contains_iff_mem] at hin
          exact hin.resolve_left hik
        obtain ⟨o', ho', hst⟩ := hpn i hip
        rw [ho] at ho'; cases ho'
        rw [← hev] at hst
        refine wp_monoQ (hst m w a hs.ok (evF_rel hs _) hs.sim hs.defers _) ?_ ?_
        · rintro ch a2 w2 ⟨ch2, e, h1, rfl, m2, H2, h2, h3, h4⟩
          injection e with e
          subst e
          exact hQ ch m2 w2 H2 _ (he.trans h2) hs.size hs.defers hs.ok h3 (fun g => (hs.glob g).ext h2) h1 h4
        · rintro a2 w2 ⟨ch2, e, _⟩
          cases e
    · rw [if_neg hin] at hc2
      exfalso
      obtain ⟨e, he2, hb⟩ := Array.any_eq_true'.1 hc2
      simp only [Bool.and_eq_true, Bool.not_eq_true'] at hb
      have h5 := hrd e he2 hb.1
      have h6 := hsub e.on (Nat.lt_trans (hlow i o ho e he2 hb.1) hilt) h5
      simp [h6] at hb
theorem get_left (vals sl : List (Nat × AV)) (t : Nat) (h : t ∉ vals.map (·.1)) : get (vals ++ sl) t = get sl t := by
  induction vals with
  | nil => rfl
  | cons x xs ih =>
    simp only [List.map_cons, List.mem_cons, not_or] at h
    rw [List.cons_append, get_cons, if_neg (Ne.symm h.1)]
    exact ih h.2
/-- A region that draws its order and panics. 'vals': what the operations 'ok' yield. -/
theorem awp_region_panicD {id : Nat} {l : List Oper} {sl : List (Nat × AV)} {H : Hp} {K : Hp → Prop} (ok pn : List Nat) (p : Nat) (vals : List (Nat × AV)) (hd : dstOk N l = true) (hc : pchk l.toArray ok pn (vals.map (·.1)) p = true)
    (hok : ∀ i ∈ ok, okOp E l.toArray (get (vals ++ sl)) H i) (hpn : ∀ i ∈ pn, pnOp E l.toArray (get (vals ++ sl)) H K i)
    (hQ : ∀ ch H', OneCh ch → K H' → Q (.panic ch) ⟨[], H'⟩) : AWp E N n0 (.region id l.toArray true) Q ⟨sl, H⟩ := by
  intro m0 w0 _ m w a he hs
  have hsF : SRelF E N m { w with drawn := w.drawn + 1 } (get sl) H a := by
    have e := Ext.drew m w
    exact ⟨hs.ok, fun k => (hs.slots k).ext e, hs.size, hs.defers, hs.sim.drew, fun g => (hs.glob g).ext e⟩
  refine wp_region_any hs.ok.1 ?_
  have hvals := hc
  simp only [pchk, Bool.and_eq_true] at hvals
  refine wpAny_panic (Q' := Lift E N m0 w0 Q) (m0 := m0) (w0 := w0) (by simpa using hd) hc hok hpn ?_ _ _ (get sl) m _ a (he.trans (Ext.drew m w)) hsF (by simp) ?_ ?_ ?_
  · intro ch m w H' a he hsz hdf hok2 hsim hg hch hk
    exact ⟨m, ⟨[], H'⟩, he, ⟨hok2, fun k => by simp [get, Env.Rel, Abs.Rel], hsz, hdf, hsim, hg⟩, hQ ch H' hch hk⟩
  · intro i hi h
    have hi2 : i < l.length := by simpa using hi
    simp [hi2] at h
  · intro t ht
    refine (get_left vals sl t ?_).symm
    intro hm
    have h1 := List.all_eq_true.1 hvals.2 t hm
    obtain ⟨j, hj, hb⟩ := List.any_eq_true.1 h1
    cases hoj : l.toArray[j]? with
    | none => simp [hoj] at hb
    | some o =>
      simp only [hoj] at hb
      cases hod : o.dst with
      | none => simp [hod] at hb
      | some d =>
        simp only [hod, beq_iff_eq] at hb
        subst hb
        have := ht j hj o hoj hod
        rw [Array.getD_eq_getD_getElem?, Array.getElem?_replicate] at this
        split at this <;> simp at this
  · exact Nat.le_trans (List.length_filter_le _ _) (by simp)
end
section
variable {E : Env} {l : List Oper} {τ : Sf} {H : Hp} {K : Hp → Prop}
theorem okL_nil : ∀ i ∈ ([] : List Nat), okOp E l.toArray τ H i := fun _ h => by simp at h
theorem okL_cons {i : Nat} {is : List Nat} {o : Oper} (ho : l[i]? = some o) (h : AStep E o (evF E (tsOf o) τ) H (fun r H' => (∀ d, o.dst = some d → τ d = r) ∧ H' = H)) (t : ∀ j ∈ is, okOp E l.toArray τ H j) : ∀ j ∈ i :: is, okOp E l.toArray τ H j := fun j hj => by
  rcases List.mem_cons.1 hj with rfl | hj
  · exact ⟨o, by simpa using ho, h⟩
  · exact t j hj
theorem pnL_nil : ∀ i ∈ ([] : List Nat), pnOp E l.toArray τ H K i := fun _ h => by simp at h
theorem pnL_cons {i : Nat} {is : List Nat} {o : Oper} (ho : l[i]? = some o) (h : APanic E o (evF E (tsOf o) τ) H K) (t : ∀ j ∈ is, pnOp E l.toArray τ H K j) : ∀ j ∈ i :: is, pnOp E l.toArray τ H K j := fun j hj => by
  rcases List.mem_cons.1 hj with rfl | hj
  · exact ⟨o, by simpa using ho, h⟩
  · exact t j hj
end
end Go.Abs
namespace Go.Abs
section
variable {E : Env} {N n0 : Nat} {Q : Exit → St → Prop} {H : Hp} {K : AV → Hp → Prop} {ρ : Operand → AV}
variable {d : Option Tmp} {ty : TypeId} {pos : String} {after : Array Edge} {g : Option (Nat × Bool)}
theorem st_ext {f : Operand} {args : List Operand} {tys : Array TypeId} {k : FuncId} {fn : Func} {e : Array Value → Sem Value} {r : AV} (hfn : E.P.funcs[k]? = some fn) (hname : (fn.name == "runtime.NumGoroutine") = false)
    (hb : fn.body.isNone = true) (hn : Extern.findNext fn = none) (he : Extern.find fn = some e) (hf : ρ f = .clo (.func k) [] [])
    (hrun : ∀ (m : Mu) (w : World) (vs : List Value), E.RelL m w (args.map ρ) vs → ∃ v, (e vs.toArray).run E.P w = .ok v w ∧ E.Rel m w r v)
    (h : K r H) : AStep E ⟨d, .call ⟨.value f, args.toArray, tys⟩, ty, pos, after, g⟩ ρ H K := by
  refine step_same r (fun m w a _ hr _ => ?_) h
  have hff := hr f
  rw [hf] at hff
  simp only [Env.Rel, Abs.Rel] at hff
  obtain ⟨us, vs, h1, h2, h3⟩ := hff
  rw [relL_nil] at h2 h3
  subst h2 h3
  obtain ⟨v, h4, h5⟩ := hrun m w _ (relL_map hr args)
  refine ⟨v, ?_, h5⟩
  have hcf := run_callFunc_extern (P := E.P) hfn hname hb hn he (args.map a.eval).toArray w
  simp only [execOp, resolve, h1, Deferred.ofValue, Sem.run_bind, Sem.run_pure, Result.andThen_ok, invoke]
  have e1 : (#[] : Array Value) = ([] : List Value).toArray := rfl
  simp [hcf, h4]
end
theorem apanics_pure {E : Env} {f : FuncId} {args : List AV} (h : ∀ X, APanics (E.wX X) f args [] (fun _ => True)) (ha : IdsLtL 0 args) (H : Hp) : APanics E f args H (fun H' => H' = H) := by
  refine ⟨(h E.X).1, fun m w vs hok hglob hargs hsim => ?_⟩
  have hc0 : ∀ i, i < 0 → (fun _ => none : Nat → Option Nat) i = some i := fun i h => absurd h (Nat.not_lt_zero _)
  have hc : Cmp (fun _ => none) E.cx (E.wX fun b => E.X b ∨ .blk b ∈ m).cx m [] := ⟨rfl, fun _ _ h => absurd h (by simp), fun b hb => hb.elim (fun h => absurd h (by simp)) (fun h => h.elim .inr .inl)⟩
  have hsim0 : (E.wX fun b => E.X b ∨ .blk b ∈ m).Sim [] w [] := ⟨rfl, fun _ _ h => by simp at h, fun _ h => by simp at h, fun _ _ _ h => by simp at h, fun b hb => hb.elim (hsim.xlt b) (fun h => hsim.lt h), fun b hb => absurd hb (by simp)⟩
  refine ((h fun b => E.X b ∨ .blk b ∈ m).2 [] w vs hok (fun g => Rel.cmp hc hc0 _ (hok.2.2 g) (hglob g)) (RelL.cmp hc hc0 _ ha hargs) hsim0).mono ?_
  rintro e w' ⟨ch, m', H', he, hch, hext, hs', -⟩
  have hext2 : Ext m w m w' := ⟨hext.os, hext.tape, hext.output, hext.size, fun b hb _ => hext.keep b hb (by simp), fun _ _ h => h, Nat.le_refl _, fun _ _ _ _ h => h, hext.shape⟩
  exact ⟨ch, m, H, he, hch, hext2, hsim.of_ext hext2 fun b hb => hext.keep b (hsim.lt hb) (by simp), rfl⟩
/-- A region whose operation k panics. -/
theorem awp_region_panicK {E : Env} {N n0 : Nat} {Q : Exit → St → Prop} {s : St} {id : Nat} {l : List Oper} (k : Nat) {o : Oper} {pre : List Oper} (ho : l[k]? = some o) (hp : l.take k = pre) (hd : dstOk N pre = true)
    (h : aops E l.toArray pre (fun s' => wantedA l.toArray o s'.sl = some true ∧ APanic E o (ev E s'.sl) s'.hp (fun H' => ∀ ch, OneCh ch → Q (.panic ch) ⟨s'.sl, H'⟩)) s) : AWp E N n0 (.region id l.toArray false) Q s := by
  have hk : k < l.length := (List.getElem?_eq_some_iff.1 ho).1
  have hg : l[k] = o := (List.getElem?_eq_some_iff.1 ho).2
  refine awp_region_panic (pre := pre) (post := l.drop (k + 1)) ?_ hd h
  rw [← hp]
  have e : o :: l.drop (k + 1) = l.drop k := by rw [List.drop_eq_getElem_cons hk, hg]
  rw [e, List.take_append_drop]
end Go.Abs
namespace Go.Abs
section
variable {E : Env} {N : Nat} {H : Hp} {K : AV → Hp → Prop} {ρ : Operand → AV}
theorem put_def {a : Act} {d : Option Tmp} {v v' : Value} {ds : List Deferred} (h : ({ tmps := a.tmps, defers := ds } : Act).put d v = ({ tmps := a.tmps, defers := ds } : Act).put d v') : a.put d v = a.put d v' := by
  cases d with
  | none => rfl
  | some k =>
    have h2 : a.tmps.setIfInBounds k v = a.tmps.setIfInBounds k v' := congrArg Act.tmps h
    show ({ tmps := a.tmps.setIfInBounds k v, defers := a.defers } : Act) = { tmps := a.tmps.setIfInBounds k v', defers := a.defers }
    rw [h2]
theorem astep_D {o : Oper} (h : AStep E o ρ H K) {m : Mu} {w : World} {a : Act} (hok : E.Ok) (hr : ∀ x, E.Rel m w (ρ x) (a.eval x)) (hsim : E.Sim m w H) {nx : Act → World → Prop} {Q : Exit → Act → World → Prop}
    (hnx : ∀ v' m' r H' w', Ext m w m' w' → E.Rel m' w' r v' → E.Sim m' w' H' → K r H' → nx (a.put o.dst v') w') : o.wp E.P a w nx Q := by
  have h0 := h m w { tmps := a.tmps, defers := [] } hok hr hsim rfl (fun _ _ _ => False)
  unfold Oper.wp at *
  have ev : ({ tmps := a.tmps, defers := [] } : Act).eval = a.eval := by funext x; cases x <;> rfl
  rw [ev] at h0
  generalize (execOp a.eval o).run E.P w = r at *
  have key : ∀ v w', (∃ v', ({ tmps := a.tmps, defers := [] } : Act).put o.dst v = ({ tmps := a.tmps, defers := [] } : Act).put o.dst v' ∧ ∃ m' r H', Ext m w m' w' ∧ E.Rel m' w' r v' ∧ E.Sim m' w' H' ∧ K r H') → nx (a.put o.dst v) w' := by
    rintro v w' ⟨v', e, m', r, H', h1, h2, h3, h4⟩
    rw [put_def e]
    exact hnx v' m' r H' w' h1 h2 h3 h4
  cases r with
  | ok n w' =>
    cases n with
    | value v => exact key v w' h0
    | skip => exact key undef w' h0
    | defer d =>
      simp only [Oper.upon] at h0
      obtain ⟨v', e, _⟩ := h0
      cases hd : o.dst with
      | none => rw [hd] at e; simp [Act.put] at e
      | some k => rw [hd] at e; simp [Act.put] at e
    | enter f args =>
      simp only [Oper.upon] at h0 ⊢
      refine h0.mono fun e w'' he => ?_
      cases e with
      | returned v => exact key v w'' he
      | panicked ch => exact he.elim
      | outgrown => obtain ⟨x, y, z⟩ := he; exact z.elim
    | row r args =>
      simp only [Oper.upon] at h0 ⊢
      exact h0.mono fun v w'' he => key v w'' he
    | _ => exact h0
  | halt hh w' => cases hh <;> exact absurd h0 (by simp [Oper.upon])
theorem put_clr {a : Act} {d : Option Tmp} {v : Value} : ({ tmps := (a.put d v).tmps, defers := [] } : Act) = ({ tmps := a.tmps, defers := [] } : Act).put d v := by
  cases d <;> rfl
/-- A region's first operations, with whatever is deferred. -/
theorem wpList_D {ops : Array Oper} {K : St → Prop} {Q' : Exit → Act → World → Prop} (rest : List Oper) : ∀ (l : List Oper) (s : St) (m0 : Mu) (w0 : World) (m : Mu) (w : World) (a : Act), dstOk N l = true →
    Ext m0 w0 m w → SRel E N m w s { tmps := a.tmps, defers := [] } → aops E ops l K s →
    (∀ m' w' s' a', Ext m0 w0 m' w' → SRel E N m' w' s' { tmps := a'.tmps, defers := [] } → a'.defers = a.defers → K s' → wpList E.P ops Q' rest a' w') →
    wpList E.P ops Q' (l ++ rest) a w
  | [], s, m0, w0, m, w, a, _, he, hs, h, hQ => by
    obtain ⟨sl', h1, h2⟩ := h
    have hs' : SRel E N m w ⟨sl', s.hp⟩ { tmps := a.tmps, defers := [] } := ⟨hs.ok, fun k => (h1 k) ▸ hs.slots k, hs.size, hs.defers, hs.sim, hs.glob⟩
    exact hQ m w _ a he hs' rfl h2
  | o :: l, s, m0, w0, m, w, a, hd, he, hs, h, hQ => by
    simp only [dstOk, List.all_cons, Bool.and_eq_true] at hd
    have hd1 : ∀ k, o.dst = some k → k < N := fun k hk => by
      have := hd.1; rw [hk] at this; simpa using this
    simp only [aops] at h
    show wpList E.P ops Q' (o :: (l ++ rest)) a w
    unfold wpList
    have ev2 : ∀ x, E.Rel m w (ev E s.sl x) (a.eval x) := fun x => by
      have := ev_rel hs x
      cases x <;> exact this
    cases hw : wantedA ops o s.sl with
    | none => rw [hw] at h; exact h.elim
    | some b =>
      rw [hw] at h
      have hw2 := wanted_of hs hw
      have hw3 : Region.wanted o (yielded ops a.tmps) = b := hw2
      rw [hw3]
      cases b with
      | true =>
        simp only [if_true]
        left
        refine astep_D h hs.ok ev2 hs.sim ?_
        intro v' m' r H' w' h1 h2 h3 h4
        refine wpList_D rest l _ m0 w0 m' w' _ hd.2 (he.trans h1) (by rw [put_clr]; exact hs.put h1 hd1 h2 h3) h4 ?_
        intro m2 w2 s2 a2 e1 e2 e3 e4
        refine hQ m2 w2 s2 a2 e1 e2 (e3.trans ?_) e4
        cases o.dst <;> rfl
      | false =>
        simp only [Bool.false_eq_true, if_false]
        refine wpList_D rest l _ m0 w0 m w _ hd.2 he (by rw [put_clr]; exact hs.put (Ext.refl m w) hd1 rel_undef hs.sim) h ?_
        intro m2 w2 s2 a2 e1 e2 e3 e4
        refine hQ m2 w2 s2 a2 e1 e2 (e3.trans ?_) e4
        cases o.dst <;> rfl
theorem setCell_same {w : World} {b : Nat} {us : Array Value} {e : TypeId} {f : Nat × Nat} {off : Nat} {v : Value} (hb : w.heap[b]? = some (.cells us e f)) (hv : us[off]? = some v) : w.setCell ⟨b, off, none⟩ v = w := by
  have hlt : b < w.heap.size := (Array.getElem?_eq_some_iff.1 hb).1
  have hm : w.heap.modify b (fun
      | .cells c elem frozen => .cells (if (none : Option Nat).isSome then c else c.setIfInBounds off v) elem frozen
      | o => o) = w.heap := by
    refine Array.ext_getElem? fun i => ?_
    rw [Array.getElem?_modify]
    split
    · rename_i hi
      subst hi
      rw [hb]
      have hs : us.setIfInBounds off v = us := by
        refine Array.ext_getElem? fun j => ?_
        rw [Array.getElem?_setIfInBounds]
        split
        · rename_i hj
          subst hj
          split
          · exact hv.symm
          · rename_i h; rw [Array.getElem?_eq_none (by omega)]
        · rfl
      simp [hs]
    · rfl
  show { w with heap := w.heap.modify b _ } = w
  cases w
  simp only [World.mk.injEq, and_true]
  exact hm
end
end Go.Abs

