/- append, copy, clear; bytes and strings. -/
import Derived.Test.YtfldnfchjaaoeaaA7
namespace Go.Abs
section
variable {E : Env} {N n0 : Nat} {Q : Exit → St → Prop} {s : St} {ρ : Operand → AV} {H : Hp} {K : AV → Hp → Prop}
variable {d : Option Tmp} {ty : TypeId} {pos : String} {after : Array Edge} {g : Option (Nat × Bool)}

/-- The elements that a slice shows. -/
def srcA (E : Env) (H : Hp) (k : Nat) : AV → Option (List AV)
  | .nils => some []
  | .sl k' es => if k' = k then some es else none
  | .own id lo n => match H[id]? with
    | some (some (.arr es e)) => if (E.ti e).sz = k ∧ Nat.blt e E.n = true ∧ lo + n ≤ es.length then some ((es.drop lo).take n) else none
    | _ => none
  | _ => none
theorem src_spec {m : Mu} {w : World} {k : Nat} {x : AV} {v : Value} {es : List AV} (hok : E.Ok) (hs : E.Sim m w H) (hx : E.Rel m w x v) (h : srcA E H k x = some es) :
    ∃ A c vs, v = .slice A es.length c ∧ es.length ≤ c ∧ E.RelL m w es vs ∧ (∀ u ∈ vs, u.cells.size = k) ∧ (flat vs ≠ [] → ∃ a, A = some a ∧ ∀ (j : Nat) (u : Value), (flat vs)[j]? = some u → w.cell? (a.add j) = some u) := by
  cases x with
  | nils =>
    simp only [srcA, Option.some.injEq] at h; subst h
    simp only [Env.Rel, Abs.Rel] at hx
    exact ⟨none, 0, [], by simpa using hx, by simp, by simp [Abs.RelL], by simp, by simp [flat]⟩
  | sl k' es' =>
    simp only [srcA] at h
    split at h
    · rename_i hk; subst hk; cases h
      simp only [Env.Rel, Abs.Rel] at hx
      obtain ⟨A, c, vs, h1, h2, h3, h4, h5, h6⟩ := hx
      refine ⟨A, c, vs, h1, h2, h4, h5, fun hne => ?_⟩
      obtain ⟨a, ha, _, _, _, hc⟩ := h6 hne
      exact ⟨a, ha, hc⟩
    · cases h
  | own id lo n =>
    simp only [srcA] at h
    split at h
    · rename_i es0 e ho
      split at h
      · rename_i hc
        obtain ⟨hk, he, hle⟩ := hc
        cases h
        simp only [Env.Rel, Abs.Rel] at hx
        obtain ⟨A, c, h1, h2, h3, h4, h5, h6⟩ := hx
        have hlen : ((es0.drop lo).take n).length = n := by simp; omega
        obtain ⟨q, hq, hob⟩ := hs.live id _ ho
        cases q with
        | dead => exact hob.elim
        | nil =>
          subst hob
          simp at hle
          obtain ⟨rfl, rfl⟩ := hle
          exact ⟨A, c, [], by simpa using h1, by simp, by simp [Abs.RelL], by simp, by simp [flat]⟩
        | blk b =>
          obtain ⟨us, vs, h7, h8, h9, h10⟩ := hob
          have hsz2 : E.cx.sz e = (E.ti e).sz := by obtain ⟨_, _, _, _, _, _, _, _, _, h⟩ := tyOf_spec hok he; exact h
          obtain ⟨e2, k2, h11, h12, h13⟩ := h6 b hq
          have hee : e2 = e := by
            unfold World.shape? at h11
            rw [h7] at h11
            simp at h11
            exact h11.1.symm
          subst hee
          have hk9 : ∀ u ∈ (vs.drop lo).take n, u.cells.size = k := fun u hu => by
            rw [h9 u (List.mem_of_mem_drop (List.mem_of_mem_take hu)), hsz2, hk]
          refine ⟨A, c, (vs.drop lo).take n, by rw [hlen]; exact h1, by omega, (h8.drop lo).take n, hk9, fun hne => ?_⟩
          have hn0 : 0 < n := by
            rcases Nat.eq_zero_or_pos n with h0 | h0
            · subst h0; simp [flat] at hne
            · exact h0
          have hA := h13 (.inl (by omega))
          refine ⟨_, hA, fun j u hu => ?_⟩
          have hadd : (⟨b, lo * E.cx.sz e2, none⟩ : Addr).add j = ⟨b, lo * E.cx.sz e2 + j, none⟩ := by unfold Addr.add; split <;> simp_all
          rw [hadd, cell_of_row w b _ us e2 (0, 0) h7]
          have h9' : ∀ u ∈ vs, u.cells.size = E.cx.sz e2 := h9
          have h9d : ∀ u ∈ vs.drop lo, u.cells.size = E.cx.sz e2 := fun u hu => h9 u (List.mem_of_mem_drop hu)
          rw [flat_take h9d, flat_drop h9', List.getElem?_take, List.getElem?_drop] at hu
          split at hu
          · rw [← h10, List.getElem?_take] at hu
            split at hu
            · simpa using hu
            · cases hu
          · cases hu
      · cases h
    · cases h
  | _ => simp [srcA] at h

/-- The slice that is appended to: its name, if it has one, and its elements. -/
def dstA (H : Hp) (e : TypeId) : AV → Option (Option Nat × List AV)
  | .nils => some (none, [])
  | .own id lo n => match H[id]? with
    | some (some (.arr es e')) => if e' = e ∧ lo = 0 ∧ n = es.length then some (some id, es) else none
    | _ => none
  | _ => none
def dropId (H : Hp) : Option Nat → Hp
  | none => H
  | some id => H.set id none
def deadId (m : Mu) : Option Nat → Mu
  | none => m
  | some id => m.set id .dead

theorem dst_spec {m : Mu} {w : World} {e : TypeId} {x : AV} {v : Value} {es : List AV} {oid : Option Nat} (hok : E.Ok) (he : Nat.blt e E.n = true) (hs : E.Sim m w H) (hx : E.Rel m w x v) (h : dstA H e x = some (oid, es)) :
    ∃ vs, w.ownsRow 0 e (E.ti e).sz v es.length (flat vs) ∧ E.RelL m w es vs ∧ (∀ u ∈ vs, u.cells.size = (E.ti e).sz) ∧ (∀ b, v.ownBlock = some b → ∃ id, oid = some id ∧ m[id]? = some (.blk b)) := by
  have hsz2 : E.cx.sz e = (E.ti e).sz := by obtain ⟨_, _, _, _, _, _, _, _, _, h⟩ := tyOf_spec hok he; exact h
  cases x with
  | nils =>
    simp only [dstA, Option.some.injEq, Prod.mk.injEq] at h
    obtain ⟨rfl, rfl⟩ := h
    simp only [Env.Rel, Abs.Rel] at hx
    subst hx
    exact ⟨[], by simpa [flat] using World.ownsRow_nil w 0 e (E.ti e).sz, by simp [Abs.RelL], by simp, by simp [Value.ownBlock]⟩
  | own id lo n =>
    simp only [dstA] at h
    split at h
    · rename_i es0 e' ho
      split at h
      · rename_i hc
        obtain ⟨rfl, rfl, rfl⟩ := hc
        simp only [Option.some.injEq, Prod.mk.injEq] at h
        obtain ⟨rfl, rfl⟩ := h
        simp only [Env.Rel, Abs.Rel] at hx
        obtain ⟨A, c, h1, h2, h3, h4, h5, h6⟩ := hx
        obtain ⟨q, hq, hob⟩ := hs.live id _ ho
        cases q with
        | dead => exact hob.elim
        | nil =>
          subst hob
          obtain ⟨rfl, rfl⟩ := h5 hq
          subst h1
          exact ⟨[], by simpa [flat] using World.ownsRow_nil w 0 e' (E.ti e').sz, by simp [Abs.RelL], by simp, by simp [Value.ownBlock]⟩
        | blk b =>
          obtain ⟨us, vs, h7, h8, h9, h10⟩ := hob
          obtain ⟨e2, k2, h11, h12, h13⟩ := h6 b hq
          have hee : e2 = e' ∧ k2 = us.size := by
            unfold World.shape? at h11
            rw [h7] at h11
            simp at h11
            exact ⟨h11.1.symm, h11.2.symm⟩
          obtain ⟨rfl, rfl⟩ := hee
          have hA := h13 (.inr rfl)
          subst h1
          simp only [Nat.zero_mul] at hA
          subst hA
          have hfl := flat_length h9
          rw [h8.length] at hfl
          refine ⟨vs, ⟨by rw [hfl, hsz2], .inr ⟨b, c, us, rfl, Nat.zero_le _, h7, h2, h3, ?_, ?_⟩⟩, h8, fun u hu => by rw [h9 u hu, hsz2], fun b' hb' => ?_⟩
          · rw [← h12, hsz2]; simp
          · rw [← hsz2, ← hfl]; exact h10
          · simp [Value.ownBlock] at hb'
            subst hb'
            exact ⟨id, rfl, hq⟩
      · cases h
    · cases h
  | _ => simp [dstA] at h

/-- What is grown takes a new name. -/
theorem grown_sim {m : Mu} {w w' : World} {e : TypeId} {v v' : Value} {oid : Option Nat} {es : List AV} {vs : List Value} {n : Nat} (hok : E.Ok) (he : Nat.blt e E.n = true) (hs : E.Sim m w H)
    (hoid : ∀ b, v.ownBlock = some b → ∃ id, oid = some id ∧ m[id]? = some (.blk b)) (hlt : ∀ id, oid = some id → id < m.length) (hn : n = es.length)
    (hown : w'.ownsRow 0 e (E.ti e).sz v' n (flat vs)) (hg : w.grownBy w' v.ownBlock) (hat : v'.ownBlock = v.ownBlock ∨ v'.ownBlock = some w.heap.size) (hr : E.RelL m w es vs) (hk : ∀ u ∈ vs, u.cells.size = (E.ti e).sz)
    (hsh : ∀ b s, w.shape? b = some s → w'.shape? b = some s) :
    ∃ m', Ext m w m' w' ∧ E.Rel m' w' (.own H.length 0 n) v' ∧ E.Sim m' w' (dropId H oid ++ [some (.arr es e)]) := by
  have hsz2 : E.cx.sz e = (E.ti e).sz := by obtain ⟨_, _, _, _, _, _, _, _, _, h⟩ := tyOf_spec hok he; exact h
  -- the new name's state
  obtain ⟨x, hx1, hx2⟩ : ∃ x : MS, (x = .nil ∧ v' = .slice none 0 0 ∧ n = 0 ∨ ∃ g cap cur, x = .blk g ∧ v' = .slice (some ⟨g, 0, none⟩) n cap ∧ w'.heap[g]? = some (.cells cur e (0, 0)) ∧ n ≤ cap ∧ cap ≤ maxLen ∧ cur.size = cap * (E.ti e).sz ∧ cur.toList.take (n * (E.ti e).sz) = flat vs) ∧
      (∀ g, x = .blk g → (∃ id, oid = some id ∧ m[id]? = some (.blk g)) ∨ g = w.heap.size) := by
    rcases hown.2 with ⟨h1, h2⟩ | ⟨g, cap, cur, h1, _, h2, h3, h4, h5, h6⟩
    · exact ⟨.nil, .inl ⟨rfl, h1, h2⟩, by simp⟩
    · refine ⟨.blk g, .inr ⟨g, cap, cur, rfl, h1, h2, h3, h4, h5, h6⟩, fun g' hg' => ?_⟩
      cases hg'
      subst h1
      rcases hat with h | h
      · exact .inl (hoid g (by rw [← h]; rfl))
      · simp [Value.ownBlock] at h
        exact .inr h
  have hdl : (deadId m oid).length = m.length := by cases oid <;> simp [deadId]
  have hHl : (dropId H oid).length = H.length := by cases oid <;> simp [dropId]
  have hsub : ∀ (i : Nat) (y : MS), y ≠ .dead → (deadId m oid)[i]? = some y → m[i]? = some y ∧ oid ≠ some i := fun i y hy h => by
    cases oid with
    | none => exact ⟨h, by simp⟩
    | some id =>
      simp only [deadId] at h
      by_cases hid : id = i
      · subst hid
        rw [List.getElem?_set_self (hlt id rfl)] at h
        cases h; exact absurd rfl hy
      · rw [List.getElem?_set_ne hid] at h
        exact ⟨h, by simp [hid]⟩
  have hmem : ∀ b, MS.blk b ∈ deadId m oid → MS.blk b ∈ m := fun b hb => by
    obtain ⟨i, hi, he⟩ := List.getElem_of_mem hb
    exact List.mem_of_getElem? (hsub i _ (by simp) (by rw [List.getElem?_eq_getElem hi, he])).1
  have hext : Ext m w (deadId m oid ++ [x]) w' := {
    os := hg.os
    tape := hg.tape
    output := hg.output
    size := hg.size
    keep := fun b hb hn => hg.block b hb fun e => by
      obtain ⟨id, _, h2⟩ := hoid b e.symm
      exact hn (List.mem_of_getElem? h2)
    fresh := fun b hb h => by
      simp only [List.mem_append, List.mem_singleton] at h
      rcases h with h | h
      · exact hmem b h
      · rcases hx2 b h.symm with ⟨id, _, h2⟩ | h2
        · exact List.mem_of_getElem? h2
        · omega
    len := by simp [hdl]
    ids := fun i y hi hy h => by
      rw [List.getElem?_append_left (by rw [hdl]; exact hi)] at h
      exact (hsub i y hy h).1
    shape := hsh }
  have hnew : (deadId m oid ++ [x])[H.length]? = some x := by
    rw [List.getElem?_append_right (by rw [hdl, hs.len]; exact Nat.le_refl _), hdl, hs.len]; simp
  refine ⟨deadId m oid ++ [x], hext, ?_, ?_⟩
  · show Abs.Rel _ _ _ _ _
    simp only [Abs.Rel]
    rcases hx1 with ⟨hx, h1, h2⟩ | ⟨g, cap, cur, hx, h1, h2, h3, h4, h5, h6⟩
    · subst h2
      refine ⟨none, 0, h1, Nat.le_refl _, Nat.zero_le _, by simp [hdl, hs.len], fun _ => ⟨rfl, rfl⟩, fun b hb => ?_⟩
      rw [hnew, hx] at hb; cases hb
    · refine ⟨_, cap, h1, h3, h4, by simp [hdl, hs.len], fun h => ?_, fun b hb => ?_⟩
      · rw [hnew, hx] at h; cases h
      · rw [hnew, hx] at hb; cases hb
        exact ⟨e, cur.size, by unfold World.shape?; rw [h2], by rw [h5, hsz2]; simp, fun _ => by simp⟩
  · refine ⟨by simp [hdl, hHl, hs.len], fun i o ho => ?_, fun i ho => ?_, fun i j b hi hj => ?_, fun b hb => Nat.lt_of_lt_of_le (hs.xlt b hb) hg.size, fun b hb hX => ?_⟩
    · rcases Nat.lt_or_ge i H.length with hl | hge
      · rw [List.getElem?_append_left (by rw [hHl]; exact hl)] at ho
        have hne : oid ≠ some i := fun h => by
          subst h
          simp only [dropId] at ho
          rw [List.getElem?_set_self hl] at ho
          cases ho
        have ho' : H[i]? = some (some o) := by
          cases oid with
          | none => exact ho
          | some id =>
            simp only [dropId] at ho
            rwa [List.getElem?_set_ne (by intro h; exact hne (by rw [h]))] at ho
        obtain ⟨y, h1, h2⟩ := hs.live i o ho'
        have h3 : (deadId m oid ++ [x])[i]? = some y := by
          rw [List.getElem?_append_left (by rw [hdl, hs.len]; exact hl)]
          cases oid with
          | none => exact h1
          | some id =>
            simp only [deadId]
            rwa [List.getElem?_set_ne (by intro h; exact hne (by rw [h]))]
        refine ⟨y, h3, h2.ext hext fun b hb => ?_⟩
        subst hb
        refine hg.block b h2.lt fun e => ?_
        obtain ⟨id, hid, h4⟩ := hoid b e.symm
        have := hs.inj i id b h1 h4
        subst this
        exact hne hid
      · rw [List.getElem?_append_right (by rw [hHl]; exact hge), hHl] at ho
        have h0 : i - H.length = 0 := by
          rcases Nat.eq_zero_or_pos (i - H.length) with h0 | h0
          · exact h0
          · rw [List.getElem?_eq_none (by simp; omega)] at ho; cases ho
        rw [h0] at ho
        simp at ho
        subst ho
        have : i = H.length := by omega
        subst this
        refine ⟨x, hnew, ?_⟩
        rcases hx1 with ⟨hx, h1, h2⟩ | ⟨g, cap, cur, hx, h1, h2, h3, h4, h5, h6⟩
        · subst hx
          show es = []
          exact List.eq_nil_of_length_eq_zero (by omega)
        · subst hx
          have hfl := flat_length hk
          rw [hr.length, ← hn] at hfl
          exact ⟨cur, vs, h2, RelL.ext hext _ hr, fun u hu => by rw [hk u hu, hsz2], by rw [hfl]; exact h6⟩
    · rcases Nat.lt_or_ge i H.length with hl | hge
      · rw [List.getElem?_append_left (by rw [hHl]; exact hl)] at ho
        rw [List.getElem?_append_left (by rw [hdl, hs.len]; exact hl)]
        cases oid with
        | none => exact hs.dead i ho
        | some id =>
          simp only [dropId, deadId] at ho ⊢
          by_cases hid : id = i
          · subst hid
            rw [List.getElem?_set_self (hlt id rfl)]
          · rw [List.getElem?_set_ne hid] at ho ⊢
            exact hs.dead i ho
      · rw [List.getElem?_append_right (by rw [hHl]; exact hge), hHl] at ho
        have h0 : i - H.length = 0 := by
          rcases Nat.eq_zero_or_pos (i - H.length) with h0 | h0
          · exact h0
          · rw [List.getElem?_eq_none (by simp; omega)] at ho; cases ho
        rw [h0] at ho
        simp at ho
    · have key : ∀ i : Nat, (deadId m oid ++ [x])[i]? = some (.blk b) → (m[i]? = some (.blk b) ∧ oid ≠ some i) ∨ (i = m.length ∧ x = .blk b) := fun i hi => by
        rcases Nat.lt_or_ge i m.length with hl | hge
        · rw [List.getElem?_append_left (by rw [hdl]; exact hl)] at hi
          exact .inl (hsub i _ (by simp) hi)
        · rw [List.getElem?_append_right (by rw [hdl]; exact hge), hdl] at hi
          have h0 : i - m.length = 0 := by
            rcases Nat.eq_zero_or_pos (i - m.length) with h0 | h0
            · exact h0
            · rw [List.getElem?_eq_none (by simp; omega)] at hi; cases hi
          rw [h0] at hi
          simp at hi
          exact .inr ⟨by omega, hi⟩
      have clash : ∀ i : Nat, m[i]? = some (.blk b) → oid ≠ some i → x = .blk b → False := fun i h1 h2 h3 => by
        rcases hx2 b h3 with ⟨id, hid, h4⟩ | h4
        · exact h2 (by rw [hid, hs.inj i id b h1 h4])
        · have := hs.lt (List.mem_of_getElem? h1); omega
      rcases key i hi with ⟨h1, h2⟩ | ⟨h1, h2⟩ <;> rcases key j hj with ⟨h3, h4⟩ | ⟨h3, h4⟩
      · exact hs.inj i j b h1 h3
      · exact (clash i h1 h2 h4).elim
      · exact (clash j h3 h4 h2).elim
      · omega
    · simp only [List.mem_append, List.mem_singleton] at hb
      rcases hb with hb | hb
      · exact hs.disj b (hmem b hb) hX
      · rcases hx2 b hb.symm with ⟨id, _, h4⟩ | h4
        · exact hs.disj b (List.mem_of_getElem? h4) hX
        · have := hs.xlt b hX; omega

theorem ap_core {P : Program} (w : World) {t u ty e : TypeId} {i : TypeInfo} {z : Value} {size bytes : Nat} (ht : P.underlying t = some (.slice e)) (hu : P.underlying u = some (.slice e)) (hi : P.info? e = some i) (hz : i.zero = some z)
    (hsize : i.size = size) (hby : i.bytes = bytes) (hzs : z.cells.size = size) (hsz : 0 < size)
    {v : Value} {n : Nat} {xs : List Value} (hown : w.ownsRow 0 e size v n xs) {A : Option Addr} {m c : Nat} {news : List Value} (hl : news.length = m * size)
    (hsrc : news ≠ [] → ∃ a, A = some a ∧ ∀ (j : Nat) (u : Value), news[j]? = some u → w.cell? (a.add j) = some u) (h1 : ∀ u ∈ news, u.oneCell' = true) (h63 : n + m ≤ maxLen) (hbytes : (n + m) * bytes ≤ 140737488355328) :
    ∃ v' w', (Builtin.append_ #[t, u] ty #[v, .slice A m c]).run P w = .ok v' w' ∧ w'.ownsRow 0 e size v' (n + m) (xs ++ news) ∧ w.grownBy w' v.ownBlock ∧ (v'.ownBlock = v.ownBlock ∨ v'.ownBlock = some w.heap.size) ∧
      ∀ b s, w.shape? b = some s → w'.shape? b = some s := by
  subst hsize
  subst hby
  have hut : ∀ (y : Value), (Builtin.append_ #[t, u] ty #[v, y]).run P w = (Builtin.append_ #[t, t] ty #[v, y]).run P w := fun y => by
    obtain ⟨A0, c0, rfl⟩ : ∃ A0 c0, v = .slice A0 n c0 := by
      rcases hown.2 with ⟨rfl, rfl⟩ | ⟨g, cap, cur, rfl, _⟩ <;> exact ⟨_, _, rfl⟩
    simp only [Builtin.append_, Sem.run_bind, run_underlying ht, run_underlying hu, Result.andThen_ok, List.getElem?_toArray, List.getElem?_cons_zero, List.getElem?_cons_succ, Sem.run_pure]
  rw [hut]
  by_cases hm : m = 0
  · subst hm
    have hn : news = [] := List.eq_nil_of_length_eq_zero (by simpa using hl)
    subst hn
    refine ⟨v, w, ?_, by simpa using hown, World.grownBy.refl w _, .inl rfl, fun _ _ h => h⟩
    rcases hown.2 with ⟨rfl, rfl⟩ | ⟨g, cap, cur, rfl, _, _, hnc, _⟩
    · cases A <;> simp [Builtin.append_, run_underlying ht, sizeOf, typeInfo, hi, Builtin.lenOf, Builtin.firstCells, loadCells, loadCellsFrom]
    · cases A <;> simp [Builtin.append_, run_underlying ht, sizeOf, typeInfo, hi, Builtin.lenOf, Builtin.firstCells, loadCells, loadCellsFrom, hnc, storeCells]
  · have hne : news ≠ [] := fun h => by
      rw [h] at hl
      rcases Nat.mul_eq_zero.1 hl.symm with h | h <;> omega
    obtain ⟨a, rfl, hnews⟩ := hsrc hne
    have hsmall : n + m ≤ 9223372036854775807 := by simp only [maxLen] at h63; omega
    have hlen : (xs ++ news).length = (n + m) * i.size := by rw [List.length_append, hown.1, hl, Nat.add_mul]
    have grown : ∀ (old : Nat), old < n + m → ∀ (row : Option Nat),
        (w.drew.alloc (.cells (xs.toArray ++ news.toArray ++ Builtin.zeroCells z.cells (grownCap w (n + m) old e - (n + m))) e)).ownsRow 0 e i.size
          (.slice (some ⟨w.heap.size, 0, none⟩) (n + m) (grownCap w (n + m) old e)) (n + m) (xs ++ news) ∧
        w.grownBy (w.drew.alloc (.cells (xs.toArray ++ news.toArray ++ Builtin.zeroCells z.cells (grownCap w (n + m) old e - (n + m))) e)) row := by
      intro old ho row
      have hge := grownCap_ge w (n + m) old e
      have hcm : grownCap w (n + m) old e ≤ maxLen := grownCap_le_maxLen w (n + m) old e h63
      refine ⟨⟨hlen, .inr ⟨w.heap.size, _, _, rfl, Nat.zero_le _, heap_alloc_new w.drew _, hge, hcm, ?_, ?_⟩⟩, ⟨rfl, rfl, rfl, by simp, fun k hk _ => RowKit.Below.heap_alloc w.drew _ k hk⟩⟩
      · simp only [Array.size_append, List.size_toArray, size_zeroCells, hzs, hown.1, hl, ← Nat.add_mul]
        congr 1
        omega
      · simp only [Array.toList_append, List.append_assoc]
        rw [← List.append_assoc, ← hlen]
        exact List.take_left
    have hshn : ∀ (o : Obj) b s, w.shape? b = some s → (w.drew.alloc o).shape? b = some s := fun o b s h => shape_alloc (w := w.drew) h
    rcases hown.2 with ⟨rfl, rfl⟩ | ⟨g, cap, cur, rfl, hbg, hg, hnc, hcm, hcs, htake⟩
    · have hx : xs = [] := List.eq_nil_of_length_eq_zero (by simpa using hown.1)
      subst hx
      have hr := run_append_nil (P := P) w t ty e i z ht hi hz a m c news hl hnews (by omega) (by omega) (by have hb := hbytes; simp only [Nat.zero_add] at hb; omega)
      have hgr := grown 0 (by omega) (Value.ownBlock (.slice none 0 0))
      simp only [Nat.zero_add, List.nil_append, Array.empty_append] at hgr ⊢
      exact ⟨_, _, hr, hgr.1, hgr.2, .inr rfl, hshn _⟩
    · by_cases hroom : n + m ≤ cap
      · have hfit : n * i.size + news.length ≤ cur.size := by rw [hl, hcs, ← Nat.add_mul]; exact Nat.mul_le_mul_right _ hroom
        have hr := run_append_room (P := P) w t ty e i ht hi g n cap cur hg a m c news hl hnews h1 hroom hfit
        have hsz2 : (cur.toList.take (n * i.size) ++ news ++ cur.toList.drop (n * i.size + news.length)).toArray.size = cur.size := by
          simp only [List.size_toArray, List.length_append, List.length_take, List.length_drop, Array.length_toList]
          omega
        refine ⟨_, _, hr, ⟨hlen, .inr ⟨g, cap, _, rfl, hbg, setRow_heap w g cur _ e _ hg, hroom, hcm, ?_, ?_⟩⟩, ⟨rfl, rfl, rfl, by simp, fun k _ hk => setRow_other w g k _ (fun e => hk (by simp [Value.ownBlock, e]))⟩, .inl rfl, ?_⟩
        · rw [hsz2, hcs]
        · rw [htake, ← hlen]
          exact List.take_left
        · intro b s hs
          by_cases hb : g = b
          · subst hb
            unfold World.shape? at hs ⊢
            rw [hg] at hs
            rw [setRow_heap w g cur _ e _ hg]
            simp only [Option.some.injEq] at hs ⊢
            rw [hsz2, hs]
          · unfold World.shape? at hs ⊢
            rw [setRow_other w g b _ (Ne.symm hb)]; exact hs
      · have holds : ∀ (j : Nat) (u : Value), xs[j]? = some u → w.cell? ((⟨g, 0, none⟩ : Addr).add j) = some u := hown.cells (g := g) rfl
        have hr := run_append_grow (P := P) w t ty e i z ht hi hz ⟨g, 0, none⟩ n cap xs hown.1 holds a m c news hl hnews (by omega) (by omega) (growslice_fits (by omega) hbytes)
        have hgr := grown cap (by omega) (Value.ownBlock (.slice (some ⟨g, 0, none⟩) n cap))
        exact ⟨_, _, hr, hgr.1, hgr.2, .inr rfl, hshn _⟩

/-- Elements that are known, cell by cell. -/
def OneEs (es : List AV) : Prop := ∀ y ∈ es, known y = true ∧ (cellsA y).all oneA = true
theorem OneEs.flat {sz : Cx} {m : Mu} {w : World} : ∀ {es : List AV} {vs : List Value}, OneEs es → RelL sz m w es vs → ∀ u ∈ flat vs, u.oneCell' = true
  | [], _, _, h, u, hu => by rw [relL_nil] at h; subst h; simp [Abs.flat] at hu
  | y :: es, _, h1, h, u, hu => by
    rw [relL_cons] at h
    obtain ⟨v, r, rfl, h2, h3⟩ := h
    have hy := h1 y (by simp)
    simp only [Abs.flat, List.flatMap_cons, List.mem_append] at hu
    rcases hu with hu | hu
    · exact one_relL (cells_rel h2 hy.1) hy.2 u hu
    · exact OneEs.flat (fun z hz => h1 z (by simp [hz])) h3 u hu

theorem st_append {t t' e : TypeId} {x y : Operand} {z es new : List AV} {oid : Option Nat} (ht : Nat.blt t E.n = true) (hk : (E.ti t).k = .sl e) (ht' : Nat.blt t' E.n = true) (hk' : (E.ti t').k = .sl e) (he : Nat.blt e E.n = true) (hz : (E.ti e).z = some z)
    (hzl : Nat.beq z.length (E.ti e).sz = true) (hz0 : Nat.blt 0 (E.ti e).sz = true) (hd : dstA H e (ρ x) = some (oid, es)) (hs : srcA E H (E.ti e).sz (ρ y) = some new) (hone : OneEs new)
    (hm : es.length + new.length ≤ maxLen) (hb : (es.length + new.length) * (E.ti e).bt ≤ 140737488355328) (h : K (.own H.length 0 (es.length + new.length)) (dropId H oid ++ [some (.arr (es ++ new) e)])) :
    AStep E ⟨d, .call ⟨.builtin .append, #[x, y], #[t, t']⟩, ty, pos, after, g⟩ ρ H K := by
  refine step_any (fun m w a hok hr hsim => ?_)
  obtain ⟨v, _, h2, i, h3, h4, h5, h6⟩ := zero_spec hok he hz
  have hvs : v.cells.size = (E.ti e).sz := by
    have := congrArg List.length h2
    simp at this
    rw [this]
    exact Nat.eq_of_beq_eq_true hzl
  obtain ⟨vs, o1, o2, o3, o4⟩ := dst_spec hok he hsim (hr x) hd
  obtain ⟨A, c, us, s1, _, s3, s4, s5⟩ := src_spec hok hsim (hr y) hs
  obtain ⟨v', w', r1, r2, r3, r4, r5⟩ := ap_core (P := E.P) w (ty := ty) (tk_sl hok ht hk) (tk_sl hok ht' hk') h3 h4 h5 h6 hvs (by simpa using hz0) o1 (A := A) (c := c) (by rw [flat_length s4, s3.length]) s5 (hone.flat s3) hm hb
  have hoid : ∀ id, oid = some id → id < m.length := fun id hid => by
    subst hid
    cases hx : ρ x with
    | own id' lo n =>
      have h8 := hr x
      rw [hx] at h8
      simp only [Env.Rel, Abs.Rel] at h8
      obtain ⟨_, _, _, _, _, h9, _⟩ := h8
      rw [hx] at hd
      simp only [dstA] at hd
      split at hd
      · split at hd
        · simp only [Option.some.injEq, Prod.mk.injEq] at hd
          rw [← hd.1]; exact h9
        · cases hd
      · cases hd
    | _ => rw [hx] at hd; simp [dstA] at hd
  have hko : ∀ u ∈ vs ++ us, u.cells.size = (E.ti e).sz := fun u hu => by
    simp only [List.mem_append] at hu
    rcases hu with hu | hu
    · exact o3 u hu
    · exact s4 u hu
  obtain ⟨m', g1, g2, g3⟩ := grown_sim (n := es.length + new.length) (es := es ++ new) (vs := vs ++ us) (oid := oid) hok he hsim o4 hoid (by simp) (by rw [flat_append]; exact r2) r3 r4 (o2.append s3) hko r5
  refine ⟨v', w', m', _, _, ?_, g1, g2, g3, h⟩
  simp only [execOp, resolve, invoke, builtin, Sem.run_bind, Sem.run_pure, Result.andThen_ok, List.map_toArray, List.map_cons, List.map_nil, s1, r1]
end
end Go.Abs
