/- The operations on memory. -/
import Derived.Test.YtfldnfchjaaoeaaA3
namespace Go.Abs

/-! ### Worlds that grow -/
section
variable {sz : Cx} {m : Mu} {w : World} {H : Hp}

theorem shape_alloc {o : Obj} {b : Nat} {s : TypeId × Nat} (h : w.shape? b = some s) : (w.alloc o).shape? b = some s := by
  unfold World.shape? at *
  have hlt : b < w.heap.size := by
    rcases Nat.lt_or_ge b w.heap.size with h' | h'
    · exact h'
    · rw [Array.getElem?_eq_none h'] at h; cases h
  rw [RowKit.Below.heap_alloc w o b hlt]; exact h
theorem Ext.drew (m : Mu) (w : World) : Ext m w m w.drew :=
  ⟨rfl, rfl, rfl, Nat.le_refl _, fun _ _ _ => rfl, fun _ _ h => h, Nat.le_refl _, fun _ _ _ _ h => h, fun _ _ h => h⟩
theorem Ext.alloc (m : Mu) (w : World) (o : Obj) : Ext m w m (w.alloc o) :=
  ⟨rfl, rfl, rfl, by simp, fun b hb _ => RowKit.Below.heap_alloc w o b hb, fun _ _ h => h, Nat.le_refl _, fun _ _ _ _ h => h, fun _ _ h => shape_alloc h⟩
theorem Sim.of_ext {w' : World} (h : Sim sz m w H) (e : Ext m w m w') (hk : ∀ b, MS.blk b ∈ m → w'.heap[b]? = w.heap[b]?) : Sim sz m w' H where
  len := h.len
  live := fun id o ho => by
    obtain ⟨x, h1, h2⟩ := h.live id o ho
    exact ⟨x, h1, h2.ext e fun b hb => hk b (hb ▸ List.mem_of_getElem? h1)⟩
  dead := h.dead
  inj := h.inj
  xlt := fun b hb => Nat.lt_of_lt_of_le (h.xlt b hb) e.size
  disj := h.disj
theorem Sim.drew (h : Sim sz m w H) : Sim sz m w.drew H := h.of_ext (Ext.drew m w) fun _ _ => rfl
theorem Sim.alloc (h : Sim sz m w H) (o : Obj) : Sim sz m (w.alloc o) H :=
  h.of_ext (Ext.alloc m w o) fun b hb => RowKit.Below.heap_alloc w o b (h.lt hb)

/-- A new object under a new name. -/
theorem Ext.push (m : Mu) (w : World) (o : Obj) : Ext m w (m ++ [.blk w.heap.size]) (w.alloc o) where
  os := rfl
  tape := rfl
  output := rfl
  size := by simp
  keep := fun b hb _ => RowKit.Below.heap_alloc w o b hb
  fresh := fun b hb h => by
    simp only [List.mem_append, List.mem_singleton, MS.blk.injEq] at h
    rcases h with h | h
    · exact h
    · omega
  len := by simp
  ids := fun id x hid _ h => by rwa [List.getElem?_append_left hid] at h
  shape := fun _ _ h => shape_alloc h
theorem Sim.push (h : Sim sz m w H) {o : Obj} {ao : AO} (hb : OB sz (m ++ [.blk w.heap.size]) (w.alloc o) ao (.blk w.heap.size)) :
    Sim sz (m ++ [.blk w.heap.size]) (w.alloc o) (H ++ [some ao]) where
  len := by simp [h.len]
  live := fun id o' ho => by
    rcases Nat.lt_or_ge id H.length with hlt | hge
    · rw [List.getElem?_append_left hlt] at ho
      obtain ⟨x, h1, h2⟩ := h.live id o' ho
      refine ⟨x, by rw [List.getElem?_append_left (h.len ▸ hlt)]; exact h1, h2.ext (Ext.push m w o) fun b hb => ?_⟩
      exact RowKit.Below.heap_alloc w o b (h.lt (hb ▸ List.mem_of_getElem? h1))
    · rw [List.getElem?_append_right hge] at ho
      have h0 : id - H.length = 0 := by
        rcases Nat.eq_zero_or_pos (id - H.length) with h0 | h0
        · exact h0
        · rw [List.getElem?_eq_none (by simp; omega)] at ho; cases ho
      rw [h0] at ho
      simp at ho
      subst ho
      refine ⟨.blk w.heap.size, ?_, hb⟩
      rw [List.getElem?_append_right (by rw [h.len]; exact hge), h.len, h0]
      rfl
  dead := fun id ho => by
    rcases Nat.lt_or_ge id H.length with hlt | hge
    · rw [List.getElem?_append_left hlt] at ho
      rw [List.getElem?_append_left (h.len ▸ hlt)]
      exact h.dead id ho
    · rw [List.getElem?_append_right hge] at ho
      have h0 : id - H.length = 0 := by
        rcases Nat.eq_zero_or_pos (id - H.length) with h0 | h0
        · exact h0
        · rw [List.getElem?_eq_none (by simp; omega)] at ho; cases ho
      rw [h0] at ho
      simp at ho
  inj := fun i j b hi hj => by
    have hlt : ∀ i : Nat, m[i]? = some (MS.blk b) → b < w.heap.size := fun i hi => h.lt (List.mem_of_getElem? hi)
    have key : ∀ i : Nat, (m ++ [MS.blk w.heap.size])[i]? = some (.blk b) → m[i]? = some (.blk b) ∨ (i = m.length ∧ b = w.heap.size) := fun i hi => by
      rcases Nat.lt_or_ge i m.length with hl | hg
      · rw [List.getElem?_append_left hl] at hi; exact .inl hi
      · rw [List.getElem?_append_right hg] at hi
        have h0 : i - m.length = 0 := by
          rcases Nat.eq_zero_or_pos (i - m.length) with h0 | h0
          · exact h0
          · rw [List.getElem?_eq_none (by simp; omega)] at hi; cases hi
        rw [h0] at hi
        simp at hi
        exact .inr ⟨by omega, hi.symm⟩
    rcases key i hi with h1 | ⟨h1, h2⟩ <;> rcases key j hj with h3 | ⟨h3, h4⟩
    · exact h.inj i j b h1 h3
    · have := hlt i h1; omega
    · have := hlt j h3; omega
    · omega
  xlt := fun b hb => by have := h.xlt b hb; simp; omega
  disj := fun b hb hx => by
    simp only [List.mem_append, List.mem_singleton, MS.blk.injEq] at hb
    rcases hb with hb | rfl
    · exact h.disj b hb hx
    · exact Nat.lt_irrefl _ (h.xlt _ hx)

/-- One owned block takes another content. -/
theorem Ext.owned {w' : World} {b : Nat} (hb : MS.blk b ∈ m) (hos : w'.os = w.os) (htp : w'.tape = w.tape) (hout : w'.output = w.output) (hsz : w'.heap.size = w.heap.size)
    (hk : ∀ c, c ≠ b → w'.heap[c]? = w.heap[c]?) (hsh : ∀ s, w.shape? b = some s → w'.shape? b = some s) : Ext m w m w' where
  os := hos
  tape := htp
  output := hout
  size := by omega
  keep := fun c _ hn => hk c fun e => hn (e ▸ hb)
  fresh := fun _ _ h => h
  len := Nat.le_refl _
  ids := fun _ _ _ _ h => h
  shape := fun c s h => by
    by_cases hc : c = b
    · subst hc; exact hsh s h
    · unfold World.shape? at *; rw [hk c hc]; exact h
theorem Sim.owned {w' : World} (hs : Sim sz m w H) (e : Ext m w m w') {id b : Nat} (hid : m[id]? = some (.blk b)) (hk : ∀ c, c ≠ b → w'.heap[c]? = w.heap[c]?) {ao : AO} (ho : OB sz m w' ao (.blk b)) :
    Sim sz m w' (H.set id (some ao)) where
  len := by simp [hs.len]
  live := fun i o h => by
    by_cases hi : id = i
    · subst hi
      have hlt : id < H.length := by rw [← hs.len]; exact (List.getElem?_eq_some_iff.1 hid).1
      rw [List.getElem?_set_self hlt] at h
      cases h
      exact ⟨_, hid, ho⟩
    · rw [List.getElem?_set_ne hi] at h
      obtain ⟨x, h1, h2⟩ := hs.live i o h
      exact ⟨x, h1, h2.ext e fun c hc => hk c fun e2 => hi (hs.inj id i b hid (by rw [h1, hc, e2]))⟩
  dead := fun i h => by
    by_cases hi : id = i
    · subst hi
      have hlt : id < H.length := by rw [← hs.len]; exact (List.getElem?_eq_some_iff.1 hid).1
      rw [List.getElem?_set_self hlt] at h
      cases h
    · rw [List.getElem?_set_ne hi] at h
      exact hs.dead i h
  inj := hs.inj
  xlt := fun b hb => Nat.lt_of_lt_of_le (hs.xlt b hb) e.size
  disj := hs.disj
end

section
variable {E : Env} {N n0 : Nat} {Q : Exit → St → Prop} {s : St} {ρ : Operand → AV} {H : Hp} {K : AV → Hp → Prop}
variable {d : Option Tmp} {ty : TypeId} {pos : String} {after : Array Edge} {g : Option (Nat × Bool)}

def oc (v : Value) : Bool := v.oneCell'
/-- Loading k cells at a. -/
theorem run_cells {w : World} {a : Addr} {us : List Value} (h : ∀ (j : Nat) (u : Value), us[j]? = some u → w.cell? (a.add j) = some u) : (loadCells a us.length).run E.P w = .ok us.toArray w :=
  run_loadCells_list w a us h

/-- What a load of a type gives off the cells that lie there. -/
def ldA (t : Ty) (cs : List AV) : Option AV :=
  if t.k.agg then (if t.sz ≤ cs.length then some (.agg (cs.take t.sz)) else none) else cs.head?
theorem run_ldA {t : TypeId} (hok : E.Ok) (ht : Nat.blt t E.n = true) {m : Mu} {w : World} {a : Addr} {cs : List AV} {us : List Value} {r : AV} (hr : ldA (E.ti t) cs = some r) (hc : E.RelL m w cs us)
    (hl : ∀ (j : Nat) (u : Value), us[j]? = some u → w.cell? (a.add j) = some u) : ∃ v, (loadVar t a).run E.P w = .ok v w ∧ E.Rel m w r v := by
  unfold ldA at hr
  unfold loadVar
  simp only [Sem.run_bind, run_agg hok ht, Result.andThen_ok]
  split at hr
  · rename_i hag
    split at hr
    · rename_i hlen
      cases hr
      have hul : (us.take (E.ti t).sz).length = (E.ti t).sz := by rw [List.length_take, hc.length]; omega
      have h1 := run_cells (E := E) (w := w) (a := a) (us := us.take (E.ti t).sz) (fun j u hu => by
        rw [List.getElem?_take] at hu
        split at hu
        · exact hl j u hu
        · cases hu)
      rw [hul] at h1
      refine ⟨.agg (us.take (E.ti t).sz).toArray, by simp only [hag, if_true, Sem.run_bind, run_size hok ht, Result.andThen_ok, h1, Sem.run_pure], ?_⟩
      show Abs.Rel _ _ _ _ _
      simp only [Abs.Rel]
      exact ⟨_, rfl, hc.take _⟩
    · cases hr
  · rename_i hag
    cases cs with
    | nil => cases hr
    | cons x xs =>
      simp at hr
      subst hr
      obtain ⟨u, r, rfl, h1, _⟩ := relL_cons.1 hc
      refine ⟨u, ?_, h1⟩
      have h0 := hl 0 u (by simp)
      have hadd : a.add 0 = a := by simp [Addr.add]
      rw [hadd] at h0
      simp [hag, h0]

/-- The cells that a pointer shows. -/
def cellsAt (H : Hp) : AV → Option (List AV)
  | .fp cs => some cs
  | .ptr id off => match H[id]? with
    | some (some (.cells cs _)) => some (cs.drop off)
    | _ => none
  | .pe id i off => match H[id]? with
    | some (some (.arr es _)) => match es[i]? with
      | some x => if known x then some ((cellsA x).drop off) else none
      | none => none
    | _ => none
  | _ => none

theorem flat_get {vs : List Value} {k i : Nat} {v : Value} (hk : ∀ u ∈ vs, u.cells.size = k) (hv : vs[i]? = some v) (j : Nat) (hj : j < k) : (flat vs)[i * k + j]? = v.cells.toList[j]? := by
  induction vs generalizing i with
  | nil => simp at hv
  | cons x xs ih =>
    have hx : x.cells.toList.length = k := by simpa using hk x (by simp)
    cases i with
    | zero =>
      simp at hv; subst hv
      simp only [flat, List.flatMap_cons, Nat.zero_mul, Nat.zero_add]
      rw [List.getElem?_append_left (by omega)]
    | succ i =>
      simp at hv
      have := ih (fun u hu => hk u (by simp [hu])) hv
      simp only [flat, List.flatMap_cons]
      rw [List.getElem?_append_right (by rw [hx, Nat.add_mul]; omega)]
      rw [show (i + 1) * k + j - x.cells.toList.length = i * k + j by rw [hx, Nat.add_mul]; omega]
      exact this

theorem cellsAt_spec {m : Mu} {w : World} {x : AV} {v : Value} {cs : List AV} (hsim : E.Sim m w H) (hc : cellsAt H x = some cs) (hx : E.Rel m w x v) :
    ∃ a us, v = .pointer (some a) ∧ E.RelL m w cs us ∧ ∀ (j : Nat) (u : Value), us[j]? = some u → w.cell? (a.add j) = some u := by
  cases x with
  | fp c =>
    simp only [cellsAt, Option.some.injEq] at hc
    subst hc
    simp only [Env.Rel, Abs.Rel] at hx
    obtain ⟨a, us, h1, h2, h3⟩ := hx
    refine ⟨a, us, h1, h2, fun j u hu => ?_⟩
    obtain ⟨a', ha, _, _, _, h4⟩ := h3 (by intro he; rw [he] at hu; simp at hu)
    cases ha
    exact h4 j u hu
  | ptr id off =>
    simp only [cellsAt] at hc
    split at hc
    · rename_i c e ho
      cases hc
      simp only [Env.Rel, Abs.Rel] at hx
      obtain ⟨a, h1, _, h3⟩ := hx
      obtain ⟨b, hb, hob⟩ := hsim.live id _ ho
      cases b with
      | dead => exact hob.elim
      | nil => exact hob.elim
      | blk b =>
        obtain ⟨us, h4, h5⟩ := hob
        refine ⟨a, us.toList.drop off, h1, h5.drop off, fun j u hu => ?_⟩
        rw [h3 b hb]
        have : (⟨b, off, none⟩ : Addr).add j = ⟨b, off + j, none⟩ := by unfold Addr.add; split <;> simp_all
        rw [this, cell_of_row w b (off + j) us e (0, 0) h4]
        simpa [List.getElem?_drop] using hu
    · cases hc
  | pe id i off =>
    simp only [cellsAt] at hc
    split at hc
    · rename_i es e ho
      split at hc
      · rename_i y hy
        split at hc
        · rename_i hkn
          cases hc
          simp only [Env.Rel, Abs.Rel] at hx
          obtain ⟨a, h1, _, h3⟩ := hx
          obtain ⟨b, hb, hob⟩ := hsim.live id _ ho
          cases b with
          | dead => exact hob.elim
          | nil => subst hob; simp at hy
          | blk b =>
            obtain ⟨us, vs, h4, h5, h6, h7⟩ := hob
            obtain ⟨u, hu, hru⟩ := h5.get i hy
            have hcr := cells_rel hru hkn
            have hus : u.cells.size = E.cx.sz e := h6 u (List.mem_of_getElem? hu)
            refine ⟨a, u.cells.toList.drop off, h1, hcr.drop off, fun j z hz => ?_⟩
            obtain ⟨e', k', h8, h9⟩ := h3 b hb
            have he : e' = e := by
              unfold World.shape? at h8
              rw [h4] at h8
              simp at h8
              exact h8.1.symm
            subst he
            rw [h9]
            have hadd : (⟨b, i * E.cx.sz e' + off, none⟩ : Addr).add j = ⟨b, i * E.cx.sz e' + (off + j), none⟩ := by
              unfold Addr.add; split
              · simp_all
              · simp; omega
            rw [hadd, cell_of_row w b _ us e' (0, 0) h4]
            rw [List.getElem?_drop] at hz
            have hlt : off + j < E.cx.sz e' := by
              rw [← hus]
              have := (List.getElem?_eq_some_iff.1 hz).1
              simpa using this
            have hf := flat_get h6 hu (off + j) hlt
            rw [hz, ← h7, List.getElem?_take] at hf
            split at hf
            · simpa using hf
            · simp at hf
        · cases hc
      · cases hc
    · cases hc
  | _ => simp [cellsAt] at hc

theorem st_load {t : TypeId} {x : Operand} {cs : List AV} {r : AV} (hc : cellsAt H (ρ x) = some cs) (ht : Nat.blt t E.n = true) (hr : ldA (E.ti t) cs = some r) (h : K r H) :
    AStep E ⟨d, .load t x, ty, pos, after, g⟩ ρ H K := by
  refine step_same r (fun m w a hok hx hsim => ?_) h
  obtain ⟨ad, us, h1, h2, h3⟩ := cellsAt_spec hsim hc (hx x)
  obtain ⟨v, h4, h5⟩ := run_ldA hok ht hr h2 h3
  exact ⟨v, by simp [execOp, h1, Instr.loadAt, Instr.sureAddr, h4], h5⟩

/-- The address of a field. -/
def fieldOff (t : Ty) (i : Nat) : Option (Nat × TypeId) :=
  match t.k with
  | .struct fs => fs[i]?
  | _ => none
def shiftA (off : Nat) : AV → Option AV
  | .fp cs => some (.fp (cs.drop off))
  | .ptr id o => some (.ptr id (o + off))
  | .pe id i o => some (.pe id i (o + off))
  | _ => none
theorem shift_rel {m : Mu} {w : World} {x r : AV} {a : Addr} {off : Nat} (hr : shiftA off x = some r) (hx : E.Rel m w x (.pointer (some a))) : E.Rel m w r (.pointer (some (a.add off))) := by
  have hadd : ∀ (b o : Nat), (⟨b, o, none⟩ : Addr).add off = ⟨b, o + off, none⟩ := fun b o => by unfold Addr.add; split <;> simp_all
  have hadd2 : ∀ (j : Nat), (a.add off).add j = a.add (off + j) := fun j => by
    unfold Addr.add; by_cases h1 : off = 0 <;> by_cases h2 : j = 0 <;> simp [h1, h2, Nat.add_assoc]
  have hblk : (a.add off).block = a.block := by unfold Addr.add; split <;> rfl
  cases x with
  | fp cs =>
    simp only [shiftA, Option.some.injEq] at hr; subst hr
    simp only [Env.Rel, Abs.Rel] at hx ⊢
    obtain ⟨a', us, h1, h2, h3⟩ := hx
    cases h1
    refine ⟨_, us.drop off, rfl, h2.drop off, fun hne => ?_⟩
    obtain ⟨a', ha, h4, h5, hX, h6⟩ := h3 (by intro he; rw [he] at hne; simp at hne)
    cases ha
    refine ⟨_, rfl, by rw [hblk]; exact h4, by rw [hblk]; exact h5, by rw [hblk]; exact hX, fun j u hu => ?_⟩
    rw [hadd2]
    exact h6 _ u (by rw [← hu, List.getElem?_drop])
  | ptr id o =>
    simp only [shiftA, Option.some.injEq] at hr; subst hr
    simp only [Env.Rel, Abs.Rel] at hx ⊢
    obtain ⟨a', h1, h2, h3⟩ := hx
    cases h1
    exact ⟨_, rfl, h2, fun b hb => by rw [h3 b hb, hadd]⟩
  | pe id i o =>
    simp only [shiftA, Option.some.injEq] at hr; subst hr
    simp only [Env.Rel, Abs.Rel] at hx ⊢
    obtain ⟨a', h1, h2, h3⟩ := hx
    cases h1
    refine ⟨_, rfl, h2, fun b hb => ?_⟩
    obtain ⟨e, k, h4, h5⟩ := h3 b hb
    exact ⟨e, k, h4, by rw [h5, hadd, Nat.add_assoc]⟩
  | _ => simp [shiftA] at hr

theorem ptr_form {m : Mu} {w : World} {x r : AV} {v : Value} {off : Nat} (hr : shiftA off x = some r) (hx : E.Rel m w x v) : ∃ a, v = .pointer (some a) := by
  cases x <;> simp [shiftA] at hr <;> simp only [Env.Rel, Abs.Rel] at hx
  · obtain ⟨a, _, h, _⟩ := hx; exact ⟨a, h⟩
  · obtain ⟨a, h, _⟩ := hx; exact ⟨a, h⟩
  · obtain ⟨a, h, _⟩ := hx; exact ⟨a, h⟩

theorem field_of {t : TypeId} {i off : Nat} {u : TypeId} (hok : E.Ok) (ht : Nat.blt t E.n = true) (ho : fieldOff (E.ti t) i = some (off, u)) :
    ∃ (F : Array Field) (f : Field), E.P.underlying t = some (.struct F) ∧ F[i]? = some f ∧ f.offset = off ∧ f.type = u := by
  unfold fieldOff at ho
  split at ho
  · rename_i fs hk
    obtain ⟨F, h2, h3⟩ := tk_struct hok ht hk
    rw [← h3] at ho
    cases hf : F[i]? with
    | none =>
      have : F.toList[i]? = none := by simpa using hf
      simp [List.getElem?_map, this] at ho
    | some f =>
      have hfl : F.toList[i]? = some f := by simpa using hf
      simp only [List.getElem?_map, hfl, Option.map_some, Option.some.injEq, Prod.mk.injEq] at ho
      exact ⟨F, f, h2, hf, ho.1, ho.2⟩
  · cases ho
theorem st_fieldAddr {t : TypeId} {x : Operand} {i off : Nat} {u : TypeId} {r : AV} (ht : Nat.blt t E.n = true) (ho : fieldOff (E.ti t) i = some (off, u)) (hu : Nat.blt u E.n = true)
    (hz : Nat.beq (E.ti u).sz 0 = false) (hr : shiftA off (ρ x) = some r) (h : K r H) : AStep E ⟨d, .fieldAddr t x i, ty, pos, after, g⟩ ρ H K := by
  refine step_same r (fun m w a hok hx hsim => ?_) h
  obtain ⟨ad, h1⟩ := ptr_form hr (hx x)
  obtain ⟨F, f, h2, hf, h3, h4⟩ := field_of hok ht ho
  have hr' := hx x
  rw [h1] at hr'
  subst h3; subst h4
  have hsz := run_size hok hu w
  have hne : ¬ (E.ti f.type).sz = 0 := Nat.ne_of_beq_eq_false hz
  refine ⟨.pointer (some (ad.add f.offset)), ?_, shift_rel hr hr'⟩
  simp only [execOp, h1, Instr.fieldAt, Instr.sureAddr, Sem.run_bind, run_underlying h2, Result.andThen_ok, hf, fieldPlace, hsz, hne, if_false, Sem.run_pure]

/-- The value of a field of a struct value. -/
def partA (t : Ty) (cs : List AV) (off : Nat) : Option AV :=
  if t.k.agg then some (.agg ((cs.drop off).take t.sz)) else cs[off]?
theorem run_partA {t : TypeId} (hok : E.Ok) (ht : Nat.blt t E.n = true) {m : Mu} {w : World} {cs : List AV} {us : List Value} {off : Nat} {r : AV} (hr : partA (E.ti t) cs off = some r) (hc : E.RelL m w cs us) :
    ∃ v, (part t us.toArray off).run E.P w = .ok v w ∧ E.Rel m w r v := by
  unfold partA at hr
  unfold part
  simp only [Sem.run_bind, run_agg hok ht, Result.andThen_ok]
  split at hr
  · rename_i hag
    cases hr
    refine ⟨.agg (us.toArray.extract off (off + (E.ti t).sz)), by simp [hag, run_size hok ht], ?_⟩
    show Abs.Rel _ _ _ _ _
    simp only [Abs.Rel]
    exact ⟨(us.drop off).take (E.ti t).sz, by simp [List.extract_toArray, List.extract_eq_take_drop], (hc.drop off).take _⟩
  · rename_i hag
    obtain ⟨u, h1, h2⟩ := hc.get off hr
    exact ⟨u, by simp [hag, h1], h2⟩
theorem st_field {t : TypeId} {x : Operand} {i off : Nat} {u : TypeId} {cs : List AV} {r : AV} (hx : ρ x = .agg cs) (ht : Nat.blt t E.n = true) (ho : fieldOff (E.ti t) i = some (off, u)) (hu : Nat.blt u E.n = true)
    (hr : partA (E.ti u) cs off = some r) (h : K r H) : AStep E ⟨d, .field t x i, ty, pos, after, g⟩ ρ H K := by
  refine step_same r (fun m w a hok hrel hsim => ?_) h
  obtain ⟨F, f, h2, hf, h3, h4⟩ := field_of hok ht ho
  have h5 := hrel x
  rw [hx] at h5
  simp only [Env.Rel, Abs.Rel] at h5
  obtain ⟨us, h6, h7⟩ := h5
  obtain ⟨v, h8, h9⟩ := run_partA hok hu hr h7
  subst h3; subst h4
  exact ⟨v, by simp [execOp, Instr.field, run_underlying h2, hf, h6, asAgg, h8], h9⟩

/-- '==' on whole values. -/
def eqF (rec : TypeId → AV → AV → Option Bool) (E : Env) (xs ys : List AV) : List (Nat × TypeId) → Option Bool
  | [] => some true
  | (off, t) :: fs =>
    match Nat.blt t E.n, partA (E.ti t) xs off, partA (E.ti t) ys off with
    | true, some x, some y => match rec t x y, eqF rec E xs ys fs with
      | some a, some b => some (a && b)
      | _, _ => none
    | _, _, _ => none
def eqA (E : Env) : Nat → TypeId → AV → AV → Option Bool
  | 0, _, _, _ => none
  | f + 1, t, x, y =>
    match (E.ti t).k, x, y with
    | .int _, .int k a, .int j b => if k = j then some (decide (a = b)) else none
    | .bool, .bool a, .bool b => some (a == b)
    | .str, .str a, .str b => some (decide (a = b))
    | .ptr _, .nilp, .nilp => some true
    | .ptr _, .nilp, .ptr _ _ => some false
    | .ptr _, .ptr _ _, .nilp => some false
    | .map _ _, .nilm, .nilm => some true
    | .map _ _, .mp _, .nilm => some false
    | .map _ _, .nilm, .mp _ => some false
    | .fn, .clo _ _ _, .nilf => some false
    | .fn, .nilf, .nilf => some true
    | .struct fs, .agg xs, .agg ys => if (E.ti t).eq then eqF (eqA E f) E xs ys fs else none
    | _, _, _ => none
theorem eqF_sound {rec : TypeId → AV → AV → Option Bool} {D : Nat} (hok : E.Ok) {m : Mu} {w : World}
    (hrec : ∀ t x y b u v, Nat.blt t E.n = true → rec t x y = some b → E.Rel m w x u → E.Rel m w y v → (Op.equalIn D t u v).run E.P w = .ok b w) {xs ys : List AV} {us vs : List Value}
    (hx : E.RelL m w xs us) (hy : E.RelL m w ys vs) : ∀ (F : List Field) (b : Bool), (F.any fun f => f.name == "_") = false → eqF rec E xs ys (F.map fun f => (f.offset, f.type)) = some b →
    (Op.eqFields D us.toArray vs.toArray F).run E.P w = .ok b w
  | [], b, _, h => by simp [eqF] at h; simp [Op.eqFields, h]
  | f :: F, b, hn, h => by
    simp only [List.any_cons, Bool.or_eq_false_iff] at hn
    have hne : f.name ≠ "_" := by simpa using hn.1
    simp only [List.map_cons, eqF] at h
    split at h
    · rename_i x y ht hpx hpy
      split at h
      · rename_i p q h1 h2
        cases h
        obtain ⟨u, h3, h4⟩ := run_partA hok ht hpx hx
        obtain ⟨v, h5, h6⟩ := run_partA hok ht hpy hy
        have h7 := hrec _ _ _ _ _ _ ht h1 h4 h6
        have h8 := eqF_sound hok hrec hx hy F q hn.2 h2
        simp only [Op.eqFields, hne, ne_eq, not_false_eq_true, if_true, Sem.run_bind, h3, h5, h7, Result.andThen_ok]
        cases p
        · simp
        · simp [h8]
      · cases h
    · cases h
theorem eqA_sound (hok : E.Ok) {m : Mu} {w : World} : ∀ (f D : Nat), f ≤ D → ∀ (t : TypeId) (x y : AV) (b : Bool) (u v : Value), Nat.blt t E.n = true → eqA E f t x y = some b → E.Rel m w x u → E.Rel m w y v →
    (Op.equalIn D t u v).run E.P w = .ok b w
  | 0, _, _, _, _, _, _, _, _, _, h, _, _ => by simp [eqA] at h
  | f + 1, D, hD, t, x, y, b, u, v, ht, h, hu, hv => by
    obtain ⟨D, rfl⟩ : ∃ D', D = D' + 1 := ⟨D - 1, by omega⟩
    simp only [eqA] at h
    split at h
    · rename_i hk
      split at h
      · rename_i hkk; subst hkk; cases h
        cases rel_int hu; cases rel_int hv
        simp [Op.equalIn, run_underlying (tk_int hok ht hk), beq_dec]
      · cases h
    · rename_i hk; cases h
      cases rel_bool hu; cases rel_bool hv
      simp [Op.equalIn, run_underlying (tk_bool hok ht hk)]
    · rename_i hk; cases h
      cases rel_str hu; cases rel_str hv
      have : ∀ a b : List UInt8, ((ByteArray.mk a.toArray) == (ByteArray.mk b.toArray)) = decide (a = b) := fun a b => by
        rw [beq_toListBytes, ByteArray.toList_mk, ByteArray.toList_mk, beq_dec]
      simp [Op.equalIn, run_underlying (tk_str hok ht hk), this]
    · rename_i hk; cases h
      simp only [Env.Rel, Abs.Rel] at hu hv; subst hu; subst hv
      simp [Op.equalIn, run_underlying (tk_ptr hok ht hk)]
    · rename_i hk; cases h
      simp only [Env.Rel, Abs.Rel] at hu hv; subst hu; obtain ⟨a, rfl, _⟩ := hv
      simp [Op.equalIn, run_underlying (tk_ptr hok ht hk)]
    · rename_i hk; cases h
      simp only [Env.Rel, Abs.Rel] at hu hv; subst hv; obtain ⟨a, rfl, _⟩ := hu
      simp [Op.equalIn, run_underlying (tk_ptr hok ht hk)]
    · rename_i hk; cases h
      simp only [Env.Rel, Abs.Rel] at hu hv; subst hu; subst hv
      simp [Op.equalIn, run_underlying (tk_map hok ht hk)]
    · rename_i hk; cases h
      simp only [Env.Rel, Abs.Rel] at hu hv; subst hv; obtain ⟨a, rfl, _⟩ := hu
      simp [Op.equalIn, run_underlying (tk_map hok ht hk)]
    · rename_i hk; cases h
      simp only [Env.Rel, Abs.Rel] at hu hv; subst hu; obtain ⟨a, rfl, _⟩ := hv
      simp [Op.equalIn, run_underlying (tk_map hok ht hk)]
    · rename_i hk; cases h
      simp only [Env.Rel, Abs.Rel] at hu hv; subst hv; obtain ⟨a, c, rfl, _⟩ := hu
      obtain ⟨p, q, r, hd⟩ := tk_fn hok ht hk
      simp [Op.equalIn, run_underlying hd]
    · rename_i hk; cases h
      simp only [Env.Rel, Abs.Rel] at hu hv; subst hu; subst hv
      obtain ⟨p, q, r, hd⟩ := tk_fn hok ht hk
      simp [Op.equalIn, run_underlying hd]
    · rename_i hk
      split at h
      · rename_i heq
        simp only [Env.Rel, Abs.Rel] at hu hv
        obtain ⟨us, rfl, hus⟩ := hu
        obtain ⟨vs, rfl, hvs⟩ := hv
        obtain ⟨F, h2, h3⟩ := tk_struct hok ht hk
        have hF : E.P.fieldsOf t = F := by simp [Program.fieldsOf, h2]
        obtain ⟨i, dd, _, h4, _, _, _, _, h5, _⟩ := tyOf_spec hok ht
        rw [h2] at h4; cases h4
        rw [heq] at h5
        simp only [eqOf, Bool.and_eq_true, Bool.not_eq_true'] at h5
        rw [run_equalIn_struct w D t us.toArray vs.toArray (by rw [hF]; exact h2) h5.1.2, hF]
        refine eqF_sound hok (fun t x y b u v ht h hu hv => eqA_sound hok f D (by omega) t x y b u v ht h hu hv) hus hvs F.toList b ?_ (by rw [h3]; exact h)
        have := h5.1.1
        simpa using this
      · cases h
    · cases h
end
end Go.Abs
