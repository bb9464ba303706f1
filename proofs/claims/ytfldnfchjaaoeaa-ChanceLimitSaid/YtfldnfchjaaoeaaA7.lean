/- New memory: variables, literals, make, append, copy, clear. -/
import Derived.Test.YtfldnfchjaaoeaaA6
import Derived.Maps.AppendAt
namespace Go.Abs
section
variable {E : Env} {N n0 : Nat} {Q : Exit → St → Prop} {s : St} {ρ : Operand → AV} {H : Hp} {K : AV → Hp → Prop}
variable {d : Option Tmp} {ty : TypeId} {pos : String} {after : Array Edge} {g : Option (Nat × Bool)}

theorem ptr_new {sz : Cx} {m : Mu} {w : World} {H : Hp} (hs : Sim sz m w H) {w' : World} : Rel sz (m ++ [.blk w.heap.size]) w' (.ptr H.length 0) (.pointer (some ⟨w.heap.size, 0, none⟩)) := by
  simp only [Rel]
  refine ⟨_, rfl, by simp [hs.len], fun b hb => ?_⟩
  rw [List.getElem?_append_right (by rw [hs.len]; exact Nat.le_refl _), hs.len] at hb
  simp at hb
  rw [hb]
theorem zero_spec {e : TypeId} {z : List AV} (hok : E.Ok) (he : Nat.blt e E.n = true) (hz : (E.ti e).z = some z) : ∃ v, (∀ w, (zeroValue e).run E.P w = .ok v w) ∧ v.cells.toList.map ofV1 = z ∧ ∃ i, E.P.info? e = some i ∧ i.zero = some v ∧ i.size = (E.ti e).sz ∧ i.bytes = (E.ti e).bt := by
  obtain ⟨i, dd, h1, _, h3, h4, _, h6, _⟩ := tyOf_spec hok he
  rw [hz] at h6
  cases hv : i.zero with
  | none => rw [hv] at h6; cases h6
  | some v =>
    rw [hv] at h6
    simp at h6
    exact ⟨v, fun w => by simp [zeroValue, typeInfo, h1, hv], by simpa using h6, i, h1, hv, h3, h4⟩
theorem st_alloc {e : TypeId} {z : List AV} (he : Nat.blt e E.n = true) (hz : (E.ti e).z = some z) (h : K (.ptr H.length 0) (H ++ [some (.cells z e)])) : AStep E ⟨d, .alloc e, ty, pos, after, g⟩ ρ H K := by
  refine step_any (fun m w a hok hr hsim => ?_)
  obtain ⟨v, h1, h2, _⟩ := zero_spec hok he hz
  refine ⟨.pointer (some ⟨w.heap.size, 0, none⟩), w.alloc (.cells v.cells e), m ++ [.blk w.heap.size], _, _, ?_, Ext.push m w _, ptr_new hsim, hsim.push (ao := .cells z e) ⟨_, heap_alloc_new w _, ?_⟩, h⟩
  · simp [execOp, Instr.alloc, h1, newVar, newRow]
  · rw [← h2]; exact relL_ofV1 _
theorem st_box {e : TypeId} {x : Operand} (hkn : known (ρ x) = true) (h : K (.ptr H.length 0) (H ++ [some (.cells (cellsA (ρ x)) e)])) : AStep E ⟨d, .box e x, ty, pos, after, g⟩ ρ H K := by
  refine step_any (fun m w a hok hr hsim => ?_)
  refine ⟨.pointer (some ⟨w.heap.size, 0, none⟩), w.alloc (.cells (a.eval x).cells e), m ++ [.blk w.heap.size], _, _, ?_, Ext.push m w _, ptr_new hsim, hsim.push (ao := .cells (cellsA (ρ x)) e) ⟨_, heap_alloc_new w _, ?_⟩, h⟩
  · simp [execOp, Instr.box, newVar, newRow]
  · exact RelL.ext (Ext.push m w _) _ (cells_rel (hr x) hkn)

/-! Struct literals and slice literals -/
def fillA (place : Nat → Option (Nat × Nat)) (ρ : Operand → AV) : List (Nat × Operand) → List AV → Option (List AV)
  | [], cs => some cs
  | (i, x) :: rest, cs =>
    match place i with
    | some (off, size) =>
      if known (ρ x) = true ∧ (cellsA (ρ x)).length = size ∧ off + size ≤ cs.length then fillA place ρ rest (spl cs off (cellsA (ρ x))) else none
    | none => none
theorem foldl_set (vs : List Value) : ∀ (off k : Nat) (cs : Array Value), off + k + vs.length ≤ cs.size →
    ((vs.zipIdx k).foldl (fun cs p => cs.setIfInBounds (off + p.2) p.1) cs).toList = cs.toList.take (off + k) ++ vs ++ cs.toList.drop (off + k + vs.length) := by
  induction vs with
  | nil => intro off k cs h; simp
  | cons v vs ih =>
    intro off k cs h
    simp only [List.zipIdx_cons, List.foldl_cons, List.length_cons] at h ⊢
    rw [ih off (k + 1) _ (by simp; omega)]
    have hlt : off + k < cs.toList.length := by simp; omega
    rw [Array.toList_setIfInBounds, show off + (k + 1) = (off + k) + 1 by omega]
    rw [List.take_succ_eq_append_getElem (by simpa using hlt), List.getElem_set_self, List.take_set_of_le (by omega), List.drop_set_of_lt (by omega)]
    simp [Nat.add_comm, Nat.add_left_comm]
theorem run_fillA {m : Mu} {w : World} {a : Act} (hr : ∀ x, E.Rel m w (ρ x) (a.eval x)) {place : Nat → Option (Nat × Nat)} : ∀ (parts : List (Nat × Operand)) {cs : List AV} {us : Array Value} {out : List AV},
    fillA place ρ parts cs = some out → E.RelL m w cs us.toList → ∃ r, Instr.fill place us (parts.map fun p => (p.1, a.eval p.2)) = some r ∧ E.RelL m w out r.toList
  | [], cs, us, out, h, hc => by
    simp only [fillA, Option.some.injEq] at h
    subst h
    exact ⟨us, rfl, hc⟩
  | (i, x) :: rest, cs, us, out, h, hc => by
    simp only [fillA] at h
    split at h
    · rename_i off size hp
      split at h
      · rename_i hcond
        obtain ⟨h1, h2, h3⟩ := hcond
        have hcr := cells_rel (hr x) h1
        have hl := hcr.length
        have hus : us.size = cs.length := by simpa using hc.length
        have hvs : (a.eval x).cells.size = size := by rw [← h2, ← hl]; simp
        have hfold : ((a.eval x).cells.zipIdx.foldl (fun cs (p : Value × Nat) => cs.setIfInBounds (off + p.2) p.1) us).toList = us.toList.take off ++ (a.eval x).cells.toList ++ us.toList.drop (off + (a.eval x).cells.toList.length) := by
          have := foldl_set (a.eval x).cells.toList off 0 us (by simp; omega)
          rw [← Array.foldl_toList, Array.toList_zipIdx]
          simpa using this
        have hnew : E.RelL m w (spl cs off (cellsA (ρ x))) ((a.eval x).cells.zipIdx.foldl (fun cs (p : Value × Nat) => cs.setIfInBounds (off + p.2) p.1) us).toList := by
          rw [hfold, hl]
          exact ((hc.take off).append hcr).append (hc.drop _)
        obtain ⟨r, h4, h5⟩ := run_fillA hr rest h hnew
        refine ⟨r, ?_, h5⟩
        simp only [List.map_cons, Instr.fill, hp]
        rw [if_neg (by simp [hvs]; omega)]
        exact h4
      · cases h
    · cases h
def placesOf (E : Env) (fs : List (Nat × TypeId)) (i : Nat) : Option (Nat × Nat) := (fs[i]?).map fun p => (p.1, (E.ti p.2).sz)
theorem run_places {F : Array Field} (hok : E.Ok) (hall : (F.toList.all fun f => Nat.blt f.type E.n) = true) (w : World) :
    (F.mapM fun f => (do pure (f.offset, ← sizeOf f.type) : Sem (Nat × Nat))).run E.P w = .ok (F.map fun f => (f.offset, (E.ti f.type).sz)) w := by
  rw [Array.mapM_eq_mapM_toList]
  have key : ∀ l : List Field, (l.all fun f => Nat.blt f.type E.n) = true → (l.mapM fun f => (do pure (f.offset, ← sizeOf f.type) : Sem (Nat × Nat))).run E.P w = .ok (l.map fun f => (f.offset, (E.ti f.type).sz)) w := by
    intro l
    induction l with
    | nil => intro _; simp
    | cons f l ih =>
      intro h
      simp only [List.all_cons, Bool.and_eq_true] at h
      simp only [List.mapM_cons, Sem.run_bind, run_size hok h.1, Result.andThen_ok, Sem.run_pure, ih h.2, List.map_cons]
  simp only [Sem.run_map, key F.toList hall, Result.andThen_ok]
  congr 1
  apply Array.ext'
  simp
theorem st_build {t : TypeId} {fs : List (Nat × TypeId)} {parts : Array (Nat × Operand)} {z out : List AV} (ht : Nat.blt t E.n = true) (hk : (E.ti t).k = .struct fs) (hz : (E.ti t).z = some z)
    (hall : (fs.all fun p => Nat.blt p.2 E.n) = true) (hf : fillA (placesOf E fs) ρ parts.toList z = some out) (h : K (.agg out) H) : AStep E ⟨d, .build t parts, ty, pos, after, g⟩ ρ H K := by
  refine step_same _ (fun m w a hok hr hsim => ?_) h
  obtain ⟨v, h1, h2, _⟩ := zero_spec hok ht hz
  obtain ⟨F, h3, h4⟩ := tk_struct hok ht hk
  subst h4
  have hp := run_places (F := F) hok (by simpa [List.all_map, Function.comp_def] using hall) w
  have hzr : E.RelL m w z v.cells.toList := by rw [← h2]; exact relL_ofV1 _
  have hpl : (fun i => (F.map fun f => (f.offset, (E.ti f.type).sz))[i]?) = placesOf E (F.toList.map fun f => (f.offset, f.type)) := by
    funext i
    simp [placesOf, List.getElem?_map, Array.getElem?_map, Function.comp_def]
  obtain ⟨r, h5, h6⟩ := run_fillA hr parts.toList hf hzr
  refine ⟨.agg r, ?_, ?_⟩
  · simp only [execOp, Instr.build, Sem.run_bind, h1, Result.andThen_ok, run_underlying h3, hp]
    have e1 : (parts.map fun (x : Nat × Operand) => (x.1, a.eval x.2)).toList = parts.toList.map fun p => (p.1, a.eval p.2) := by simp
    simp only [e1, hpl, h5]
    rfl
  · show Abs.Rel _ _ _ _ _
    simp only [Abs.Rel]
    exact ⟨r.toList, by simp, h6⟩

/-! Slices made whole -/
theorem relEs_flat {sz : Cx} {m : Mu} {w : World} {k : Nat} : ∀ {es : List AV} {vs : List Value}, RelL sz m w es vs → (∀ y ∈ es, known y = true) → RelL sz m w (es.flatMap cellsA) (flat vs)
  | [], _, h, _ => by rw [relL_nil] at h; subst h; simp [flat, RelL]
  | y :: es, _, h, hk => by
    rw [relL_cons] at h
    obtain ⟨u, r, rfl, h1, h2⟩ := h
    have := (cells_rel h1 (hk y (by simp))).append (relEs_flat (k := k) h2 fun z hz => hk z (by simp [hz]))
    simpa [flat] using this
/-- Cells cut into elements of k cells. -/
def vals (agg : Bool) (k : Nat) : Nat → List Value → List Value
  | 0, _ => []
  | n + 1, us => (if agg then .agg (us.take k).toArray else us.headD undef) :: vals agg k n (us.drop k)
def avals (agg : Bool) (k : Nat) : Nat → List AV → List AV
  | 0, _ => []
  | n + 1, us => (if agg then .agg (us.take k) else us.headD (.tup [])) :: avals agg k n (us.drop k)
theorem avals_rel {sz : Cx} {m : Mu} {w : World} {agg : Bool} {k : Nat} (hk : agg = false → k = 1) : ∀ (n : Nat) {cs : List AV} {us : List Value}, RelL sz m w cs us → cs.length = n * k → (agg = false → ∀ u ∈ us, u.oneCell' = true) →
    RelL sz m w (avals agg k n cs) (vals agg k n us) ∧ (∀ u ∈ vals agg k n us, u.cells.size = k) ∧ flat (vals agg k n us) = us
  | 0, cs, us, h, hl, _ => by
    have : us = [] := List.eq_nil_of_length_eq_zero (by rw [h.length]; simpa using hl)
    subst this
    simp [avals, vals, RelL, flat]
  | n + 1, cs, us, h, hl, h1 => by
    have hul := h.length
    have hlen : k ≤ us.length := by rw [hul, hl, Nat.add_mul]; omega
    obtain ⟨i1, i2, i3⟩ := avals_rel hk n (h.drop k) (by rw [List.length_drop, hl, Nat.add_mul]; omega) (fun ha u hu => h1 ha u (List.mem_of_mem_drop hu))
    simp only [avals, vals]
    cases agg with
    | true =>
      simp only [if_true]
      refine ⟨RelL.cons (by simp only [Rel]; exact ⟨_, rfl, h.take k⟩) i1, ?_, ?_⟩
      · intro u hu
        simp only [List.mem_cons] at hu
        rcases hu with rfl | hu
        · simp [Value.cells]; omega
        · exact i2 u hu
      · simp only [flat, List.flatMap_cons] at i3 ⊢
        rw [i3]
        simp [Value.cells]
    | false =>
      have hk1 := hk rfl
      subst hk1
      cases us with
      | nil => simp at hlen
      | cons u us =>
        cases cs with
        | nil => simp [RelL] at h
        | cons c cs =>
          rw [relL_cons] at h
          obtain ⟨u', r, hur, hcu, _⟩ := h
          simp only [List.cons.injEq] at hur
          obtain ⟨rfl, rfl⟩ := hur
          have hone : u.cells = #[u] := by
            have := h1 rfl u (by simp)
            cases u <;> simp [Value.oneCell'] at this <;> rfl
          simp only [Bool.false_eq_true, if_false, List.headD_cons]
          refine ⟨RelL.cons hcu i1, ?_, ?_⟩
          · intro v hv
            simp only [List.mem_cons] at hv
            rcases hv with rfl | hv
            · rw [hone]; rfl
            · exact i2 v hv
          · simp only [flat, List.flatMap_cons] at i3 ⊢
            rw [i3, hone]
            simp

/-- The places of a slice literal. -/
def slPlace (k : Nat) (i : Nat) : Option (Nat × Nat) := some (i * k, k)
def rep (z : List AV) : Nat → List AV
  | 0 => []
  | n + 1 => z ++ rep z n
theorem madeCells_rel {sz : Cx} {m : Mu} {w : World} {z : List AV} {v : Value} (hz : v.cells.toList.map ofV1 = z) (hp : 0 < v.cells.size) : ∀ n, RelL sz m w (rep z n) ((Array.range (n * v.cells.size)).map (v.cells[· % v.cells.size]!)).toList
  | 0 => by simp [rep, RelL]
  | n + 1 => by
    have ih := madeCells_rel (sz := sz) (m := m) (w := w) hz hp n
    have e : ((Array.range ((n + 1) * v.cells.size)).map (v.cells[· % v.cells.size]!)).toList = v.cells.toList ++ ((Array.range (n * v.cells.size)).map (v.cells[· % v.cells.size]!)).toList := by
      simp only [Array.toList_map, Array.toList_range]
      apply List.ext_getElem?
      intro j
      rw [List.getElem?_append]
      simp only [List.getElem?_map, Array.length_toList]
      by_cases h1 : j < v.cells.size
      · have h2 : j < (n + 1) * v.cells.size := by rw [Nat.add_mul]; omega
        simp [h1, h2, Nat.mod_eq_of_lt h1]
      · rw [if_neg h1]
        by_cases h2 : j < (n + 1) * v.cells.size
        · have h3 : j - v.cells.size < n * v.cells.size := by rw [Nat.add_mul] at h2; omega
          simp only [List.getElem?_range h2, List.getElem?_range h3, Option.map_some]
          rw [← Nat.mod_eq_sub_mod (by omega)]
        · have h3 : ¬ j - v.cells.size < n * v.cells.size := by rw [Nat.add_mul] at h2; omega
          rw [List.getElem?_eq_none (by simp; omega), List.getElem?_eq_none (by simp; omega)]
    rw [e]
    simp only [rep]
    refine RelL.append ?_ ih
    rw [← hz]
    exact relL_ofV1 _
theorem rep_length (z : List AV) : ∀ n, (rep z n).length = n * z.length
  | 0 => by simp [rep]
  | n + 1 => by simp [rep, rep_length z n, Nat.add_mul, Nat.add_comm]

/-- A new row, frozen or owned. -/
theorem sl_new {e : TypeId} {k n c : Nat} {sz : Cx} {m : Mu} {w : World} {H : Hp} (hs : Sim sz m w H) {es : List AV} {vs : List Value} {us : Array Value} {w' : World} (hw : w' = w.alloc (.cells us e))
    (hn : n = es.length) (hc : n ≤ c) (hm : c ≤ maxLen) (hr : RelL sz m w es vs) (hk : ∀ u ∈ vs, u.cells.size = k) (hf : us.toList.take (flat vs).length = flat vs) :
    Rel sz m w' (.sl k es) (.slice (some ⟨w.heap.size, 0, none⟩) n c) := by
  subst hw
  subst hn
  simp only [Rel]
  refine ⟨_, c, vs, rfl, hc, hm, RelL.ext (Ext.alloc m w _) _ hr, hk, fun _ => ⟨_, rfl, by simp, fun h => ?_, fun hX => Nat.lt_irrefl _ (hs.xlt _ hX), fun j u hu => ?_⟩⟩
  · have := hs.lt h
    simp at this
  · have hadd : (⟨w.heap.size, 0, none⟩ : Addr).add j = ⟨w.heap.size, j, none⟩ := by unfold Addr.add; split <;> simp_all
    rw [hadd, cell_of_row _ _ j us e (0, 0) (heap_alloc_new w _)]
    rw [← hf, List.getElem?_take] at hu
    split at hu
    · simpa using hu
    · cases hu
theorem own_new {e : TypeId} {k n c : Nat} {sz : Cx} {m : Mu} {w : World} {H : Hp} (hs : Sim sz m w H) {es : List AV} {vs : List Value} {us : Array Value} {w' : World} (hw : w' = w.alloc (.cells us e))
    (hc : n ≤ c) (hm : c ≤ maxLen) (hr : RelL sz m w es vs) (hk : ∀ u ∈ vs, u.cells.size = k) (hf : us.toList.take (flat vs).length = flat vs) (hke : k = sz.sz e) (hsz : us.size = c * k) :
    Ext m w (m ++ [.blk w.heap.size]) w' ∧ Rel sz (m ++ [.blk w.heap.size]) w' (.own H.length 0 n) (.slice (some ⟨w.heap.size, 0, none⟩) n c) ∧ Sim sz (m ++ [.blk w.heap.size]) w' (H ++ [some (.arr es e)]) := by
  subst hw
  subst hke
  refine ⟨Ext.push m w _, ?_, hs.push (ao := .arr es e) ⟨us, vs, heap_alloc_new w _, RelL.ext (Ext.push m w _) _ hr, hk, hf⟩⟩
  simp only [Rel]
  have hget : (m ++ [MS.blk w.heap.size])[H.length]? = some (.blk w.heap.size) := by
    rw [List.getElem?_append_right (by rw [hs.len]; exact Nat.le_refl _), hs.len]; simp
  refine ⟨_, c, rfl, hc, hm, by simp [hs.len], fun h => (by rw [hget] at h; cases h), fun b hb => ?_⟩
  rw [hget] at hb
  cases hb
  refine ⟨e, us.size, ?_, ?_, fun _ => by simp⟩
  · unfold World.shape?
    rw [heap_alloc_new]
  · rw [hsz]; simp

theorem fillA_len {place : Nat → Option (Nat × Nat)} : ∀ (parts : List (Nat × Operand)) {cs out : List AV}, fillA place ρ parts cs = some out → out.length = cs.length
  | [], cs, out, h => by simp only [fillA, Option.some.injEq] at h; rw [h]
  | (i, x) :: rest, cs, out, h => by
    simp only [fillA] at h
    split at h
    · split at h
      · rename_i hcond
        rw [fillA_len rest h]
        simp [spl]; omega
      · cases h
    · cases h

theorem run_buildSlice {t e : TypeId} {len : Nat} {parts : Array (Nat × Operand)} {z cs : List AV} (hok : E.Ok) (ht : Nat.blt t E.n = true) (hk : (E.ti t).k = .sl e) (he : Nat.blt e E.n = true) (hz : (E.ti e).z = some z)
    (hzl : Nat.beq z.length (E.ti e).sz = true) (hz0 : Nat.blt 0 (E.ti e).sz = true) (hlim : Nat.ble (len * (E.ti e).sz) 16777216 = true)
    (hf : fillA (slPlace (E.ti e).sz) ρ parts.toList (rep z len) = some cs) {m : Mu} {w : World} {a : Act} (hr : ∀ x, E.Rel m w (ρ x) (a.eval x)) :
    ∃ us : Array Value, (Instr.buildSlice t len (parts.map fun (i, x) => (i, a.eval x))).run E.P w = .ok (.slice (some ⟨w.heap.size, 0, none⟩) len len) (w.alloc (.cells us e)) ∧ E.RelL m w cs us.toList ∧ us.size = len * (E.ti e).sz := by
  obtain ⟨v, h1, h2, _⟩ := zero_spec hok he hz
  have hvs : v.cells.size = (E.ti e).sz := by
    have := congrArg List.length h2
    simp at this
    rw [this]
    exact Nat.eq_of_beq_eq_true hzl
  have hpos : 0 < (E.ti e).sz := by simpa using hz0
  have hrep := madeCells_rel (sz := E.cx) (m := m) (w := w) h2 (by omega) len
  obtain ⟨r, h5, h6⟩ := run_fillA hr parts.toList hf hrep
  have hle : len * (E.ti e).sz ≤ 16777216 := Nat.le_of_ble_eq_true hlim
  refine ⟨r, ?_, h6, ?_⟩
  · unfold Instr.buildSlice
    simp only [Sem.run_bind, run_underlying (tk_sl hok ht hk), Result.andThen_ok, run_size hok he]
    rw [if_neg (by omega)]
    by_cases hl0 : len = 0
    · subst hl0
      simp only [Nat.zero_mul, Sem.run_pure, Result.andThen_ok, if_true, Sem.run_bind]
      have e1 : (parts.map fun (x : Nat × Operand) => (x.1, a.eval x.2)).toList = parts.toList.map fun p => (p.1, a.eval p.2) := by simp
      rw [hvs] at h5
      simp only [Nat.zero_mul] at h5
      have e2 : ∀ f g : Nat → Value, (Array.range 0).map f = (Array.range 0).map g := fun f g => by simp
      rw [e2 _ (v.cells[· % (E.ti e).sz]!)]
      simp only [e1]
      have h5' : Instr.fill (fun i => some (i * (E.ti e).sz, (E.ti e).sz)) ((Array.range 0).map (v.cells[· % (E.ti e).sz]!)) (parts.toList.map fun p => (p.1, a.eval p.2)) = some r := h5
      rw [h5']
      simp [newRow]
    · have hne : ¬ len * (E.ti e).sz = 0 := by
        intro h
        rcases Nat.mul_eq_zero.1 h with h | h <;> omega
      rw [if_neg hne]
      simp only [Sem.run_bind, h1, Result.andThen_ok, Sem.run_pure]
      have e1 : (parts.map fun (x : Nat × Operand) => (x.1, a.eval x.2)).toList = parts.toList.map fun p => (p.1, a.eval p.2) := by simp
      rw [hvs] at h5
      simp only [e1, hvs]
      have h5' : Instr.fill (fun i => some (i * (E.ti e).sz, (E.ti e).sz)) ((Array.range (len * (E.ti e).sz)).map (v.cells[· % (E.ti e).sz]!)) (parts.toList.map fun p => (p.1, a.eval p.2)) = some r := h5
      rw [h5']
      simp [newRow]
  · have := h6.length
    rw [fillA_len _ hf, rep_length, Nat.eq_of_beq_eq_true hzl] at this
    simpa using this

theorem st_buildSlice {t e : TypeId} {len : Nat} {parts : Array (Nat × Operand)} {z cs : List AV} (ht : Nat.blt t E.n = true) (hk : (E.ti t).k = .sl e) (he : Nat.blt e E.n = true) (hz : (E.ti e).z = some z)
    (hzl : Nat.beq z.length (E.ti e).sz = true) (hz0 : Nat.blt 0 (E.ti e).sz = true) (hlim : Nat.ble (len * (E.ti e).sz) 16777216 = true) (hag : (E.ti e).k.agg = true ∨ Nat.beq (E.ti e).sz 1 = true)
    (hf : fillA (slPlace (E.ti e).sz) ρ parts.toList (rep z len) = some cs) (hone : (E.ti e).k.agg = true ∨ cs.all oneA = true) (h : K (.sl (E.ti e).sz (avals (E.ti e).k.agg (E.ti e).sz len cs)) H) :
    AStep E ⟨d, .buildSlice t len parts, ty, pos, after, g⟩ ρ H K := by
  refine step_any (fun m w a hok hr hsim => ?_)
  obtain ⟨us, h1, h2, h3⟩ := run_buildSlice hok ht hk he hz hzl hz0 hlim hf hr
  have hlen : cs.length = len * (E.ti e).sz := by rw [fillA_len _ hf, rep_length, Nat.eq_of_beq_eq_true hzl]
  obtain ⟨r1, r2, r3⟩ := avals_rel (agg := (E.ti e).k.agg) (k := (E.ti e).sz) (fun ha => by
    rcases hag with h | h
    · rw [h] at ha; cases ha
    · exact Nat.eq_of_beq_eq_true h) len h2 hlen (fun ha => by
    rcases hone with h | h
    · rw [h] at ha; cases ha
    · exact one_relL h2 h)
  have hal : (avals (E.ti e).k.agg (E.ti e).sz len cs).length = len := by
    have : ∀ n (l : List AV), (avals (E.ti e).k.agg (E.ti e).sz n l).length = n := by
      intro n; induction n with
      | zero => intro l; rfl
      | succ n ih => intro l; simp [avals, ih]
    exact this _ _
  have hle : len ≤ maxLen := by
    have h4 : len * (E.ti e).sz ≤ 16777216 := Nat.le_of_ble_eq_true hlim
    have h5 : 0 < (E.ti e).sz := by simpa using hz0
    have := Nat.le_mul_of_pos_right len h5
    unfold maxLen; omega
  refine ⟨.slice (some ⟨w.heap.size, 0, none⟩) len len, w.alloc (.cells us e), m, _, H, by simp only [execOp, Sem.run_bind, h1, Result.andThen_ok, Sem.run_pure], Ext.alloc m w _, ?_, hsim.alloc _, h⟩
  exact sl_new hsim rfl hal.symm (Nat.le_refl _) hle r1 r2 (by rw [r3, List.take_of_length_le (Nat.le_refl _)])
theorem st_buildSlice_own {t e : TypeId} {len : Nat} {parts : Array (Nat × Operand)} {z cs : List AV} (ht : Nat.blt t E.n = true) (hk : (E.ti t).k = .sl e) (he : Nat.blt e E.n = true) (hz : (E.ti e).z = some z)
    (hzl : Nat.beq z.length (E.ti e).sz = true) (hz0 : Nat.blt 0 (E.ti e).sz = true) (hlim : Nat.ble (len * (E.ti e).sz) 16777216 = true) (hag : (E.ti e).k.agg = true ∨ Nat.beq (E.ti e).sz 1 = true)
    (hf : fillA (slPlace (E.ti e).sz) ρ parts.toList (rep z len) = some cs) (hone : (E.ti e).k.agg = true ∨ cs.all oneA = true) (h : K (.own H.length 0 len) (H ++ [some (.arr (avals (E.ti e).k.agg (E.ti e).sz len cs) e)])) :
    AStep E ⟨d, .buildSlice t len parts, ty, pos, after, g⟩ ρ H K := by
  refine step_any (fun m w a hok hr hsim => ?_)
  obtain ⟨us, h1, h2, h3⟩ := run_buildSlice hok ht hk he hz hzl hz0 hlim hf hr
  have hlen : cs.length = len * (E.ti e).sz := by rw [fillA_len _ hf, rep_length, Nat.eq_of_beq_eq_true hzl]
  obtain ⟨r1, r2, r3⟩ := avals_rel (agg := (E.ti e).k.agg) (k := (E.ti e).sz) (fun ha => by
    rcases hag with h | h
    · rw [h] at ha; cases ha
    · exact Nat.eq_of_beq_eq_true h) len h2 hlen (fun ha => by
    rcases hone with h | h
    · rw [h] at ha; cases ha
    · exact one_relL h2 h)
  have hal : (avals (E.ti e).k.agg (E.ti e).sz len cs).length = len := by
    have : ∀ n (l : List AV), (avals (E.ti e).k.agg (E.ti e).sz n l).length = n := by
      intro n; induction n with
      | zero => intro l; rfl
      | succ n ih => intro l; simp [avals, ih]
    exact this _ _
  have hle : len ≤ maxLen := by
    have h4 : len * (E.ti e).sz ≤ 16777216 := Nat.le_of_ble_eq_true hlim
    have h5 : 0 < (E.ti e).sz := by simpa using hz0
    have := Nat.le_mul_of_pos_right len h5
    unfold maxLen; omega
  have hsz2 : E.cx.sz e = (E.ti e).sz := by obtain ⟨_, _, _, _, _, _, _, _, _, h⟩ := tyOf_spec hok he; exact h
  obtain ⟨q1, q2, q3⟩ := own_new (e := e) (n := len) (c := len) hsim rfl (Nat.le_refl _) hle r1 r2 (by rw [r3, List.take_of_length_le (Nat.le_refl _)]) hsz2.symm h3
  exact ⟨.slice (some ⟨w.heap.size, 0, none⟩) len len, w.alloc (.cells us e), _, _, _, by simp only [execOp, Sem.run_bind, h1, Result.andThen_ok, Sem.run_pure], q1, q2, q3, h⟩

/-! make -/
def one1 (z : List AV) (agg : Bool) : AV := if agg then .agg z else z.headD (.tup [])
theorem avals_rep {agg : Bool} {z : List AV} {k : Nat} (hz : z.length = k) (hk : agg = false → k = 1) : ∀ n, avals agg k n (rep z n) = List.replicate n (one1 z agg)
  | 0 => rfl
  | n + 1 => by
    have h1 : (rep z (n + 1)).take k = z := by simp [rep, ← hz]
    have h2 : (rep z (n + 1)).drop k = rep z n := by simp [rep, ← hz]
    simp only [avals, h1, h2, avals_rep hz hk n, List.replicate_succ, one1]
    cases agg with
    | true => rfl
    | false =>
      have := hk rfl
      cases z with
      | nil => simp at hz; omega
      | cons x xs => simp [rep]
theorem run_mk {t e : TypeId} {z : List AV} {kl kc : IntKind} {l c : Nat} (hok : E.Ok) (ht : Nat.blt t E.n = true) (hk : (E.ti t).k = .sl e) (he : Nat.blt e E.n = true) (hz : (E.ti e).z = some z)
    (hzl : Nat.beq z.length (E.ti e).sz = true) (hz0 : Nat.blt 0 (E.ti e).sz = true) (hlc : l ≤ c) (hb : (E.ti e).bt * c ≤ 281474976710656) (hm : c ≤ maxLen) {m : Mu} {w : World} :
    ∃ us : Array Value, (Instr.makeSlice t (.int kl l) (.int kc c)).run E.P w = .ok (.slice (some ⟨w.heap.size, 0, none⟩) l c) (w.alloc (.cells us e)) ∧ E.RelL m w (rep z c) us.toList ∧ us.size = c * (E.ti e).sz := by
  obtain ⟨v, h1, h2, i, h3, h4, h5, h6⟩ := zero_spec hok he hz
  have hvs : v.cells.size = (E.ti e).sz := by
    have := congrArg List.length h2
    simp at this
    rw [this]
    exact Nat.eq_of_beq_eq_true hzl
  have hpos : 0 < (E.ti e).sz := by simpa using hz0
  have hrep := madeCells_rel (sz := E.cx) (m := m) (w := w) h2 (by omega) c
  have hrun := run_make (P := E.P) w t e i v (tk_sl hok ht hk) h3 h4 kl kc (l : Int) (c : Int) (by omega) (by omega) (by rw [h6, ← Int.natCast_mul]; generalize (E.ti e).bt * c = p at hb ⊢; omega) (by unfold maxLen at hm; omega)
  refine ⟨_, by simpa [h5] using hrun, ?_, by simp [size_madeCells]⟩
  rw [hvs] at hrep
  simpa [madeCells, hvs] using hrep
theorem st_make {t e : TypeId} {x y : Operand} {z : List AV} {kl kc : IntKind} {n : Nat} {nl nc : Int} (ht : Nat.blt t E.n = true) (hk : (E.ti t).k = .sl e) (he : Nat.blt e E.n = true) (hz : (E.ti e).z = some z)
    (hzl : Nat.beq z.length (E.ti e).sz = true) (hz0 : Nat.blt 0 (E.ti e).sz = true) (hag : (E.ti e).k.agg = true ∨ Nat.beq (E.ti e).sz 1 = true) (hone : (E.ti e).k.agg = true ∨ z.all oneA = true) (hx : ρ x = .int kl nl) (hy : ρ y = .int kc nc) (hnl : nl = (n : Int)) (hnc : nc = (n : Int))
    (hb : (E.ti e).bt * n ≤ 281474976710656) (hm : n ≤ maxLen) (h : K (.sl (E.ti e).sz (List.replicate n (one1 z (E.ti e).k.agg))) H) : AStep E ⟨d, .makeSlice t x y, ty, pos, after, g⟩ ρ H K := by
  refine step_any (fun m w a hok hr hsim => ?_)
  obtain ⟨us, h1, h2, h3⟩ := run_mk (kl := kl) (kc := kc) (l := n) hok ht hk he hz hzl hz0 (Nat.le_refl n) hb hm (m := m) (w := w)
  have hx' := hr x; have hy' := hr y
  rw [hx] at hx'; rw [hy] at hy'
  subst hnl; subst hnc
  have hzl' := Nat.eq_of_beq_eq_true hzl
  have hk1 : (E.ti e).k.agg = false → (E.ti e).sz = 1 := fun ha => by
    rcases hag with h | h
    · rw [h] at ha; cases ha
    · exact Nat.eq_of_beq_eq_true h
  have hall : ∀ n, (∀ q ∈ z, oneA q = true) → (rep z n).all oneA = true := fun n hq => by
    induction n with
    | zero => rfl
    | succ n ih => simp only [rep, List.all_append, ih, Bool.and_true, List.all_eq_true]; exact hq
  obtain ⟨r1, r2, r3⟩ := avals_rel (agg := (E.ti e).k.agg) (k := (E.ti e).sz) hk1 n h2 (by rw [rep_length, hzl']) (fun ha => by
    rcases hone with h | h
    · rw [h] at ha; cases ha
    · exact one_relL h2 (hall n (by simpa using h)))
  rw [avals_rep hzl' hk1] at r1
  refine ⟨.slice (some ⟨w.heap.size, 0, none⟩) n n, w.alloc (.cells us e), m, _, H, by simp only [execOp, Sem.run_bind, rel_int hx', rel_int hy', h1, Result.andThen_ok, Sem.run_pure], Ext.alloc m w _, ?_, hsim.alloc _, h⟩
  exact sl_new hsim rfl (by simp) (Nat.le_refl _) hm r1 r2 (by rw [r3, List.take_of_length_le (Nat.le_refl _)])
theorem st_make_own {t e : TypeId} {x y : Operand} {z : List AV} {kl kc : IntKind} {n c : Nat} {nl nc : Int} (ht : Nat.blt t E.n = true) (hk : (E.ti t).k = .sl e) (he : Nat.blt e E.n = true) (hz : (E.ti e).z = some z)
    (hzl : Nat.beq z.length (E.ti e).sz = true) (hz0 : Nat.blt 0 (E.ti e).sz = true) (hag : (E.ti e).k.agg = true ∨ Nat.beq (E.ti e).sz 1 = true) (hone : (E.ti e).k.agg = true ∨ z.all oneA = true) (hx : ρ x = .int kl nl) (hy : ρ y = .int kc nc) (hnl : nl = (n : Int)) (hnc : nc = (c : Int)) (hlc : n ≤ c)
    (hb : (E.ti e).bt * c ≤ 281474976710656) (hm : c ≤ maxLen) (h : K (.own H.length 0 n) (H ++ [some (.arr (List.replicate n (one1 z (E.ti e).k.agg)) e)])) : AStep E ⟨d, .makeSlice t x y, ty, pos, after, g⟩ ρ H K := by
  refine step_any (fun m w a hok hr hsim => ?_)
  obtain ⟨us, h1, h2, h3⟩ := run_mk (kl := kl) (kc := kc) (l := n) hok ht hk he hz hzl hz0 hlc hb hm (m := m) (w := w)
  have hx' := hr x; have hy' := hr y
  rw [hx] at hx'; rw [hy] at hy'
  subst hnl; subst hnc
  have hzl' := Nat.eq_of_beq_eq_true hzl
  have hk1 : (E.ti e).k.agg = false → (E.ti e).sz = 1 := fun ha => by
    rcases hag with h | h
    · rw [h] at ha; cases ha
    · exact Nat.eq_of_beq_eq_true h
  have hall : ∀ n, (∀ q ∈ z, oneA q = true) → (rep z n).all oneA = true := fun n hq => by
    induction n with
    | zero => rfl
    | succ n ih => simp only [rep, List.all_append, ih, Bool.and_true, List.all_eq_true]; exact hq
  obtain ⟨r1, r2, r3⟩ := avals_rel (agg := (E.ti e).k.agg) (k := (E.ti e).sz) hk1 c h2 (by rw [rep_length, hzl']) (fun ha => by
    rcases hone with h | h
    · rw [h] at ha; cases ha
    · exact one_relL h2 (hall c (by simpa using h)))
  rw [avals_rep hzl' hk1] at r1
  have hsz2 : E.cx.sz e = (E.ti e).sz := by obtain ⟨_, _, _, _, _, _, _, _, _, h⟩ := tyOf_spec hok he; exact h
  have r4 := r1.take n
  rw [List.take_replicate, Nat.min_eq_left hlc] at r4
  have hft := flat_take r2 n
  obtain ⟨q1, q2, q3⟩ := own_new (e := e) (n := n) (c := c) hsim rfl hlc hm r4 (fun u hu => r2 u (List.mem_of_mem_take hu)) (by
    rw [hft, r3]
    simp only [List.length_take]
    rw [List.take_eq_take_iff]; simp) hsz2.symm h3
  exact ⟨.slice (some ⟨w.heap.size, 0, none⟩) n c, w.alloc (.cells us e), _, _, _, by simp only [execOp, Sem.run_bind, rel_int hx', rel_int hy', h1, Result.andThen_ok, Sem.run_pure], q1, q2, q3, h⟩
end
end Go.Abs
