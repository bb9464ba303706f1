/- Slicing, stores, new variables and literals. -/
import Derived.Test.YtfldnfchjaaoeaaA5
namespace Go.Abs
section
variable {E : Env} {N n0 : Nat} {Q : Exit → St → Prop} {s : St} {ρ : Operand → AV} {H : Hp} {K : AV → Hp → Prop}
variable {d : Option Tmp} {ty : TypeId} {pos : String} {after : Array Edge} {g : Option (Nat × Bool)}

/-- A bound of a slice expression. -/
def Bnd (ρ : Operand → AV) (o : Option Operand) (dflt j : Nat) : Prop :=
  match o with
  | none => j = dflt
  | some x => ∃ kk n, ρ x = .int kk n ∧ n = (j : Int)
theorem bnd_none {dflt : Nat} : Bnd ρ none dflt dflt := rfl
theorem bnd_some {x : Operand} {dflt j : Nat} {kk : IntKind} {n : Int} (h : ρ x = .int kk n) (hn : n = (j : Int)) : Bnd ρ (some x) dflt j := ⟨kk, n, h, hn⟩

theorem run_bounds {m : Mu} {w : World} {a : Act} (hr : ∀ x, E.Rel m w (ρ x) (a.eval x)) {lo hi : Option Operand} {len cap l h : Nat} (isSl : Bool) (hl : Bnd ρ lo 0 l) (hh : Bnd ρ hi len h) (hlh : l ≤ h) (hle : h ≤ len) (hc : len ≤ cap) :
    (Instr.sliceBounds isSl len cap (lo.map a.eval) (hi.map a.eval) none).run E.P w = .ok (l, h, cap) w := by
  have key : ∀ (o : Option Operand) (dflt j top : Nat) (cd : BoundsCode), Bnd ρ o dflt j → j ≤ top →
      (match o.map a.eval with | some v => Instr.sliceBound v top cd | none => pure dflt : Sem Nat).run E.P w = .ok j w := by
    intro o dflt j top cd hb hj
    cases o with
    | none => simp only [Bnd] at hb; subst hb; rfl
    | some x =>
      obtain ⟨kk, n, h1, h2⟩ := hb
      have h3 := hr x
      rw [h1] at h3
      subst h2
      have hin : (0 : Int) ≤ (j : Int) ∧ (j : Int) ≤ (top : Int) := by omega
      simp only [Option.map_some, Instr.sliceBound, Sem.run_bind, rel_int h3, asIntOf, Sem.run_pure, Result.andThen_ok, hin.1, hin.2, and_self, if_true, Int.toNat_natCast]
  have k1 := key hi len h cap (if isSl then .sliceAcap else .sliceAlen) hh (by omega)
  have k2 := key lo 0 l h .sliceB hl hlh
  unfold Instr.sliceBounds
  cases hi with
  | none =>
    simp only [Option.map_none, Sem.run_pure] at k1
    cases k1
    cases lo with
    | none => simp only [Option.map_none, Sem.run_pure] at k2; cases k2; simp
    | some y => simp only [Option.map_some] at k2; simp [k2]
  | some x =>
    simp only [Option.map_some] at k1
    cases lo with
    | none => simp only [Option.map_none, Sem.run_pure] at k2; cases k2; simp [k1]
    | some y => simp only [Option.map_some] at k2; simp [k1, k2]

theorem st_slice_sl {x : Operand} {lo hi : Option Operand} {t e : TypeId} {k : Nat} {es : List AV} {l h : Nat} (ht : Nat.blt t E.n = true) (htk : (E.ti t).k = .sl e) (he : Nat.blt e E.n = true) (hx : ρ x = .sl k es)
    (hk : Nat.beq (E.ti e).sz k = true) (hl : Bnd ρ lo 0 l) (hh : Bnd ρ hi es.length h) (hlh : l ≤ h) (hle : h ≤ es.length) (hK : K (.sl k ((es.take h).drop l)) H) :
    AStep E ⟨d, .slice t x lo hi none, ty, pos, after, g⟩ ρ H K := by
  refine step_same _ (fun m w a hok hr hsim => ?_) hK
  have h1 := hr x
  rw [hx] at h1
  simp only [Env.Rel, Abs.Rel] at h1
  obtain ⟨A, c, vs, h3, h4, h5, h6, h7, h8⟩ := h1
  have hkk : (E.ti e).sz = k := Nat.eq_of_beq_eq_true hk
  have hb := run_bounds hr (lo := lo) (hi := hi) (cap := c) true hl hh hlh hle h4
  refine ⟨.slice (if c = l then A else A.map (·.add (l * k))) (h - l) (c - l), ?_, ?_⟩
  · simp only [execOp, Instr.sliceAt, Instr.slice, Sem.run_bind, run_underlying (tk_sl hok ht htk), Result.andThen_ok, h3, Option.map_none, hb, run_size hok he, hkk, Sem.run_pure]
  · show Abs.Rel _ _ _ _ _
    simp only [Abs.Rel]
    have hlen : ((es.take h).drop l).length = h - l := by simp; omega
    have hsz : ∀ u ∈ (vs.take h).drop l, u.cells.size = k := fun u hu => h7 u (List.mem_of_mem_take (List.mem_of_mem_drop hu))
    refine ⟨_, c - l, (vs.take h).drop l, by rw [hlen], by omega, by omega, (h6.take h).drop l, hsz, fun hne => ?_⟩
    have hfl := flat_length hsz
    have hpos : 0 < h - l ∧ 0 < k := by
      rcases Nat.eq_zero_or_pos (h - l) with h0 | h0
      · exfalso; apply hne; apply List.eq_nil_of_length_eq_zero; rw [hfl, List.length_drop, List.length_take, h6.length]
        rw [show min h es.length - l = 0 by omega]; simp
      · rcases Nat.eq_zero_or_pos k with h1 | h1
        · exfalso; apply hne; apply List.eq_nil_of_length_eq_zero; rw [hfl, h1]; simp
        · exact ⟨h0, h1⟩
    obtain ⟨ad, rfl, h10, h11, hX, h12⟩ := fz_some hpos.2 (by omega) h6 h7 h8
    rw [if_neg (by omega)]
    refine ⟨_, rfl, by rw [add_block]; exact h10, by rw [add_block]; exact h11, by rw [add_block]; exact hX, fun j u hu => ?_⟩
    rw [add_add]
    apply h12
    rw [flat_drop (fun u hu => h7 u (List.mem_of_mem_take hu)), flat_take h7, List.getElem?_drop, List.getElem?_take] at hu
    split at hu
    · exact hu
    · cases hu
theorem st_slice_nil {x : Operand} {lo hi : Option Operand} {t e : TypeId} (ht : Nat.blt t E.n = true) (htk : (E.ti t).k = .sl e) (he : Nat.blt e E.n = true) (hx : ρ x = .nils)
    (hl : Bnd ρ lo 0 0) (hh : Bnd ρ hi 0 0) (hK : K .nils H) : AStep E ⟨d, .slice t x lo hi none, ty, pos, after, g⟩ ρ H K := by
  refine step_same _ (fun m w a hok hr hsim => ?_) hK
  have h1 := hr x
  rw [hx] at h1
  simp only [Env.Rel, Abs.Rel] at h1
  have hb := run_bounds hr (lo := lo) (hi := hi) (cap := 0) true hl hh (Nat.le_refl 0) (Nat.le_refl 0) (Nat.le_refl 0)
  refine ⟨.slice none 0 0, ?_, by show Abs.Rel _ _ _ _ _; simp [Abs.Rel]⟩
  simp only [execOp, Instr.sliceAt, Instr.slice, Sem.run_bind, run_underlying (tk_sl hok ht htk), Result.andThen_ok, h1, Option.map_none, hb, run_size hok he, Sem.run_pure, if_true, Nat.sub_zero]
theorem st_slice_own {x : Operand} {lo hi : Option Operand} {t e e' : TypeId} {id o n : Nat} {es : List AV} {l h : Nat} (ht : Nat.blt t E.n = true) (htk : (E.ti t).k = .sl e) (he : Nat.blt e E.n = true) (he' : Nat.blt e' E.n = true)
    (hx : ρ x = .own id o n) (ho : H[id]? = some (some (.arr es e'))) (hk : Nat.beq (E.ti e).sz (E.ti e').sz = true) (hl : Bnd ρ lo 0 l) (hh : Bnd ρ hi n h) (hlh : l ≤ h) (hle : h ≤ n) (hK : K (.own id (o + l) (h - l)) H) :
    AStep E ⟨d, .slice t x lo hi none, ty, pos, after, g⟩ ρ H K := by
  refine step_same _ (fun m w a hok hr hsim => ?_) hK
  have h1 := hr x
  rw [hx] at h1
  simp only [Env.Rel, Abs.Rel] at h1
  obtain ⟨A, c, h3, h4, h5, h6, h7, h8⟩ := h1
  have hkk : (E.ti e).sz = (E.ti e').sz := Nat.eq_of_beq_eq_true hk
  have hsz2 : E.cx.sz e' = (E.ti e').sz := by obtain ⟨_, _, _, _, _, _, _, _, _, h⟩ := tyOf_spec hok he'; exact h
  have hb := run_bounds hr (lo := lo) (hi := hi) (cap := c) true hl hh hlh hle h4
  refine ⟨.slice (if c = l then A else A.map (·.add (l * (E.ti e).sz))) (h - l) (c - l), ?_, ?_⟩
  · simp only [execOp, Instr.sliceAt, Instr.slice, Sem.run_bind, run_underlying (tk_sl hok ht htk), Result.andThen_ok, h3, Option.map_none, hb, run_size hok he, Sem.run_pure]
  · show Abs.Rel _ _ _ _ _
    simp only [Abs.Rel]
    refine ⟨_, _, rfl, by omega, by omega, h6, fun hq => ?_, fun b hq => ?_⟩
    · obtain ⟨hA, hc⟩ := h7 hq
      subst hA
      refine ⟨by split <;> rfl, by omega⟩
    · obtain ⟨e2, k2, h9, h10, h11⟩ := h8 b hq
      have hee : e2 = e' := by
        obtain ⟨q, hq2, hob⟩ := hsim.live id _ ho
        rw [hq] at hq2; cases hq2
        obtain ⟨us, vs, h12, _⟩ := hob
        unfold World.shape? at h9
        rw [h12] at h9
        simp at h9
        exact h9.1.symm
      subst hee
      refine ⟨e2, k2, h9, by rw [← h10]; congr 1; omega, fun hpos => ?_⟩
      have hcases : (0 < c - l) ∨ (l = 0 ∧ o = 0) := by omega
      have hA : A = some ⟨b, o * E.cx.sz e2, none⟩ := h11 (by omega)
      by_cases hcl : c = l
      · obtain ⟨rfl, rfl⟩ : l = 0 ∧ o = 0 := by omega
        rw [if_pos hcl, hA]
      rw [if_neg hcl, hA]
      have : ∀ o q, (⟨b, o, none⟩ : Addr).add q = ⟨b, o + q, none⟩ := fun o q => by unfold Addr.add; split <;> simp_all
      simp only [Option.map_some, this, hkk, hsz2, Nat.add_mul]
theorem st_slice_str {x : Operand} {lo hi : Option Operand} {t : TypeId} {b : List UInt8} {l h : Nat} (ht : Nat.blt t E.n = true) (htk : (E.ti t).k = .str) (hx : ρ x = .str b)
    (hl : Bnd ρ lo 0 l) (hh : Bnd ρ hi b.length h) (hlh : l ≤ h) (hle : h ≤ b.length) (hK : K (.str ((b.take h).drop l)) H) : AStep E ⟨d, .slice t x lo hi none, ty, pos, after, g⟩ ρ H K := by
  refine step_same _ (fun m w a hok hr hsim => ?_) hK
  have h1 := hr x
  rw [hx] at h1
  have hsize : (ByteArray.mk b.toArray).size = b.length := rfl
  have hb := run_bounds hr (lo := lo) (hi := hi) (cap := b.length) false hl hh hlh hle (Nat.le_refl _)
  refine ⟨.string ((ByteArray.mk b.toArray).extract l h), ?_, ?_⟩
  · simp only [execOp, Instr.sliceAt, Instr.slice, Sem.run_bind, run_underlying (tk_str hok ht htk), Result.andThen_ok, rel_str h1, Option.map_none, hsize, hb, Sem.run_pure, Option.isSome_none, Bool.false_eq_true, if_false]
  · show Abs.Rel _ _ _ _ _
    simp only [Abs.Rel, Value.string.injEq]
    apply ByteArray.ext
    simp [ByteArray.data_extract, List.extract_toArray, List.extract_eq_take_drop, List.drop_take]

/-! Stores -/
def oneA : AV → Bool
  | .any | .agg _ | .tup _ => false
  | _ => true
theorem one_rel {sz : Cx} {m : Mu} {w : World} {x : AV} {v : Value} (h : Rel sz m w x v) (h1 : oneA x = true) : v.oneCell' = true := by
  cases x <;> simp [oneA] at h1 <;> simp only [Rel] at h <;>
    first
      | (subst h; rfl)
      | (obtain ⟨_, rfl, _⟩ := h; rfl)
      | (obtain ⟨_, _, rfl, _⟩ := h; rfl)
      | (obtain ⟨_, _, _, rfl, _⟩ := h; rfl)
theorem one_relL {sz : Cx} {m : Mu} {w : World} : ∀ {xs : List AV} {vs : List Value}, RelL sz m w xs vs → xs.all oneA = true → ∀ v ∈ vs, v.oneCell' = true
  | [], _, h, _, v, hv => by rw [relL_nil] at h; subst h; cases hv
  | x :: xs, _, h, h1, v, hv => by
    rw [relL_cons] at h
    obtain ⟨u, r, rfl, h2, h3⟩ := h
    simp only [List.all_cons, Bool.and_eq_true] at h1
    simp only [List.mem_cons] at hv
    rcases hv with rfl | hv
    · exact one_rel h2 h1.1
    · exact one_relL h3 h1.2 v hv
def spl (cs : List AV) (off : Nat) (new : List AV) : List AV := cs.take off ++ new ++ cs.drop (off + new.length)

theorem run_storeVar {t : TypeId} (hok : E.Ok) (ht : Nat.blt t E.n = true) {w : World} {b off : Nat} {u : TypeId} {cur : Array Value} {v : Value} {vs : List Value} (hv : v.cells.toList = vs) (hl : vs.length = (E.ti t).sz)
    (hb : w.heap[b]? = some (.cells cur u (0, 0))) (hfit : off + vs.length ≤ cur.size) (h1 : ∀ v ∈ vs, v.oneCell' = true) :
    (storeVar t ⟨b, off, none⟩ v).run E.P w = .ok () (w.setRow b (cur.toList.take off ++ vs ++ cur.toList.drop (off + vs.length)).toArray) := by
  unfold storeVar
  have hsz : v.cells.size = (E.ti t).sz := by rw [← hl, ← hv]; simp
  have hst := run_storeCells_at E.P b off u vs 0 cur w hb (by simpa using hfit) h1
  simp only [Sem.run_bind, run_size hok ht, Result.andThen_ok, hsz, ne_eq, not_true, if_false]
  rw [hv]
  simpa using hst

theorem flat_split {vs : List Value} {i : Nat} {u : Value} (hu : vs[i]? = some u) : flat vs = flat (vs.take i) ++ u.cells.toList ++ flat (vs.drop (i + 1)) := by
  have hi : i < vs.length := (List.getElem?_eq_some_iff.1 hu).1
  have hget : vs[i] = u := (List.getElem?_eq_some_iff.1 hu).2
  have h1 : vs = vs.take i ++ (u :: vs.drop (i + 1)) := by
    rw [← hget, ← List.drop_eq_getElem_cons hi, List.take_append_drop]
  conv => lhs; rw [h1]
  simp [flat]
/-- A store into a variable of its own, or into a struct behind a pointer. -/
theorem st_store_ptr {t : TypeId} {p x : Operand} {id off : Nat} {cs : List AV} {e : TypeId} (ht : Nat.blt t E.n = true) (hp : ρ p = .ptr id off) (ho : H[id]? = some (some (.cells cs e)))
    (hl : Nat.beq (cellsA (ρ x)).length (E.ti t).sz = true) (hone : (cellsA (ρ x)).all oneA = true) (hkn : known (ρ x) = true) (hfit : Nat.ble (off + (cellsA (ρ x)).length) cs.length = true)
    (h : K (.tup []) (H.set id (some (.cells (spl cs off (cellsA (ρ x))) e)))) : AStep E ⟨d, .store t p x, ty, pos, after, g⟩ ρ H K := by
  refine step_skip (fun m w a hok hr hsim => ?_)
  have h1 := hr p; have h2 := hr x
  rw [hp] at h1
  simp only [Env.Rel, Abs.Rel] at h1
  obtain ⟨ad, h3, h4, h5⟩ := h1
  obtain ⟨q, hq, hob⟩ := hsim.live id _ ho
  cases q with
  | dead => exact hob.elim
  | nil => exact hob.elim
  | blk b =>
    obtain ⟨us, h6, h7⟩ := hob
    have hcr := cells_rel h2 hkn
    have hvl := hcr.length
    have hul := h7.length
    have hle : off + (cellsA (ρ x)).length ≤ cs.length := Nat.le_of_ble_eq_true hfit
    have hus : us.size = cs.length := by simpa using hul
    have hrun := run_storeVar (E := E) hok ht (w := w) (b := b) (off := off) (v := a.eval x) rfl (by rw [hvl]; exact Nat.eq_of_beq_eq_true hl) h6 (by rw [hvl]; omega) (one_relL hcr hone)
    have hmem : MS.blk b ∈ m := List.mem_of_getElem? hq
    have hlt : b < w.heap.size := (Array.getElem?_eq_some_iff.1 h6).1
    have hext : Ext m w m (w.setRow b (us.toList.take off ++ (a.eval x).cells.toList ++ us.toList.drop (off + (a.eval x).cells.toList.length)).toArray) :=
      Ext.owned hmem rfl rfl rfl (by simp) (fun c hc => setRow_other w b c _ (by omega)) (fun s hs => by
        unfold World.shape? at hs ⊢
        rw [h6] at hs
        rw [setRow_heap w b us _ e _ h6]
        simp at hs
        subst hs
        simp only [Option.some.injEq, Prod.mk.injEq, true_and, List.size_toArray, List.length_append, List.length_take, List.length_drop, Array.length_toList, hvl]
        omega)
    refine ⟨_, m, _, ?_, hext, hsim.owned (ao := .cells (spl cs off (cellsA (ρ x))) e) hext hq (fun c hc => setRow_other w b c _ (by omega)) ⟨_, setRow_heap w b us _ e _ h6, ?_⟩, h⟩
    · rw [h5 b hq] at h3
      simp only [execOp, Instr.storeAt, h3, Instr.sureAddr, Sem.run_bind, Sem.run_pure, Result.andThen_ok, hrun]
    · have e1 := (h7.take off).append hcr
      have e2 := e1.append (h7.drop (off + (cellsA (ρ x)).length))
      have e3 := RelL.ext hext _ e2
      simpa [spl, hvl] using e3

/-- A store into an element of an array that is owned. -/
def setE (off : Nat) (x y : AV) : Option AV :=
  match y with
  | .agg cs => if off + (cellsA x).length ≤ cs.length then some (.agg (spl cs off (cellsA x))) else none
  | _ => if off = 0 then (if oneA x then some x else none) else none
theorem st_store_pe {t : TypeId} {p x : Operand} {id i off : Nat} {es : List AV} {e : TypeId} {y z : AV} (ht : Nat.blt t E.n = true) (hte : Nat.blt e E.n = true) (hp : ρ p = .pe id i off) (ho : H[id]? = some (some (.arr es e)))
    (hy : es[i]? = some y) (hky : known y = true) (hz : setE off (ρ x) y = some z)
    (hl : Nat.beq (cellsA (ρ x)).length (E.ti t).sz = true) (hone : (cellsA (ρ x)).all oneA = true) (hkn : known (ρ x) = true)
    (h : K (.tup []) (H.set id (some (.arr (es.set i z) e)))) : AStep E ⟨d, .store t p x, ty, pos, after, g⟩ ρ H K := by
  refine step_skip (fun m w a hok hr hsim => ?_)
  have h1 := hr p; have h2 := hr x
  rw [hp] at h1
  simp only [Env.Rel, Abs.Rel] at h1
  obtain ⟨ad, h3, h4, h5⟩ := h1
  obtain ⟨q, hq, hob⟩ := hsim.live id _ ho
  cases q with
  | dead => exact hob.elim
  | nil => subst hob; simp at hy
  | blk b =>
    obtain ⟨us, vs, h6, h7, h8, h9⟩ := hob
    obtain ⟨e2, k2, h10, h11⟩ := h5 b hq
    have hee : e2 = e := by
      unfold World.shape? at h10
      rw [h6] at h10
      simp at h10
      exact h10.1.symm
    subst hee
    obtain ⟨u, hu, hru⟩ := h7.get i hy
    have hcy := cells_rel hru hky
    have hcr := cells_rel h2 hkn
    have hvl := hcr.length
    have hus : u.cells.size = E.cx.sz e2 := h8 u (List.mem_of_getElem? hu)
    have hcyl : (cellsA y).length = E.cx.sz e2 := by rw [← hcy.length]; simpa using hus
    have hfl := flat_length h8
    have hil : i < vs.length := (List.getElem?_eq_some_iff.1 hu).1
    -- where the new cells lie
    have hoff : off + (cellsA (ρ x)).length ≤ E.cx.sz e2 := by
      rw [← hcyl]
      unfold setE at hz
      split at hz
      · split at hz
        · assumption
        · cases hz
      · split at hz
        · rename_i h0
          split at hz
          · rename_i ho1
            subst h0
            have : cellsA (ρ x) = [ρ x] := by cases hx : ρ x <;> simp_all [oneA, cellsA]
            have : cellsA y = [y] := by cases y <;> simp_all [cellsA]
            simp_all
          · cases hz
        · cases hz
    have hle : i * E.cx.sz e2 + E.cx.sz e2 ≤ (flat vs).length := by
      rw [hfl, show i * E.cx.sz e2 + E.cx.sz e2 = (i + 1) * E.cx.sz e2 by rw [Nat.add_mul]; omega]
      exact Nat.mul_le_mul_right _ hil
    have hfu : (flat vs).length ≤ us.size := by
      have h1 := congrArg List.length h9
      rw [List.length_take] at h1
      have h2 : us.toList.length = us.size := by simp
      omega
    have hrun := run_storeVar (E := E) hok ht (w := w) (b := b) (off := i * E.cx.sz e2 + off) (v := a.eval x) rfl (by rw [hvl]; exact Nat.eq_of_beq_eq_true hl) h6 (by rw [hvl]; omega) (one_relL hcr hone)
    have hmem : MS.blk b ∈ m := List.mem_of_getElem? hq
    have hext : Ext m w m (w.setRow b (us.toList.take (i * E.cx.sz e2 + off) ++ (a.eval x).cells.toList ++ us.toList.drop (i * E.cx.sz e2 + off + (a.eval x).cells.toList.length)).toArray) :=
      Ext.owned hmem rfl rfl rfl (by simp) (fun c hc => setRow_other w b c _ (by omega)) (fun s hs => by
        unfold World.shape? at hs ⊢
        rw [h6] at hs
        rw [setRow_heap w b us _ e2 _ h6]
        simp at hs
        subst hs
        simp only [Option.some.injEq, Prod.mk.injEq, true_and, List.size_toArray, List.length_append, List.length_take, List.length_drop, Array.length_toList, hvl]
        omega)
    -- the new element's value
    obtain ⟨zu, hzu, hzc⟩ : ∃ zu : Value, E.Rel m w z zu ∧ zu.cells.toList = u.cells.toList.take off ++ (a.eval x).cells.toList ++ u.cells.toList.drop (off + (a.eval x).cells.toList.length) := by
      unfold setE at hz
      split at hz
      · split at hz
        · cases hz
          refine ⟨.agg (u.cells.toList.take off ++ (a.eval x).cells.toList ++ u.cells.toList.drop (off + (a.eval x).cells.toList.length)).toArray, ?_, by simp [Value.cells]⟩
          show Abs.Rel _ _ _ _ _
          simp only [Abs.Rel]
          refine ⟨_, rfl, ?_⟩
          have hcy' : E.RelL m w _ u.cells.toList := hcy
          simp only [cellsA] at hcy'
          have e2 := ((hcy'.take off).append hcr).append (hcy'.drop (off + (cellsA (ρ x)).length))
          simpa [spl, hvl] using e2
        · cases hz
      · split at hz
        · rename_i h0
          split at hz
          · rename_i ho1
            cases hz
            subst h0
            refine ⟨a.eval x, h2, ?_⟩
            have e1 : cellsA y = [y] := by cases y <;> simp_all [cellsA]
            have e2 : u.cells.toList.length = 1 := by rw [hcy.length, e1]; rfl
            have e3 : (a.eval x).cells.toList.length = 1 := by
              rw [hvl]
              have : cellsA (ρ x) = [ρ x] := by cases hx : ρ x <;> simp_all [oneA, cellsA]
              rw [this]; rfl
            simp only [List.take_zero, List.nil_append, Nat.zero_add]
            rw [List.drop_eq_nil_of_le (by omega), List.append_nil]
          · cases hz
        · cases hz
    refine ⟨_, m, _, ?_, hext, hsim.owned (ao := .arr (es.set i z) e2) hext hq (fun c hc => setRow_other w b c _ (by omega)) ⟨_, vs.set i zu, setRow_heap w b us _ e2 _ h6, ?_, ?_, ?_⟩, h⟩
    · rw [h11] at h3
      simp only [execOp, Instr.storeAt, h3, Instr.sureAddr, Sem.run_bind, Sem.run_pure, Result.andThen_ok, hrun]
    · exact RelL.ext hext _ (h7.set i hzu)
    · intro q hq'
      rcases List.mem_or_eq_of_mem_set hq' with h | h
      · exact h8 q h
      · subst h
        have := congrArg List.length hzc
        simp only [List.length_append, List.length_take, List.length_drop, Array.length_toList] at this
        have h3 : (a.eval x).cells.toList.length = (a.eval x).cells.size := by simp
        rw [h3] at hvl
        omega
    · have hs1 := flat_split hu
      have hs2 : flat (vs.set i zu) = flat (vs.take i) ++ zu.cells.toList ++ flat (vs.drop (i + 1)) := by
        rw [List.set_eq_take_append_cons_drop, if_pos hil]
        simp [flat]
      have hA : (flat (vs.take i)).length = i * E.cx.sz e2 := by
        rw [flat_length fun u hu => h8 u (List.mem_of_mem_take hu), List.length_take, Nat.min_eq_left (by omega)]
      have hU : u.cells.toList.length = E.cx.sz e2 := by simpa using hus
      have hus2 : us.toList = flat (vs.take i) ++ (u.cells.toList ++ (flat (vs.drop (i + 1)) ++ us.toList.drop (flat vs).length)) := by
        have h0 := List.take_append_drop (flat vs).length us.toList
        rw [h9] at h0
        generalize us.toList.drop (flat vs).length = D at h0 ⊢
        rw [hs1] at h0
        rw [← h0]
        simp [List.append_assoc]
      generalize hR : us.toList.drop (flat vs).length = R at hus2
      have hnew : us.toList.take (i * E.cx.sz e2 + off) ++ (a.eval x).cells.toList ++ us.toList.drop (i * E.cx.sz e2 + off + (a.eval x).cells.toList.length) = flat (vs.set i zu) ++ R := by
        rw [hs2, hzc, hus2, ← hA, List.take_length_add_append, Nat.add_assoc, List.drop_length_add_append, List.take_append_of_le_length (by rw [hU]; omega), List.drop_append_of_le_length (by rw [hU, hvl]; omega)]
        simp [List.append_assoc]
      rw [List.toList_toArray, hnew, List.take_left']
      rfl
end
end Go.Abs
