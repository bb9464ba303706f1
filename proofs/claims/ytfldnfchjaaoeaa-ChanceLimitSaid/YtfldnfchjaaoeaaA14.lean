/- What an argument's reading says of its abstract value. -/
import Derived.Test.YtfldnfchjaaoeaaA13
import Derived.ProofKit
import Derived.Deep.Slices
namespace Go.Abs
open Go.Deep
section
variable {E : Env} {H : Type} {enc : TypeId × Value → H} {W : World}

def elA (agg : Bool) (ys : List AV) : AV := if agg then .agg ys else ys.headD .any
/-- The cells of a struct, field by field. -/
def hasF (E : Env) (rec : TypeId → List AV → Prop) : List (Nat × TypeId) → List AV → Prop
  | [], xs => xs = []
  | p :: r, xs => ∃ a b, xs = a ++ b ∧ rec p.2 a ∧ hasF E rec r b
/-- What the cells of a value of the type t are. -/
def hasC (E : Env) : Nat → TypeId → List AV → Prop
  | 0, _, _ => False
  | f + 1, t, xs =>
    match (E.ti t).k with
    | .int k => ∃ n, xs = [.int k n] ∧ k.min ≤ n ∧ n ≤ k.max
    | .bool => ∃ b, xs = [.bool b]
    | .str => ∃ s, xs = [.str s] ∧ s.length ≤ maxLen
    | .sl e => ∃ es, xs = [.sl (E.ti e).sz es] ∧ es.length ≤ maxLen ∧ ∀ x ∈ es, ∃ ys, x = elA (E.ti e).k.agg ys ∧ hasC E f e ys
    | .struct fs => hasF E (hasC E f) fs xs
    | _ => False
def layT (E : Env) : List (Nat × TypeId) → Nat → Nat → Bool
  | [], o, n => Nat.beq o n
  | p :: r, o, n => Nat.beq p.1 o && layT E r (o + (E.ti p.2).sz) n
/-- Types of plain data, whose structs' cells are their fields' cells in order. -/
def plainT (E : Env) : Nat → TypeId → Bool
  | 0, _ => false
  | f + 1, t => Nat.blt t E.n &&
    match (E.ti t).k with
    | .int _ | .bool | .str => Nat.beq (E.ti t).sz 1
    | .sl e => Nat.beq (E.ti t).sz 1 && plainT E f e && Nat.blt 0 (E.ti e).sz
    | .struct fs => layT E fs 0 (E.ti t).sz && fs.all fun p => plainT E f p.2
    | _ => false

theorem cellsOf_eq {t : TypeId} (hok : E.Ok) (ht : Nat.blt t E.n = true) : E.P.cellsOf t = (E.ti t).sz := by
  obtain ⟨i, d, h1, _, h2, _⟩ := tyOf_spec hok ht
  unfold Program.cellsOf
  rw [h1]; exact h2

theorem fields_av {f : Nat} {cs : List Value} {n : Nat}
    (IH : ∀ t cs x, plainT E f t = true → DataW.trod enc E.P W 0 (fun _ => true) true n t cs = some x → ∃ xs, E.RelL [] W xs cs ∧ hasC E f t xs ∧ cs.length = (E.ti t).sz) (hok : E.Ok) :
    ∀ (F : List Field) (o : Nat), layT E (F.map fun f => (f.offset, f.type)) o cs.length = true → ((F.map fun f => (f.offset, f.type)).all fun p => plainT E f p.2) = true → o ≤ cs.length →
      (∀ g ∈ F, ∃ x, DataW.trod enc E.P W 0 (fun _ => true) true n g.type ((cs.drop g.offset).take (E.P.cellsOf g.type)) = some x) →
      ∃ xs, E.RelL [] W xs (cs.drop o) ∧ hasF E (hasC E f) (F.map fun f => (f.offset, f.type)) xs
  | [], o, hl, _, _, _ => by
    simp only [List.map_nil, layT] at hl
    have := Nat.eq_of_beq_eq_true hl
    subst this
    exact ⟨[], by simp [Abs.RelL], rfl⟩
  | g :: F, o, hl, hp, ho, hx => by
    simp only [List.map_cons, layT, Bool.and_eq_true] at hl
    simp only [List.map_cons, List.all_cons, Bool.and_eq_true] at hp
    have hgo : g.offset = o := Nat.eq_of_beq_eq_true hl.1
    obtain ⟨x, h1⟩ := hx g (by simp)
    obtain ⟨a, h2, h3, h4⟩ := IH _ _ _ hp.1 h1
    have hgt : Nat.blt g.type E.n = true := by
      have := hp.1
      cases f with
      | zero => simp [plainT] at this
      | succ f => simp only [plainT, Bool.and_eq_true] at this; exact this.1
    rw [cellsOf_eq hok hgt, hgo] at h2 h4
    have hle : o + (E.ti g.type).sz ≤ cs.length := by simp at h4; omega
    obtain ⟨b, h5, h6⟩ := fields_av IH hok F (o + (E.ti g.type).sz) hl.2 hp.2 hle fun q hq => hx q (List.mem_cons_of_mem _ hq)
    refine ⟨a ++ b, ?_, a, b, rfl, h3, h6⟩
    have : cs.drop o = (cs.drop o).take (E.ti g.type).sz ++ cs.drop (o + (E.ti g.type).sz) := by
      rw [← List.drop_drop, List.take_append_drop]
    rw [this]
    exact RelL.append h2 h5

theorem one_cell {f : Nat} {t : TypeId} {xs : List AV} {cs : List Value} (h : hasC E f t xs) (ha : (E.ti t).k.agg = false) (hr : E.RelL [] W xs cs) : ∃ x v, xs = [x] ∧ cs = [v] ∧ E.Rel [] W x v ∧ v.cells = #[v] := by
  cases f with
  | zero => exact h.elim
  | succ f =>
    simp only [hasC] at h
    split at h
    · obtain ⟨n, rfl, _⟩ := h
      obtain ⟨v, r, rfl, h1, h2⟩ := relL_cons.1 hr
      rw [relL_nil] at h2; subst h2
      refine ⟨_, v, rfl, rfl, h1, ?_⟩
      simp only [Abs.Rel] at h1; subst h1; rfl
    · obtain ⟨n, rfl⟩ := h
      obtain ⟨v, r, rfl, h1, h2⟩ := relL_cons.1 hr
      rw [relL_nil] at h2; subst h2
      refine ⟨_, v, rfl, rfl, h1, ?_⟩
      simp only [Abs.Rel] at h1; subst h1; rfl
    · obtain ⟨n, rfl, _⟩ := h
      obtain ⟨v, r, rfl, h1, h2⟩ := relL_cons.1 hr
      rw [relL_nil] at h2; subst h2
      refine ⟨_, v, rfl, rfl, h1, ?_⟩
      simp only [Abs.Rel] at h1; subst h1; rfl
    · obtain ⟨n, rfl, _⟩ := h
      obtain ⟨v, r, rfl, h1, h2⟩ := relL_cons.1 hr
      rw [relL_nil] at h2; subst h2
      refine ⟨_, v, rfl, rfl, h1, ?_⟩
      simp only [Abs.Rel] at h1
      obtain ⟨A, c, vs, rfl, _⟩ := h1
      rfl
    · rename_i hk; rw [hk] at ha; cases ha
    · exact h.elim

theorem el_av {f : Nat} {t : TypeId} {xs : List AV} {cs : List Value} (h : hasC E f t xs) (hr : E.RelL [] W xs cs) : ∃ u, u.cells.toList = cs ∧ E.Rel [] W (elA (E.ti t).k.agg xs) u := by
  cases ha : (E.ti t).k.agg with
  | true => exact ⟨.agg cs.toArray, rfl, by simp only [elA, if_true, Env.Rel, Abs.Rel]; exact ⟨cs, rfl, hr⟩⟩
  | false =>
    obtain ⟨x, v, rfl, rfl, h1, h2⟩ := one_cell h ha hr
    exact ⟨v, by rw [h2], by simpa [elA] using h1⟩

theorem relL_range {x : Nat → AV} {v : Nat → Value} : ∀ (l : List Nat), (∀ i ∈ l, E.Rel [] W (x i) (v i)) → E.RelL [] W (l.map x) (l.map v)
  | [], _ => by simp [Abs.RelL]
  | i :: l, h => RelL.cons (h i (by simp)) (relL_range l fun j hj => h j (by simp [hj]))

theorem trod_av (hok : E.Ok) (hX : ∀ b, ¬ E.X b) : ∀ (f fuel : Nat) (t : TypeId) (cs : List Value) (x : DataW H × List MemPlace), plainT E f t = true → DataW.trod enc E.P W 0 (fun _ => true) true fuel t cs = some x →
    ∃ xs, E.RelL [] W xs cs ∧ hasC E f t xs ∧ cs.length = (E.ti t).sz
  | 0, _, _, _, _, hp, _ => by simp [plainT] at hp
  | f + 1, fuel, t, cs, x, hp, h => by
    simp only [plainT, Bool.and_eq_true] at hp
    obtain ⟨ht, hp⟩ := hp
    cases hk : (E.ti t).k with
    | int k =>
      rw [hk] at hp
      obtain ⟨n, rfl, _, hw⟩ := DataW.trod_int (tk_int hok ht hk) h
      simp only [Lit.wf, Bool.and_eq_true, decide_eq_true_eq] at hw
      refine ⟨[.int k n], RelL.cons (by simp [Abs.Rel]) (by simp [Abs.RelL]), ?_, (Nat.eq_of_beq_eq_true hp).symm⟩
      simp only [hasC, hk]
      exact ⟨n, rfl, hw⟩
    | bool =>
      rw [hk] at hp
      obtain ⟨b, rfl, _⟩ := DataW.trod_bool (tk_bool hok ht hk) h
      refine ⟨[.bool b], RelL.cons (by simp [Abs.Rel]) (by simp [Abs.RelL]), ?_, (Nat.eq_of_beq_eq_true hp).symm⟩
      simp only [hasC, hk]
      exact ⟨b, rfl⟩
    | str =>
      rw [hk] at hp
      obtain ⟨s, rfl, _, hs⟩ := DataW.trod_string (tk_str hok ht hk) h
      refine ⟨[.str s.data.toList], RelL.cons (by simp [Abs.Rel]) (by simp [Abs.RelL]), ?_, (Nat.eq_of_beq_eq_true hp).symm⟩
      simp only [hasC, hk]
      exact ⟨_, rfl, by rw [Array.length_toList]; exact hs⟩
    | sl e =>
      rw [hk] at hp
      simp only [Bool.and_eq_true] at hp
      obtain ⟨⟨hs1, hpe⟩, h0⟩ := hp
      have he : Nat.blt e E.n = true := by
        cases f with
        | zero => simp [plainT] at hpe
        | succ f => simp only [plainT, Bool.and_eq_true] at hpe; exact hpe.1
      rcases open_slice (tk_sl hok ht hk) h with ⟨rfl, _⟩ | ⟨a, len, cap, m, n, D, Pl, rfl, _, hl, hm, hmm, _, hx⟩
      · refine ⟨[.sl (E.ti e).sz []], RelL.cons ?_ (by simp [Abs.RelL]), ?_, (Nat.eq_of_beq_eq_true hs1).symm⟩
        · simp only [Abs.Rel]
          exact ⟨none, 0, [], rfl, Nat.le_refl _, Nat.zero_le _, by simp [Abs.RelL], fun _ h => absurd h (by simp), fun h => absurd rfl h⟩
        · simp only [hasC, hk]
          exact ⟨[], rfl, Nat.zero_le _, fun _ h => absurd h (by simp)⟩
      · simp only [if_true] at hmm
        subst hmm
        have hx2 : ∀ i, i < m → ∃ (p : (List Value × List AV) × Value), W.cells? 0 (a.add (i * (E.ti e).sz)) (E.ti e).sz = some p.1.1 ∧ hasC E f e p.1.2 ∧ p.2.cells.toList = p.1.1 ∧ E.Rel [] W (elA (E.ti e).k.agg p.1.2) p.2 ∧ p.1.1.length = (E.ti e).sz := fun i hi => by
          obtain ⟨cs', h1, h2⟩ := hx i hi
          rw [cellsOf_eq hok he] at h1
          obtain ⟨xs, h3, h4, h5⟩ := trod_av hok hX f n e cs' _ hpe h2
          obtain ⟨u, h6, h7⟩ := el_av h4 h3
          exact ⟨((cs', xs), u), h1, h4, h6, h7, h5⟩
        obtain ⟨V, hV⟩ := choose_lt hx2
        have hrel : E.RelL [] W ((List.range len).map fun i => elA (E.ti e).k.agg (V i).1.2) ((List.range len).map fun i => (V i).2) := relL_range _ fun i hi => (hV i (by have := List.mem_range.1 hi; omega)).2.2.2.1
        have hsz : ∀ u ∈ (List.range len).map (fun i => (V i).2), u.cells.size = (E.ti e).sz := fun u hu => by
          obtain ⟨i, hi, rfl⟩ := List.mem_map.1 hu
          have h1 := hV i (by have := List.mem_range.1 hi; omega)
          have := congrArg List.length h1.2.2.1
          rw [h1.2.2.2.2] at this
          simpa using this
        have h0' : 0 < (E.ti e).sz := by simpa using h0
        refine ⟨[.sl (E.ti e).sz ((List.range len).map fun i => elA (E.ti e).k.agg (V i).1.2)], RelL.cons ?_ (by simp [Abs.RelL]), ?_, (Nat.eq_of_beq_eq_true hs1).symm⟩
        · simp only [Abs.Rel]
          refine ⟨some a, m, _, by simp, by simpa using hl, hm, hrel, hsz, fun hne => ⟨a, rfl, ?_, by simp, hX _, ?_⟩⟩
          · have hlen : 0 < len := by
              rcases Nat.eq_zero_or_pos len with h | h
              · subst h; exact absurd rfl hne
              · exact h
            obtain ⟨_, h2, h3⟩ := World.cells?_some (hV 0 (by omega)).1
            have h4 := h3 0 h0'
            rw [Nat.zero_mul] at h4
            have h5 : (V 0).1.1[0]? ≠ none := by
              rw [List.getElem?_eq_getElem (by rw [h2]; exact h0')]; simp
            rw [← h4] at h5
            have h6 : ((a.add 0).add 0) = a := by simp [Addr.add]
            rw [h6] at h5
            rcases Nat.lt_or_ge a.block W.heap.size with h7 | h7
            · exact h7
            · exfalso
              apply h5
              unfold World.cell?
              rw [Array.getElem?_eq_none h7]
          · intro j u hj
            have hlt : j < len * (E.ti e).sz := by
              have := (List.getElem?_eq_some_iff.1 hj).1
              rw [flat_length hsz] at this
              simpa using this
            have hi : j / (E.ti e).sz < len := Nat.div_lt_of_lt_mul (by rw [Nat.mul_comm]; exact hlt)
            have hr : j % (E.ti e).sz < (E.ti e).sz := Nat.mod_lt _ h0'
            have hj2 : j = j / (E.ti e).sz * (E.ti e).sz + j % (E.ti e).sz := by rw [Nat.mul_comm]; exact (Nat.div_add_mod j _).symm
            generalize hqi : j / (E.ti e).sz = i at hi hj2
            generalize hqr : j % (E.ti e).sz = r at hr hj2
            have h1 := hV i (by omega)
            rw [hj2, flat_get (k := (E.ti e).sz) (v := (V i).2) hsz (by simp [hi]) r hr, h1.2.2.1] at hj
            obtain ⟨_, _, h3⟩ := World.cells?_some h1.1
            rw [hj2, ← add_add, h3 r hr, hj]
        · simp only [hasC, hk]
          refine ⟨_, rfl, by simp; omega, fun y hy => ?_⟩
          obtain ⟨i, hi, rfl⟩ := List.mem_map.1 hy
          exact ⟨_, rfl, (hV i (by have := List.mem_range.1 hi; omega)).2.1⟩
    | struct fs =>
      rw [hk] at hp
      simp only [Bool.and_eq_true] at hp
      obtain ⟨F, h1, h2⟩ := tk_struct hok ht hk
      obtain ⟨xs, n, _, _, hcl, hxl, hf⟩ := DataW.trod_struct h1 h
      rw [cellsOf_eq hok ht] at hcl
      subst h2
      obtain ⟨ys, h3, h4⟩ := fields_av (cs := cs) (n := n) (f := f) (fun t cs x => trod_av hok hX f n t cs x) hok F.toList 0 (by rw [hcl]; exact hp.1) hp.2 (Nat.zero_le _) (fun g hg => by
        obtain ⟨i, hi, he⟩ := List.getElem_of_mem hg
        have h5 := hf i g (by simpa [Array.getElem?_eq_some_iff] using ⟨by simpa using hi, he⟩)
        rw [h5]
        exact ⟨_, List.getElem?_eq_getElem (by rw [hxl]; simpa using hi)⟩)
      refine ⟨ys, by simpa using h3, ?_, hcl⟩
      simp only [hasC, hk]
      exact h4
    | _ => rw [hk] at hp; simp at hp
end
end Go.Abs
