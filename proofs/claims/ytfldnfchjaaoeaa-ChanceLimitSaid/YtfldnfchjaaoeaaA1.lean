/- Abstract values for the kit's machine: values that carry the contents of frozen slices, objects under ghost names, and the relation to concrete values. No program of its own. -/
import Derived.WalkKit
namespace Go.Abs

inductive AV where
  | any
  | int (k : IntKind) (n : Int)
  | bool (b : Bool)
  | str (s : List UInt8)
  | nilp | nils | nilm | nilf | nili
  | fp (cs : List AV)
  | ptr (id off : Nat)
  | pe (id i off : Nat)
  | sl (k : Nat) (es : List AV)
  | own (id lo n : Nat)
  | mp (id : Nat)
  | agg (cs : List AV)
  | tup (vs : List AV)
  | clo (fn : Fn) (fst cap : List AV)
  | ifc (t : TypeId) (v : AV)

inductive AO where
  | cells (cs : List AV) (e : TypeId)
  | arr (es : List AV) (e : TypeId)
  | map (es : List (AV × AV))

/-- What a ghost name stands for: nothing any more, a nil slice, a block. -/
inductive MS where
  | dead | nil | blk (b : Nat)
abbrev Mu := List MS
abbrev Hp := List (Option AO)

/-- The sizes of types; the blocks that an outer frame owns. -/
structure Cx where
  sz : TypeId → Nat
  X : Nat → Prop

/-- The cells us lie at A, in a block that no ghost name owns. -/
def Fz (cx : Cx) (m : Mu) (w : World) (A : Option Addr) (us : List Value) : Prop :=
  us ≠ [] → ∃ a, A = some a ∧ a.block < w.heap.size ∧ .blk a.block ∉ m ∧ ¬ cx.X a.block ∧ ∀ (j : Nat) (u : Value), us[j]? = some u → w.cell? (a.add j) = some u

def Own (sz : Cx) (m : Mu) (w : World) (A : Option Addr) (c id lo : Nat) : Prop :=
  id < m.length ∧ (m[id]? = some .nil → A = none ∧ c = 0) ∧
    ∀ b, m[id]? = some (.blk b) → ∃ e k, w.shape? b = some (e, k) ∧ (lo + c) * sz.sz e = k ∧ (0 < c ∨ lo = 0 → A = some ⟨b, lo * sz.sz e, none⟩)
def PtrE (sz : Cx) (m : Mu) (w : World) (a : Addr) (id i off : Nat) : Prop :=
  id < m.length ∧ ∀ b, m[id]? = some (.blk b) → ∃ e k, w.shape? b = some (e, k) ∧ a = ⟨b, i * sz.sz e + off, none⟩
def flat (vs : List Value) : List Value := vs.flatMap (·.cells.toList)

mutual
def Rel (sz : Cx) (m : Mu) (w : World) : AV → Value → Prop
  | .any, _ => True
  | .int k n, v => v = .int k n
  | .bool b, v => v = .bool b
  | .str s, v => v = .string ⟨s.toArray⟩
  | .nilp, v => v = .pointer none
  | .nils, v => v = .slice none 0 0
  | .nilm, v => v = .map none
  | .nilf, v => v = .nilFunc
  | .nili, v => v = .nilIface
  | .fp cs, v => ∃ (a : Addr) (us : List Value), v = .pointer (some a) ∧ RelL sz m w cs us ∧ Fz sz m w (some a) us
  | .ptr id off, v => ∃ a : Addr, v = .pointer (some a) ∧ id < m.length ∧ ∀ b, m[id]? = some (.blk b) → a = ⟨b, off, none⟩
  | .pe id i off, v => ∃ a : Addr, v = .pointer (some a) ∧ PtrE sz m w a id i off
  | .sl k es, v => ∃ (A : Option Addr) (c : Nat) (vs : List Value), v = .slice A es.length c ∧ es.length ≤ c ∧ c ≤ maxLen ∧ RelL sz m w es vs ∧ (∀ u ∈ vs, u.cells.size = k) ∧ Fz sz m w A (flat vs)
  | .own id lo n, v => ∃ (A : Option Addr) (c : Nat), v = .slice A n c ∧ n ≤ c ∧ c ≤ maxLen ∧ Own sz m w A c id lo
  | .mp id, v => ∃ r : Nat, v = .map (some r) ∧ id < m.length ∧ ∀ b, m[id]? = some (.blk b) → r = b
  | .agg cs, v => ∃ us : List Value, v = .agg us.toArray ∧ RelL sz m w cs us
  | .tup cs, v => ∃ us : List Value, v = .tuple us.toArray ∧ RelL sz m w cs us
  | .clo fn f c, v => ∃ us vs : List Value, v = .func fn us.toArray vs.toArray ∧ RelL sz m w f us ∧ RelL sz m w c vs
  | .ifc t x, v => ∃ u : Value, v = .iface t u ∧ Rel sz m w x u
def RelL (sz : Cx) (m : Mu) (w : World) : List AV → List Value → Prop
  | [], us => us = []
  | x :: xs, us => ∃ (u : Value) (r : List Value), us = u :: r ∧ Rel sz m w x u ∧ RelL sz m w xs r
end

/-- From (m, w) to (m', w'): nothing has turned but what a ghost name owns; no block that was there has come to be owned; ghost names keep their blocks or die. -/
structure Ext (m : Mu) (w : World) (m' : Mu) (w' : World) : Prop where
  os : w'.os = w.os
  tape : w'.tape = w.tape
  output : w'.output = w.output
  size : w.heap.size ≤ w'.heap.size
  keep : ∀ b, b < w.heap.size → MS.blk b ∉ m → w'.heap[b]? = w.heap[b]?
  fresh : ∀ b, b < w.heap.size → MS.blk b ∈ m' → MS.blk b ∈ m
  len : m.length ≤ m'.length
  ids : ∀ (id : Nat) (x : MS), id < m.length → x ≠ .dead → m'[id]? = some x → m[id]? = some x
  shape : ∀ (b : Nat) (s : TypeId × Nat), w.shape? b = some s → w'.shape? b = some s

theorem Ext.refl (m : Mu) (w : World) : Ext m w m w :=
  ⟨rfl, rfl, rfl, Nat.le_refl _, fun _ _ _ => rfl, fun _ _ h => h, Nat.le_refl _, fun _ _ _ _ h => h, fun _ _ h => h⟩

theorem Ext.trans {m : Mu} {w : World} {m1 : Mu} {w1 : World} {m2 : Mu} {w2 : World} (h : Ext m w m1 w1) (k : Ext m1 w1 m2 w2) : Ext m w m2 w2 where
  os := k.os.trans h.os
  tape := k.tape.trans h.tape
  output := k.output.trans h.output
  size := Nat.le_trans h.size k.size
  keep := fun b hb hn => (k.keep b (Nat.lt_of_lt_of_le hb h.size) (fun hm => hn (h.fresh b hb hm))).trans (h.keep b hb hn)
  fresh := fun b hb hm => h.fresh b hb (k.fresh b (Nat.lt_of_lt_of_le hb h.size) hm)
  len := Nat.le_trans h.len k.len
  ids := fun id b hid hx hb => h.ids id b hid hx (k.ids id b (Nat.lt_of_lt_of_le hid h.len) hx hb)
  shape := fun b s hs => k.shape b s (h.shape b s hs)

section
variable {sz : Cx} {m m' : Mu} {w w' : World}

theorem Fz.ext (e : Ext m w m' w') {A : Option Addr} {us : List Value} (h : Fz sz m w A us) : Fz sz m' w' A us := fun hne => by
  obtain ⟨a, ha, hb, hn, hx, hc⟩ := h hne
  refine ⟨a, ha, Nat.lt_of_lt_of_le hb e.size, fun hm => hn (e.fresh _ hb hm), hx, fun j u hu => ?_⟩
  have hblk : (a.add j).block = a.block := by unfold Addr.add; split <;> rfl
  rw [World.cell?_of_block (w := w) (by rw [hblk]; exact e.keep _ hb hn)]
  exact hc j u hu

theorem Own.ext (e : Ext m w m' w') {A : Option Addr} {c id lo : Nat} (h : Own sz m w A c id lo) : Own sz m' w' A c id lo :=
  ⟨Nat.lt_of_lt_of_le h.1 e.len, fun hb => h.2.1 (e.ids _ _ h.1 (by simp) hb), fun b hb => by
    obtain ⟨t, k, h2, h3⟩ := h.2.2 b (e.ids _ _ h.1 (by simp) hb)
    exact ⟨t, k, e.shape _ _ h2, h3⟩⟩
theorem PtrE.ext (e : Ext m w m' w') {a : Addr} {id i off : Nat} (h : PtrE sz m w a id i off) : PtrE sz m' w' a id i off :=
  ⟨Nat.lt_of_lt_of_le h.1 e.len, fun b hb => by
    obtain ⟨t, k, h2, h3⟩ := h.2 b (e.ids _ _ h.1 (by simp) hb)
    exact ⟨t, k, e.shape _ _ h2, h3⟩⟩

mutual
theorem Rel.ext (e : Ext m w m' w') : ∀ (x : AV) {v : Value}, Rel sz m w x v → Rel sz m' w' x v
  | .any, _, _ => by simp [Rel]
  | .int k n, _, h | .bool b, _, h | .str s, _, h => by simpa [Rel] using h
  | .nilp, _, h | .nils, _, h | .nilm, _, h | .nilf, _, h | .nili, _, h => by simpa [Rel] using h
  | .fp cs, _, h => by
    simp only [Rel] at h ⊢
    obtain ⟨a, us, h1, h2, h3⟩ := h
    exact ⟨a, us, h1, RelL.ext e cs h2, h3.ext e⟩
  | .ptr id off, _, h => by
    simp only [Rel] at h ⊢
    obtain ⟨a, h1, h2, h3⟩ := h
    exact ⟨a, h1, Nat.lt_of_lt_of_le h2 e.len, fun b hb => h3 b (e.ids _ _ h2 (by simp) hb)⟩
  | .pe id i off, _, h => by
    simp only [Rel] at h ⊢
    obtain ⟨a, h1, h2⟩ := h
    exact ⟨a, h1, h2.ext e⟩
  | .sl k es, _, h => by
    simp only [Rel] at h ⊢
    obtain ⟨A, c, vs, h1, h2, h3, h4, h5, h6⟩ := h
    exact ⟨A, c, vs, h1, h2, h3, RelL.ext e es h4, h5, h6.ext e⟩
  | .own id lo n, _, h => by
    simp only [Rel] at h ⊢
    obtain ⟨a, c, h1, h2, h3, h4⟩ := h
    exact ⟨a, c, h1, h2, h3, h4.ext e⟩
  | .mp id, _, h => by
    simp only [Rel] at h ⊢
    obtain ⟨r, h1, h2, h3⟩ := h
    exact ⟨r, h1, Nat.lt_of_lt_of_le h2 e.len, fun b hb => h3 b (e.ids _ _ h2 (by simp) hb)⟩
  | .agg cs, _, h => by
    simp only [Rel] at h ⊢
    obtain ⟨us, h1, h2⟩ := h
    exact ⟨us, h1, RelL.ext e cs h2⟩
  | .tup cs, _, h => by
    simp only [Rel] at h ⊢
    obtain ⟨us, h1, h2⟩ := h
    exact ⟨us, h1, RelL.ext e cs h2⟩
  | .clo fn f c, _, h => by
    simp only [Rel] at h ⊢
    obtain ⟨us, vs, h1, h2, h3⟩ := h
    exact ⟨us, vs, h1, RelL.ext e f h2, RelL.ext e c h3⟩
  | .ifc t x, _, h => by
    simp only [Rel] at h ⊢
    obtain ⟨u, h1, h2⟩ := h
    exact ⟨u, h1, Rel.ext e x h2⟩
theorem RelL.ext (e : Ext m w m' w') : ∀ (xs : List AV) {vs : List Value}, RelL sz m w xs vs → RelL sz m' w' xs vs
  | [], _, h => by simpa [RelL] using h
  | x :: xs, _, h => by
    simp only [RelL] at h ⊢
    obtain ⟨u, r, h1, h2, h3⟩ := h
    exact ⟨u, r, h1, Rel.ext e x h2, RelL.ext e xs h3⟩
end

theorem relL_nil {vs : List Value} : RelL sz m w [] vs ↔ vs = [] := by simp [RelL]
theorem relL_cons {x : AV} {xs : List AV} {vs : List Value} : RelL sz m w (x :: xs) vs ↔ ∃ u r, vs = u :: r ∧ Rel sz m w x u ∧ RelL sz m w xs r := by simp [RelL]
theorem RelL.cons {x : AV} {xs : List AV} {u : Value} {r : List Value} (h : Rel sz m w x u) (k : RelL sz m w xs r) : RelL sz m w (x :: xs) (u :: r) := by
  rw [relL_cons]; exact ⟨u, r, rfl, h, k⟩
theorem RelL.length : ∀ {xs : List AV} {vs : List Value}, RelL sz m w xs vs → vs.length = xs.length
  | [], _, h => by rw [relL_nil] at h; simp [h]
  | _ :: xs, _, h => by
    rw [relL_cons] at h
    obtain ⟨u, r, rfl, _, h⟩ := h
    simp [RelL.length h]
theorem RelL.append : ∀ {xs ys : List AV} {us vs : List Value}, RelL sz m w xs us → RelL sz m w ys vs → RelL sz m w (xs ++ ys) (us ++ vs)
  | [], _, _, _, h, k => by rw [relL_nil] at h; subst h; simpa using k
  | _ :: xs, _, _, _, h, k => by
    rw [relL_cons] at h
    obtain ⟨u, r, rfl, h1, h2⟩ := h
    exact RelL.cons h1 (RelL.append h2 k)
theorem RelL.drop : ∀ (n : Nat) {xs : List AV} {us : List Value}, RelL sz m w xs us → RelL sz m w (xs.drop n) (us.drop n)
  | 0, _, _, h => by simpa using h
  | n + 1, [], _, h => by rw [relL_nil] at h; subst h; simp [RelL]
  | n + 1, _ :: xs, _, h => by
    rw [relL_cons] at h
    obtain ⟨u, r, rfl, _, h2⟩ := h
    simpa using RelL.drop n h2
theorem RelL.take : ∀ (n : Nat) {xs : List AV} {us : List Value}, RelL sz m w xs us → RelL sz m w (xs.take n) (us.take n)
  | 0, _, _, _ => by simp [RelL]
  | n + 1, [], _, h => by rw [relL_nil] at h; subst h; simp [RelL]
  | n + 1, _ :: xs, _, h => by
    rw [relL_cons] at h
    obtain ⟨u, r, rfl, h1, h2⟩ := h
    simpa using RelL.cons h1 (RelL.take n h2)
theorem RelL.get : ∀ {xs : List AV} {us : List Value} (n : Nat) {x : AV}, RelL sz m w xs us → xs[n]? = some x → ∃ u, us[n]? = some u ∧ Rel sz m w x u
  | [], _, _, _, _, hx => by simp at hx
  | y :: xs, _, n, x, h, hx => by
    rw [relL_cons] at h
    obtain ⟨u, r, rfl, h1, h2⟩ := h
    cases n with
    | zero => simp at hx; subst hx; exact ⟨u, by simp, h1⟩
    | succ n => simp at hx; obtain ⟨u', h3, h4⟩ := RelL.get n h2 hx; exact ⟨u', by simpa using h3, h4⟩
theorem RelL.set : ∀ {xs : List AV} {us : List Value} (n : Nat) {x : AV} {u : Value}, RelL sz m w xs us → Rel sz m w x u → RelL sz m w (xs.set n x) (us.set n u)
  | [], _, _, _, _, h, _ => by rw [relL_nil] at h; subst h; simp [RelL]
  | y :: xs, _, n, x, _, h, hx => by
    rw [relL_cons] at h
    obtain ⟨u', r, rfl, h1, h2⟩ := h
    cases n with
    | zero => simpa using RelL.cons hx h2
    | succ n => simpa using RelL.cons h1 (RelL.set n h2 hx)

/-- A constant of the program's text, as an abstract value. -/
def ofV1 : Value → AV
  | .int k n => .int k n
  | .bool b => .bool b
  | .string s => .str s.data.toList
  | .pointer none => .nilp
  | .slice none 0 0 => .nils
  | .map none => .nilm
  | .nilFunc => .nilf
  | .nilIface => .nili
  | _ => .any
def ofV : Value → AV
  | .agg cs => .agg (cs.toList.map ofV1)
  | .tuple ⟨[]⟩ => .tup []
  | v => ofV1 v
theorem rel_ofV1 (v : Value) : Rel sz m w (ofV1 v) v := by
  unfold ofV1
  split <;> simp [Rel]
theorem relL_ofV1 : ∀ vs : List Value, RelL sz m w (vs.map ofV1) vs
  | [] => by simp [RelL]
  | v :: vs => RelL.cons (rel_ofV1 v) (relL_ofV1 vs)
theorem rel_ofV (v : Value) : Rel sz m w (ofV v) v := by
  unfold ofV
  split
  · simp only [Rel]; exact ⟨_, by simp, relL_ofV1 _⟩
  · simp [Rel, RelL]
  · exact rel_ofV1 _
end

mutual
def IdsLt (n : Nat) : AV → Prop
  | .fp cs => IdsLtL n cs
  | .ptr id _ => id < n
  | .pe id _ _ => id < n
  | .sl _ es => IdsLtL n es
  | .own id _ _ => id < n
  | .mp id => id < n
  | .agg cs => IdsLtL n cs
  | .tup cs => IdsLtL n cs
  | .clo _ f c => IdsLtL n f ∧ IdsLtL n c
  | .ifc _ x => IdsLt n x
  | _ => True
def IdsLtL (n : Nat) : List AV → Prop
  | [] => True
  | x :: xs => IdsLt n x ∧ IdsLtL n xs
end
/-! ### The heap -/
def OB (sz : Cx) (m : Mu) (w : World) : AO → MS → Prop
  | .cells cs e, .blk b => ∃ us : Array Value, w.heap[b]? = some (.cells us e (0, 0)) ∧ RelL sz m w cs us.toList
  | .arr es _, .nil => es = []
  | .arr es e, .blk b => ∃ (us : Array Value) (vs : List Value), w.heap[b]? = some (.cells us e (0, 0)) ∧ RelL sz m w es vs ∧ (∀ u ∈ vs, u.cells.size = sz.sz e) ∧ us.toList.take (flat vs).length = flat vs
  | .map es, .blk b => ∃ (us : Array MapEntry) (clock : Nat), w.heap[b]? = some (.map us clock) ∧ (∀ e ∈ us, e.born < clock) ∧ (us.toList.map (·.born)).Nodup ∧
      RelL sz m w (es.map (·.1)) (us.toList.map (·.key)) ∧ RelL sz m w (es.map (·.2)) (us.toList.map (·.val))
  | _, _ => False

structure Sim (sz : Cx) (m : Mu) (w : World) (H : Hp) : Prop where
  len : m.length = H.length
  live : ∀ (id : Nat) (o : AO), H[id]? = some (some o) → ∃ x, m[id]? = some x ∧ OB sz m w o x
  dead : ∀ id : Nat, H[id]? = some none → m[id]? = some .dead
  inj : ∀ i j b : Nat, m[i]? = some (.blk b) → m[j]? = some (.blk b) → i = j
  xlt : ∀ b, sz.X b → b < w.heap.size
  disj : ∀ b, .blk b ∈ m → ¬ sz.X b

theorem OB.lt {sz : Cx} {m : Mu} {w : World} {o : AO} {b : Nat} (h : OB sz m w o (.blk b)) : b < w.heap.size := by
  cases o with
  | cells cs e =>
    obtain ⟨us, h, _⟩ := h
    exact (Array.getElem?_eq_some_iff.1 h).1
  | arr es e =>
    obtain ⟨us, vs, h, _⟩ := h
    exact (Array.getElem?_eq_some_iff.1 h).1
  | map es =>
    obtain ⟨us, c, h, _⟩ := h
    exact (Array.getElem?_eq_some_iff.1 h).1

theorem Sim.lt {sz : Cx} {m : Mu} {w : World} {H : Hp} (h : Sim sz m w H) {b : Nat} (hb : MS.blk b ∈ m) : b < w.heap.size := by
  obtain ⟨id, hid, he⟩ := List.getElem_of_mem hb
  have hm : m[id]? = some (.blk b) := by rw [List.getElem?_eq_getElem hid, he]
  have hH : id < H.length := h.len ▸ hid
  cases ho : H[id]? with
  | none => rw [List.getElem?_eq_getElem hH] at ho; cases ho
  | some o =>
    cases o with
    | none => rw [h.dead id ho] at hm; cases hm
    | some o =>
      obtain ⟨b', h1, h2⟩ := h.live id o ho
      rw [h1] at hm; cases hm
      exact h2.lt

/-- An object that was not touched. -/
theorem OB.ext {sz : Cx} {m m' : Mu} {w w' : World} (e : Ext m w m' w') {o : AO} {x : MS} (h : OB sz m w o x) (hb : ∀ b, x = .blk b → w'.heap[b]? = w.heap[b]?) : OB sz m' w' o x := by
  cases x with
  | dead => cases o <;> exact h.elim
  | nil => cases o <;> first | exact h.elim | exact h
  | blk b =>
    have hb := hb b rfl
    cases o with
    | cells cs t =>
      obtain ⟨us, h1, h2⟩ := h
      exact ⟨us, hb.trans h1, h2.ext e⟩
    | arr es t =>
      obtain ⟨us, vs, h1, h2, h3, h4⟩ := h
      exact ⟨us, vs, hb.trans h1, h2.ext e, h3, h4⟩
    | map es =>
      obtain ⟨us, c, h1, h2, h3, h4, h5⟩ := h
      exact ⟨us, c, hb.trans h1, h2, h3, h4.ext e, h5.ext e⟩

/-- The sizes of an abstract value, in cells. -/
def cellsA : AV → List AV
  | .agg cs => cs
  | v => [v]
def known : AV → Bool
  | .any => false
  | _ => true
theorem cells_rel {sz : Cx} {m : Mu} {w : World} {x : AV} {v : Value} (h : Rel sz m w x v) (hk : known x = true) : RelL sz m w (cellsA x) v.cells.toList := by
  cases x with
  | any => cases hk
  | agg cs =>
    simp only [Rel] at h
    obtain ⟨us, rfl, h⟩ := h
    simpa [cellsA, Value.cells] using h
  | _ =>
    have h' := h
    simp only [Rel] at h
    have hc : v.cells = #[v] := by
      first
        | (subst h; rfl)
        | (obtain ⟨_, rfl, _⟩ := h; rfl)
        | (obtain ⟨_, _, rfl, _⟩ := h; rfl)
        | (obtain ⟨_, _, _, rfl, _⟩ := h; rfl)
    rw [hc]
    exact RelL.cons h' (by simp [RelL])

end Go.Abs
