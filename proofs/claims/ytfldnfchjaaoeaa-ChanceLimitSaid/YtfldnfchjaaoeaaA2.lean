/- The judgements: a piece of code from an abstract state; its structural rules; a region in the order of its text. -/
import Derived.Test.YtfldnfchjaaoeaaA1
namespace Go.Abs

inductive TK where
  | int (k : IntKind) | bool | str | sl (e : TypeId) | struct (fs : List (Nat × TypeId)) | arr (n : Nat) (e : TypeId) | ptr (e : TypeId) | map (k e : TypeId) | fn | ifc | other
structure Ty where
  sz : Nat
  bt : Nat
  k : TK
  z : Option (List AV)
  eq : Bool
def tkOf : TypeDesc → TK
  | .int k => .int k
  | .bool => .bool
  | .string => .str
  | .slice e => .sl e
  | .struct fs => .struct (fs.toList.map fun f => (f.offset, f.type))
  | .array n e => .arr n e
  | .pointer e => .ptr e
  | .map k e => .map k e
  | .func .. => .fn
  | .interface _ => .ifc
  | _ => .other
def TK.agg : TK → Bool
  | .struct _ | .arr _ _ => true
  | _ => false
/-- May '==' on this struct be taken field by field? -/
def eqOf (P : Program) (t : TypeId) : TypeDesc → Bool
  | .struct fs => !(fs.any fun f => f.name == "_") && !P.stoodInHeld t && !P.eqGuardType P.depth t
  | _ => false
structure Env where
  P : Program
  ti : TypeId → Ty
  n : Nat
  G : Nat → AV
  X : Nat → Prop
/-- What the program says of a type. -/
def tyOf (P : Program) (t : TypeId) : Option Ty :=
  match P.info? t, P.underlying t with
  | some i, some d => some { sz := i.size, bt := i.bytes, k := tkOf d, z := i.zero.map fun v => v.cells.toList.map ofV1, eq := eqOf P t d }
  | _, _ => none
def Env.Ok (E : Env) : Prop := E.P.follows .mixedOrders = true ∧ (∀ t, t < E.n → tyOf E.P t = some (E.ti t)) ∧ ∀ g, IdsLt 0 (E.G g)
def Env.sz (E : Env) (t : TypeId) : Nat := ((E.P.info? t).map (·.size)).getD 0
def Env.cx (E : Env) : Cx := { sz := E.sz, X := E.X }
abbrev Env.Rel (E : Env) (m : Mu) (w : World) (x : AV) (v : Value) : Prop := Abs.Rel E.cx m w x v
abbrev Env.RelL (E : Env) (m : Mu) (w : World) (x : List AV) (v : List Value) : Prop := Abs.RelL E.cx m w x v
abbrev Env.Sim (E : Env) (m : Mu) (w : World) (H : Hp) : Prop := Abs.Sim E.cx m w H

structure St where
  sl : List (Nat × AV)
  hp : Hp

def get : List (Nat × AV) → Nat → AV
  | [], _ => .any
  | (j, v) :: r, k => cond (Nat.beq j k) v (get r k)
def ev (E : Env) (sl : List (Nat × AV)) : Operand → AV
  | .tmp t => get sl t
  | .const v => ofV v
  | .global g => E.G g
  | .func f => .clo (.func f) [] []
def put : Option Nat → AV → List (Nat × AV) → List (Nat × AV)
  | some d, v, sl => (d, v) :: sl
  | none, _, sl => sl

structure SRel (E : Env) (N : Nat) (m : Mu) (w : World) (s : St) (a : Act) : Prop where
  ok : E.Ok
  slots : ∀ k, E.Rel m w (get s.sl k) (a.tmps.getD k undef)
  size : a.tmps.size = N
  defers : a.defers = []
  sim : E.Sim m w s.hp
  glob : ∀ g, E.Rel m w (E.G g) (.pointer (some ⟨g, 0, none⟩))

def Lift (E : Env) (N : Nat) (m0 : Mu) (w0 : World) (Q : Exit → St → Prop) : Exit → Act → World → Prop :=
  fun e a' w' => ∃ m' s', Ext m0 w0 m' w' ∧ SRel E N m' w' s' a' ∧ Q e s'

def AWp (E : Env) (N n0 : Nat) (c : Code) (Q : Exit → St → Prop) (s : St) : Prop :=
  ∀ m0 w0, m0.length = n0 → ∀ m w a, Ext m0 w0 m w → SRel E N m w s a → c.wp E.P (Lift E N m0 w0 Q) a w

/-- What s says, s' says too: it says less, or drops objects that nothing names. -/
def Imp (E : Env) (N n0 : Nat) (s s' : St) : Prop :=
  ∀ m0 w0, m0.length = n0 → ∀ m w a, Ext m0 w0 m w → SRel E N m w s a → ∃ m', Ext m0 w0 m' w ∧ SRel E N m' w s' a

def Then (K : St → Prop) (Q : Exit → St → Prop) : Exit → St → Prop
  | .normal, s => K s
  | e, s => Q e s
def InBlk (id : Nat) (Q : Exit → St → Prop) : Exit → St → Prop
  | .exit i, s => if i = id then Q .normal s else Q (.exit i) s
  | e, s => Q e s

section
variable {E : Env} {N n0 : Nat} {Q : Exit → St → Prop} {s : St}

theorem ev_rel {m : Mu} {w : World} {a : Act} (h : SRel E N m w s a) (x : Operand) : E.Rel m w (ev E s.sl x) (a.eval x) := by
  cases x with
  | tmp t => exact h.slots t
  | const v => exact rel_ofV v
  | global g => exact h.glob g
  | func f =>
    show Abs.Rel E.cx m w (.clo (.func f) [] []) (.func (.func f) #[] #[])
    simp [Abs.Rel, Abs.RelL]

theorem awp_mono {c : Code} {Q' : Exit → St → Prop} (h : AWp E N n0 c Q s) (k : ∀ e s, Q e s → Q' e s) : AWp E N n0 c Q' s :=
  fun m0 w0 hn m w a he hs => wp_mono (h m0 w0 hn m w a he hs) fun _ _ _ ⟨m', s', h1, h2, h3⟩ => ⟨m', s', h1, h2, k _ _ h3⟩
theorem awp_pre {c : Code} {s' : St} (i : Imp E N n0 s s') (h : AWp E N n0 c Q s') : AWp E N n0 c Q s :=
  fun m0 w0 hn m w a he hs => let ⟨m', h1, h2⟩ := i m0 w0 hn m w a he hs; h m0 w0 hn m' w a h1 h2
/-- What is reached may be weakened as well. -/
theorem awp_post {c : Code} {Q' : Exit → St → Prop} (h : AWp E N n0 c Q s) (k : ∀ e s, Q e s → ∃ s', Imp E N n0 s s' ∧ Q' e s') : AWp E N n0 c Q' s :=
  fun m0 w0 hn m w a he hs => wp_mono (h m0 w0 hn m w a he hs) fun e a' w' ⟨m', s', h1, h2, h3⟩ => by
    obtain ⟨s2, hi, hq⟩ := k _ _ h3
    obtain ⟨m2, h4, h5⟩ := hi m0 w0 hn m' w' a' h1 h2
    exact ⟨m2, s2, h4, h5, hq⟩
theorem awp_seq {x y : Code} (h : AWp E N n0 x (Then (AWp E N n0 y Q) Q) s) : AWp E N n0 (.seq x y) Q s := by
  intro m0 w0 hn m w a he hs
  refine wp_seq (wp_mono (h m0 w0 hn m w a he hs) ?_)
  rintro e a' w' ⟨m', s', h1, h2, h3⟩
  cases e with
  | normal => exact h3 m0 w0 hn m' w' a' h1 h2
  | _ => exact ⟨m', s', h1, h2, h3⟩
theorem awp_skip (h : Q .normal s) : AWp E N n0 .skip Q s := fun _ _ _ m _ _ he hs => wp_skip ⟨m, s, he, hs, h⟩
theorem awp_ret (h : Q .ret s) : AWp E N n0 .ret Q s := fun _ _ _ m _ _ he hs => wp_ret ⟨m, s, he, hs, h⟩
theorem awp_exit {id : Nat} (h : Q (.exit id) s) : AWp E N n0 (.exit id) Q s := fun _ _ _ m _ _ he hs => wp_exit ⟨m, s, he, hs, h⟩
theorem awp_block {id : Nat} {c : Code} (h : AWp E N n0 c (InBlk id Q) s) : AWp E N n0 (.block id c) Q s := by
  intro m0 w0 hn m w a he hs
  refine wp_block (wp_mono (h m0 w0 hn m w a he hs) ?_)
  rintro e a' w' ⟨m', s', h1, h2, h3⟩
  cases e with
  | exit i =>
    simp only [InBlk] at h3
    simp only [Exit.inBlock]
    split
    · rename_i hi; rw [if_pos hi] at h3; exact ⟨m', s', h1, h2, h3⟩
    · rename_i hi; rw [if_neg hi] at h3; exact ⟨m', s', h1, h2, h3⟩
  | _ => exact ⟨m', s', h1, h2, h3⟩
theorem awp_cond {c : Operand} {x y : Code} {b : Bool} (hc : ev E s.sl c = .bool b) (h1 : b = true → AWp E N n0 x Q s) (h2 : b = false → AWp E N n0 y Q s) :
    AWp E N n0 (.cond c x y) Q s := by
  intro m0 w0 hn m w a he hs
  have hr := ev_rel hs c
  rw [hc] at hr
  simp only [Env.Rel, Abs.Rel] at hr
  exact wp_cond_split hr (fun h => h1 h m0 w0 hn m w a he hs) (fun h => h2 h m0 w0 hn m w a he hs)
theorem awp_cond_true {c : Operand} {x y : Code} (hc : ev E s.sl c = .bool true) (h : AWp E N n0 x Q s) : AWp E N n0 (.cond c x y) Q s :=
  awp_cond hc (fun _ => h) (fun h => by cases h)
theorem awp_cond_false {c : Operand} {x y : Code} (hc : ev E s.sl c = .bool false) (h : AWp E N n0 y Q s) : AWp E N n0 (.cond c x y) Q s :=
  awp_cond hc (fun h => by cases h) (fun _ => h)
theorem awp_cond_dec {c : Operand} {x y : Code} {p : Prop} [Decidable p] (hc : ev E s.sl c = .bool (decide p)) (h1 : p → AWp E N n0 x Q s) (h2 : ¬ p → AWp E N n0 y Q s) :
    AWp E N n0 (.cond c x y) Q s :=
  awp_cond hc (fun h => h1 (of_decide_eq_true h)) (fun h => h2 (of_decide_eq_false h))

/-- A loop: the states at its head are a family. -/
theorem awp_loop {ι : Type} (σ : ι → St) (μ : ι → Nat) (i0 : ι) {c : Code} (h0 : Imp E N n0 s (σ i0))
    (round : ∀ i, AWp E N n0 c (Then (fun s' => ∃ j, μ j < μ i ∧ Imp E N n0 s' (σ j)) Q) (σ i)) : AWp E N n0 (.loop c) Q s := by
  intro m0 w0 hn m w a he hs
  obtain ⟨m', h1, h2⟩ := h0 m0 w0 hn m w a he hs
  intro b k cs
  have key : ∀ n i m w a, μ i = n → Ext m0 w0 m w → SRel E N m w (σ i) a →
      ∃ e a' w', Lift E N m0 w0 Q e a' w' ∧ Arrives E.P (lone (b.at a (.code c :: .inLoop c :: k)) cs w) b k cs e a' w' := by
    intro n
    induction n using Nat.strongRecOn with
    | _ n ih =>
      intro i m w a hi he hs
      obtain ⟨e, a', w', ⟨m', s', h1, h2, h3⟩, harr⟩ := round i m0 w0 hn m w a he hs b (.inLoop c :: k) cs
      cases e with
      | normal =>
        obtain ⟨j, hj, hi'⟩ := h3
        obtain ⟨m2, h4, h5⟩ := hi' m0 w0 hn m' w' a' h1 h2
        obtain ⟨e2, a2, w2, hq2, harr2⟩ := ih (μ j) (hi ▸ hj) j m2 w' a' rfl h4 h5
        exact ⟨e2, a2, w2, hq2, .of_steps (Steps.trans harr (.one step_inLoop)) harr2⟩
      | exit id => exact ⟨_, a', w', ⟨m', s', h1, h2, h3⟩, .pass (x := .inLoop c) rfl (fun _ _ => .inl (by simp)) harr⟩
      | goto l => exact ⟨_, a', w', ⟨m', s', h1, h2, h3⟩, .pass (x := .inLoop c) rfl (fun _ _ => .inl (by simp)) harr⟩
      | ret => exact ⟨_, a', w', ⟨m', s', h1, h2, h3⟩, .pass (x := .inLoop c) rfl (fun _ _ => .inl (by simp)) harr⟩
      | panic ch => exact ⟨_, a', w', ⟨m', s', h1, h2, h3⟩, .pass (x := .inLoop c) rfl (fun _ _ => .inl (by simp)) harr⟩
      | outgrown => exact ⟨_, a', w', ⟨m', s', h1, h2, h3⟩, .pass (x := .inLoop c) rfl (fun _ _ => .inl (by simp)) harr⟩
  obtain ⟨e, a', w', hq, harr⟩ := key _ i0 m' w a rfl h1 h2
  exact ⟨e, a', w', hq, .of_steps (.one step_loop) harr⟩

theorem get_cons {j : Nat} {v : AV} {r : List (Nat × AV)} {k : Nat} : get ((j, v) :: r) k = if j = k then v else get r k := by
  simp only [get]
  cases h : Nat.beq j k with
  | true => rw [if_pos (Nat.eq_of_beq_eq_true h)]; rfl
  | false => rw [if_neg (Nat.ne_of_beq_eq_false h)]; rfl
theorem get_put {d : Option Nat} {v : AV} {sl : List (Nat × AV)} {k : Nat} : get (put d v sl) k = if d = some k then v else get sl k := by
  cases d with
  | none => simp [put]
  | some d =>
    simp [put, get_cons]

/-- Fewer slots. -/
def Sub (sl' sl : List (Nat × AV)) : Prop := ∀ p ∈ sl', get sl p.1 = p.2
theorem Sub.get {sl' sl : List (Nat × AV)} (h : Sub sl' sl) (k : Nat) : get sl' k = .any ∨ get sl' k = get sl k := by
  induction sl' with
  | nil => exact .inl rfl
  | cons p r ih =>
    obtain ⟨j, v⟩ := p
    by_cases hj : j = k
    · subst hj
      right
      rw [get_cons, if_pos rfl, h (j, v) (by simp)]
    · have := ih (fun p hp => h p (by simp [hp]))
      rw [get_cons, if_neg hj]
      exact this
theorem sub_nil {sl : List (Nat × AV)} : Sub [] sl := by simp [Sub]
theorem sub_cons {sl' sl : List (Nat × AV)} {k : Nat} {v : AV} (h : Abs.get sl k = v) (t : Sub sl' sl) : Sub ((k, v) :: sl') sl := by
  intro p hp
  simp only [List.mem_cons] at hp
  rcases hp with rfl | hp
  · exact h
  · exact t p hp

theorem Imp.refl : Imp E N n0 s s := fun _ _ _ m _ _ he hs => ⟨m, he, hs⟩
theorem Imp.trans {s1 s2 : St} (h : Imp E N n0 s s1) (k : Imp E N n0 s1 s2) : Imp E N n0 s s2 := fun m0 w0 hn m w a he hs => by
  obtain ⟨m1, h1, h2⟩ := h m0 w0 hn m w a he hs
  exact k m0 w0 hn m1 w a h1 h2
theorem imp_sub {sl' : List (Nat × AV)} (h : Sub sl' s.sl) : Imp E N n0 s ⟨sl', s.hp⟩ := fun _ _ _ m w a he hs => by
  refine ⟨m, he, ⟨hs.ok, fun k => ?_, hs.size, hs.defers, hs.sim, hs.glob⟩⟩
  rcases h.get k with hk | hk
  · show Abs.Rel E.cx m w (get sl' k) _
    rw [hk]; simp [Abs.Rel]
  · show Abs.Rel E.cx m w (get sl' k) _
    rw [hk]; exact hs.slots k

/-! ### Regions -/
/-- One operation: from operands and a heap to a result and a heap. -/
def AStep (E : Env) (o : Oper) (ρ : Operand → AV) (H : Hp) (K : AV → Hp → Prop) : Prop :=
  ∀ m w a, E.Ok → (∀ x, E.Rel m w (ρ x) (a.eval x)) → E.Sim m w H → a.defers = [] →
    ∀ Q, o.wp E.P a w (fun a' w' => ∃ v', a' = a.put o.dst v' ∧ ∃ m' r H', Ext m w m' w' ∧ E.Rel m' w' r v' ∧ E.Sim m' w' H' ∧ K r H') Q

def gslot (ops : Array Oper) (o : Oper) : Option Nat :=
  match o.guard with
  | none => none
  | some (j, _) => (ops[j]?).bind (·.dst)
def wantedA (ops : Array Oper) (o : Oper) (sl : List (Nat × AV)) : Option Bool :=
  match o.guard with
  | none => some true
  | some (j, want) => match (ops[j]?).bind (·.dst) with
    | none => some false
    | some d => match get sl d with
      | .bool b => some (b == want)
      | .tup [] => some false
      | _ => none

def aops (E : Env) (ops : Array Oper) : List Oper → (St → Prop) → St → Prop
  | [], K, s => ∃ sl', (∀ k, get s.sl k = get sl' k) ∧ K ⟨sl', s.hp⟩
  | o :: rest, K, s =>
    match wantedA ops o s.sl with
    | some true => AStep E o (ev E s.sl) s.hp (fun r H' => aops E ops rest K ⟨put o.dst r s.sl, H'⟩)
    | some false => aops E ops rest K ⟨put o.dst (.tup []) s.sl, s.hp⟩
    | none => False

def dstOk (N : Nat) (ops : List Oper) : Bool := ops.all fun o => match o.dst with | none => true | some d => Nat.blt d N

theorem SRel.put {m : Mu} {w : World} {a : Act} (h : SRel E N m w s a) {m' : Mu} {w' : World} (he : Ext m w m' w') {d : Option Nat} (hd : ∀ k, d = some k → k < N) {r : AV} {v : Value}
    (hr : E.Rel m' w' r v) {H' : Hp} (hH : E.Sim m' w' H') : SRel E N m' w' ⟨put d r s.sl, H'⟩ (a.put d v) := by
  refine ⟨h.ok, fun k => ?_, ?_, ?_, hH, fun g => (h.glob g).ext he⟩
  · show Abs.Rel E.cx m' w' (get (Abs.put d r s.sl) k) _
    rw [get_put]
    by_cases hk : d = some k
    · subst hk
      rw [if_pos rfl]
      have hlt : k < a.tmps.size := by rw [h.size]; exact hd k rfl
      have : (a.put (some k) v).tmps.getD k undef = v := by simp [Act.put, hlt]
      rw [this]; exact hr
    · rw [if_neg hk]
      have : (a.put d v).tmps.getD k undef = a.tmps.getD k undef := by
        cases d with
        | none => rfl
        | some j =>
          have hne : j ≠ k := fun e => hk (by rw [e])
          simp [Act.put, Array.getElem?_setIfInBounds_ne hne]
      rw [this]; exact (h.slots k).ext he
  · cases d <;> simp [Act.put, h.size]
  · cases d <;> simp [Act.put, h.defers]

theorem wanted_of {ops : Array Oper} {o : Oper} {m : Mu} {w : World} {a : Act} {b : Bool} (h : SRel E N m w s a) (hw : wantedA ops o s.sl = some b) : Region.wanted o (yielded ops a.tmps) = b := by
  unfold wantedA at hw
  unfold Region.wanted
  cases hg : o.guard with
  | none => simp [hg] at hw; simp [hw]
  | some g =>
    obtain ⟨j, want⟩ := g
    simp only [hg] at hw ⊢
    cases hd : (ops[j]?).bind (·.dst) with
    | none => simp [hd] at hw; subst hw; simp [yielded, hd]
    | some d =>
      simp only [hd] at hw
      have hs := h.slots d
      cases hv : get s.sl d with
      | bool c =>
        rw [hv] at hw hs
        simp only [Env.Rel, Abs.Rel] at hs
        simp only [Option.some.injEq] at hw
        subst hw
        have : yielded ops a.tmps j = some c := by
          unfold yielded
          rw [hd]
          have h2 : a.tmps[d]? = some (.bool c) := by
            rcases Nat.lt_or_ge d a.tmps.size with hlt | hge
            · simpa [Array.getElem?_eq_getElem hlt, hlt] using hs
            · have hn : a.tmps[d]? = none := Array.getElem?_eq_none hge
              rw [Array.getD_eq_getD_getElem?, hn] at hs
              simp [undef] at hs
          simp [h2]
        rw [this]
        cases c <;> cases want <;> rfl
      | tup l =>
        cases l with
        | nil =>
          rw [hv] at hw hs
          simp only [Env.Rel, Abs.Rel, Abs.RelL] at hs
          simp only [Option.some.injEq] at hw
          subst hw
          obtain ⟨us, hu, rfl⟩ := hs
          have : yielded ops a.tmps j = none := by
            unfold yielded
            rw [hd]
            rcases Nat.lt_or_ge d a.tmps.size with hlt | hge
            · have h2 : a.tmps[d]? = some (.tuple #[]) := by simpa [Array.getElem?_eq_getElem hlt, hlt] using hu
              simp [h2]
            · simp [Array.getElem?_eq_none hge]
          rw [this]
          cases want <;> rfl
        | cons x y => rw [hv] at hw; simp at hw
      | _ => rw [hv] at hw; simp at hw

theorem rel_undef {m : Mu} {w : World} : E.Rel m w (.tup []) undef := by
  show Abs.Rel E.cx m w (.tup []) undef
  simp [Abs.Rel, Abs.RelL, undef]

theorem aops_sound {ops : Array Oper} : ∀ (l : List Oper) (K : St → Prop) (s : St) (m0 : Mu) (w0 : World) (m : Mu) (w : World) (a : Act), dstOk N l = true →
    Ext m0 w0 m w → SRel E N m w s a → aops E ops l K s → (∀ m' w' s' a', Ext m0 w0 m' w' → SRel E N m' w' s' a' → K s' → Q .normal s') →
    wpList E.P ops (Lift E N m0 w0 Q) l a w
  | [], K, s, m0, w0, m, w, a, _, he, hs, h, hQ => by
    obtain ⟨sl', h1, h2⟩ := h
    have hs' : SRel E N m w ⟨sl', s.hp⟩ a := ⟨hs.ok, fun k => (h1 k) ▸ hs.slots k, hs.size, hs.defers, hs.sim, hs.glob⟩
    exact ⟨m, _, he, hs', hQ m w _ a he hs' h2⟩
  | o :: rest, K, s, m0, w0, m, w, a, hd, he, hs, h, hQ => by
    simp only [dstOk, List.all_cons, Bool.and_eq_true] at hd
    have hd1 : ∀ k, o.dst = some k → k < N := fun k hk => by
      have := hd.1; rw [hk] at this; simpa using this
    simp only [aops] at h
    unfold wpList
    cases hw : wantedA ops o s.sl with
    | none => rw [hw] at h; exact h.elim
    | some b =>
      rw [hw] at h
      rw [wanted_of hs hw]
      cases b with
      | true =>
        simp only [if_true]
        left
        refine Oper.wp_mono ?_ (h m w a hs.ok (ev_rel hs) hs.sim hs.defers _)
        rintro a' w' ⟨v', rfl, m', r, H', h1, h2, h3, h4⟩
        exact aops_sound rest K _ m0 w0 m' w' _ hd.2 (he.trans h1) (hs.put h1 hd1 h2 h3) h4 hQ
      | false =>
        simp only [Bool.false_eq_true, if_false]
        exact aops_sound rest K _ m0 w0 m w _ hd.2 he (hs.put (Ext.refl m w) hd1 rel_undef hs.sim) h hQ

/-- A region that goes in the order of the text. -/
theorem awp_region {id : Nat} {l : List Oper} (hd : dstOk N l = true) (h : aops E l.toArray l (Q .normal) s) : AWp E N n0 (.region id l.toArray false) Q s :=
  fun m0 w0 _ m w a he hs => wp_region_lit (aops_sound l _ s m0 w0 m w a hd he hs h (fun _ _ _ _ _ _ h => h))

theorem aops_nil {ops : Array Oper} {K : St → Prop} (h : K s) : aops E ops [] K s := ⟨s.sl, fun _ => rfl, h⟩
theorem aops_step {ops : Array Oper} {K : St → Prop} {o : Oper} {rest : List Oper} (hw : wantedA ops o s.sl = some true)
    (h : AStep E o (ev E s.sl) s.hp (fun r H' => aops E ops rest K ⟨put o.dst r s.sl, H'⟩)) : aops E ops (o :: rest) K s := by
  simp only [aops, hw]; exact h
theorem aops_skip {ops : Array Oper} {K : St → Prop} {o : Oper} {rest : List Oper} (hw : wantedA ops o s.sl = some false)
    (h : aops E ops rest K ⟨put o.dst (.tup []) s.sl, s.hp⟩) : aops E ops (o :: rest) K s := by
  simp only [aops, hw]; exact h
theorem aops_pre {ops : Array Oper} {K : St → Prop} {l : List Oper} {sl' : List (Nat × AV)} (hs : ∀ k, get s.sl k = get sl' k) (h : aops E ops l K ⟨sl', s.hp⟩) :
    aops E ops l K s := by
  induction l generalizing s sl' with
  | nil =>
    obtain ⟨sl2, h1, h2⟩ := h
    exact ⟨sl2, fun k => (hs k).trans (h1 k), h2⟩
  | cons o rest ih =>
    have hev : ev E s.sl = ev E sl' := by funext x; cases x <;> simp [ev, hs]
    have hwa : wantedA ops o s.sl = wantedA ops o sl' := by unfold wantedA; split <;> simp [hs]
    simp only [aops, hwa] at h ⊢
    have hp : ∀ r k, get (put o.dst r s.sl) k = get (put o.dst r sl') k := fun r k => by simp [get_put, hs]
    split
    · rename_i hw
      rw [hw] at h
      simp only at h
      rw [hev]
      intro m w a hok hx hsim hdf Q'
      refine Oper.wp_mono ?_ (h m w a hok hx hsim hdf Q')
      rintro a' w' ⟨v', h0, m', r, H', h1, h2, h3, h4⟩
      exact ⟨v', h0, m', r, H', h1, h2, h3, ih (s := ⟨put o.dst r s.sl, H'⟩) (hp r) h4⟩
    · rename_i hw
      rw [hw] at h
      exact ih (s := ⟨put o.dst _ s.sl, s.hp⟩) (hp _) h
    · rename_i hw; rw [hw] at h; exact h
end
end Go.Abs
