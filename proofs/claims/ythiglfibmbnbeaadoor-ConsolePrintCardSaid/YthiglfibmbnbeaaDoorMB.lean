/- Regions that draw their order. Joined texts, each with what its own name promises; no condition beyond those stated. -/
import Derived.Test.YthiglfibmbnbeaaDoorMA
import Derived.ProofKit
import Derived.Deep.Slices
import Derived.Laws.CopyRow
import Derived.Laws.IdiomCopy
import Derived.Laws.IdiomStrings
import Derived.Lib.SliceRun
namespace Go.Abs
section
variable {E : Env} {N n0 : Nat} {Q : Exit → St → Prop} {s : St}

abbrev Sf := Nat → AV
def upd (d : Option Nat) (v : AV) (σ : Sf) : Sf := match d with
  | some d => fun k => if d = k then v else σ k
  | none => σ
theorem upd_put {d : Option Nat} {v : AV} {sl : List (Nat × AV)} : get (put d v sl) = upd d v (get sl) := by
  funext k
  rw [get_put]
  cases d <;> simp [upd]
theorem upd_comm {d d' : Option Nat} {v v' : AV} {σ : Sf} (h : ∀ k, d = some k → d' ≠ some k) : upd d v (upd d' v' σ) = upd d' v' (upd d v σ) := by
  cases d with
  | none => rfl
  | some d =>
    cases d' with
    | none => rfl
    | some d' =>
      have hne : d' ≠ d := fun e => h d rfl (by rw [e])
      funext k
      simp only [upd]
      by_cases h1 : d = k <;> by_cases h2 : d' = k <;> simp [h1, h2]
      omega
def tsOf (o : Oper) : List Nat := o.op.operands.toList.filterMap fun | .tmp t => some t | _ => none
def evF (E : Env) (ts : List Nat) (σ : Sf) : Operand → AV
  | .tmp t => cond (ts.contains t) (σ t) .any
  | .const v => ofV v
  | .global g => E.G g
  | .func f => .clo (.func f) [] []
def wantedF (ops : Array Oper) (o : Oper) (σ : Sf) : Option Bool :=
  match o.guard with
  | none => some true
  | some (j, want) => match (ops[j]?).bind (·.dst) with
    | none => some false
    | some d => match σ d with
      | .bool b => some (b == want)
      | .tup [] => some false
      | _ => none
theorem wantedF_get {ops : Array Oper} {o : Oper} {sl : List (Nat × AV)} : wantedF ops o (get sl) = wantedA ops o sl := rfl

theorem evF_upd {o : Oper} {ops : Array Oper} {d : Option Nat} {v : AV} {σ : Sf} (h : ∀ k, d = some k → k ∉ o.looksAt ops) : evF E (tsOf o) (upd d v σ) = evF E (tsOf o) σ := by
  funext x
  cases x with
  | tmp t =>
    simp only [evF]
    cases hc : (tsOf o).contains t with
    | false => rfl
    | true =>
      cases d with
      | none => rfl
      | some d =>
        have hm : t ∈ tsOf o := by simpa using hc
        have hne : d ≠ t := fun e => h d rfl (by subst e; exact List.mem_append_left _ hm)
        simp [upd, hne]
  | _ => rfl
theorem wantedF_upd {o : Oper} {ops : Array Oper} {d : Option Nat} {v : AV} {σ : Sf} (h : ∀ k, d = some k → k ∉ o.looksAt ops) : wantedF ops o (upd d v σ) = wantedF ops o σ := by
  unfold wantedF
  cases hg : o.guard with
  | none => rfl
  | some gw =>
    obtain ⟨j, want⟩ := gw
    cases hd : (ops[j]?).bind (·.dst) with
    | none => simp only [hd]
    | some d2 =>
      cases d with
      | none => rfl
      | some d =>
        have hne : d ≠ d2 := fun e => h d rfl (by subst e; simp [Oper.looksAt, hg, hd])
        have e2 : upd (some d) v σ d2 = σ d2 := by simp [upd, hne]
        simp only [hd, e2]

theorem astep_mono {o : Oper} {ρ : Operand → AV} {H : Hp} {K K' : AV → Hp → Prop} (h : AStep E o ρ H K) (k : ∀ r H', K r H' → K' r H') : AStep E o ρ H K' := fun m w a h1 h2 h3 h4 Q =>
  Oper.wp_mono (fun _ _ ⟨v', h0, m', r, H', a1, a2, a3, a4⟩ => ⟨v', h0, m', r, H', a1, a2, a3, k _ _ a4⟩) (h m w a h1 h2 h3 h4 Q)

/-- One operation of a region that draws: 'ef' lists those that change the heap, 'so' those that do not look at it. -/
def mOp (E : Env) (ops : Array Oper) (ef so : List Nat) (i : Nat) (K : Sf → Hp → Prop) (σ : Sf) (H : Hp) : Prop :=
  match ops[i]? with
  | none => False
  | some o =>
    match wantedF ops o σ with
    | none => False
    | some false => K (upd o.dst (.tup []) σ) H
    | some true =>
      if ef.contains i then AStep E o (evF E (tsOf o) σ) H (fun r H' => K (upd o.dst r σ) H')
      else if so.contains i then ∃ v, (∀ H, AStep E o (evF E (tsOf o) σ) H (fun r H' => r = v ∧ H' = H)) ∧ K (upd o.dst v σ) H
      else ∃ v, AStep E o (evF E (tsOf o) σ) H (fun r H' => r = v ∧ H' = H) ∧ K (upd o.dst v σ) H
theorem mOp_mono {ops : Array Oper} {ef so : List Nat} {i : Nat} {K K' : Sf → Hp → Prop} {σ : Sf} {H : Hp} (k : ∀ σ H, K σ H → K' σ H) (h : mOp E ops ef so i K σ H) : mOp E ops ef so i K' σ H := by
  unfold mOp at *
  split
  · rename_i ho; simp only [ho] at h
  · rename_i o ho
    simp only [ho] at h
    split
    · rename_i hw; simp only [hw] at h
    · rename_i hw; simp only [hw] at h; exact k _ _ h
    · rename_i hw
      simp only [hw] at h
      split
      · rename_i he; rw [if_pos he] at h; exact astep_mono h fun _ _ => k _ _
      · rename_i he
        rw [if_neg he] at h
        split
        · rename_i hs; rw [if_pos hs] at h; obtain ⟨v, h1, h2⟩ := h; exact ⟨v, h1, k _ _ h2⟩
        · rename_i hs; rw [if_neg hs] at h; obtain ⟨v, h1, h2⟩ := h; exact ⟨v, h1, k _ _ h2⟩
def anyM (E : Env) (ops : Array Oper) (ef so : List Nat) (R : Sf → Hp → Prop) : Nat → Array Bool → Sf → Hp → Prop
  | 0, listed, σ, H => Region.ready .any ops listed = [] ∧ R σ H
  | fuel + 1, listed, σ, H => (Region.ready .any ops listed = [] → R σ H) ∧ ∀ i ∈ Region.ready .any ops listed, mOp E ops ef so i (anyM E ops ef so R fuel (listed.setIfInBounds i true)) σ H

structure SRelF (E : Env) (N : Nat) (m : Mu) (w : World) (σ : Sf) (H : Hp) (a : Act) : Prop where
  ok : E.Ok
  slots : ∀ k, E.Rel m w (σ k) (a.tmps.getD k undef)
  size : a.tmps.size = N
  defers : a.defers = []
  sim : E.Sim m w H
  glob : ∀ g, E.Rel m w (E.G g) (.pointer (some ⟨g, 0, none⟩))
theorem SRelF.put {m : Mu} {w : World} {σ : Sf} {H : Hp} {a : Act} (h : SRelF E N m w σ H a) {m' : Mu} {w' : World} (he : Ext m w m' w') {d : Option Nat} (hd : ∀ k, d = some k → k < N) {r : AV} {v : Value}
    (hr : E.Rel m' w' r v) {H' : Hp} (hH : E.Sim m' w' H') : SRelF E N m' w' (upd d r σ) H' (a.put d v) := by
  refine ⟨h.ok, fun k => ?_, ?_, ?_, hH, fun g => (h.glob g).ext he⟩
  · by_cases hk : d = some k
    · subst hk
      have hlt : k < a.tmps.size := by rw [h.size]; exact hd k rfl
      have : (a.put (some k) v).tmps.getD k undef = v := by simp [Act.put, hlt]
      rw [this]; simpa [upd] using hr
    · have : (a.put d v).tmps.getD k undef = a.tmps.getD k undef := by
        cases d with
        | none => rfl
        | some j =>
          have hne : j ≠ k := fun e => hk (by rw [e])
          simp [Act.put, Array.getElem?_setIfInBounds_ne hne]
      rw [this]
      have h2 : upd d r σ k = σ k := by
        cases d with
        | none => rfl
        | some j =>
          have hne : j ≠ k := fun e => hk (by rw [e])
          simp [upd, hne]
      rw [h2]; exact (h.slots k).ext he
  · cases d <;> simp [Act.put, h.size]
  · cases d <;> simp [Act.put, h.defers]
theorem wantedF_of {ops : Array Oper} {o : Oper} {m : Mu} {w : World} {σ : Sf} {H : Hp} {a : Act} {b : Bool} (h : SRelF E N m w σ H a) (hw : wantedF ops o σ = some b) : Region.wanted o (yielded ops a.tmps) = b := by
  -- by the law for lists of slots, at the one slot that is looked at
  cases hg : o.guard with
  | none => simp [wantedF, hg] at hw; simp [Region.wanted, hg, hw]
  | some gw =>
    obtain ⟨j, want⟩ := gw
    cases hd : (ops[j]?).bind (·.dst) with
    | none => simp [wantedF, hg, hd] at hw; subst hw; simp [Region.wanted, hg, yielded, hd]
    | some d =>
      have hs : SRel E N m w ⟨[(d, σ d)], H⟩ a := ⟨h.ok, fun k => by
        show Abs.Rel E.cx m w (get [(d, σ d)] k) _
        rw [get_cons]
        split
        · rename_i e; subst e; exact h.slots d
        · simp [get, Abs.Rel], h.size, h.defers, h.sim, h.glob⟩
      refine wanted_of hs ?_
      simp only [wantedF, hg, hd] at hw
      simp only [wantedA, hg, hd, get_cons, if_true]
      exact hw
theorem evF_rel {m : Mu} {w : World} {σ : Sf} {H : Hp} {a : Act} (h : SRelF E N m w σ H a) (ts : List Nat) (x : Operand) : E.Rel m w (evF E ts σ x) (a.eval x) := by
  cases x with
  | tmp t =>
    simp only [evF]
    cases ts.contains t with
    | true => exact h.slots t
    | false => show Abs.Rel _ _ _ _ _; simp [Abs.Rel]
  | const v => exact rel_ofV v
  | global g => exact h.glob g
  | func f =>
    show Abs.Rel E.cx m w (.clo (.func f) [] []) (.func (.func f) #[] #[])
    simp [Abs.Rel, Abs.RelL]

theorem mOp_sound {ops : Array Oper} {ef so : List Nat} {i : Nat} {K : Sf → Hp → Prop} {σ : Sf} {H : Hp} {m : Mu} {w : World} {a : Act} (hd : dstOk N ops.toList = true) (hs : SRelF E N m w σ H a) (h : mOp E ops ef so i K σ H)
    {K' : Act → World → Prop} {Q' : Exit → Act → World → Prop} (hK : ∀ m' w' σ' H' a', Ext m w m' w' → SRelF E N m' w' σ' H' a' → K σ' H' → K' a' w') : wpOp E.P ops Q' i K' a w := by
  unfold mOp at h
  unfold wpOp
  cases ho : ops[i]? with
  | none => simp only [ho] at h
  | some o =>
    simp only [ho] at h ⊢
    have hd1 : ∀ k, o.dst = some k → k < N := fun k hk => by
      have h1 := List.all_eq_true.1 hd o (Array.mem_toList_iff.2 (Array.mem_of_getElem? ho))
      rw [hk] at h1; simpa using h1
    have fin : ∀ {K2 : AV → Hp → Prop}, AStep E o (evF E (tsOf o) σ) H K2 → (∀ r H', K2 r H' → K (upd o.dst r σ) H') → o.wp E.P a w K' Q' := fun hst hk => by
      refine Oper.wp_mono ?_ (hst m w a hs.ok (evF_rel hs _) hs.sim hs.defers Q')
      rintro a' w' ⟨v', rfl, m', r, H', h1, h2, h3, h4⟩
      exact hK m' w' _ _ _ h1 (hs.put h1 hd1 h2 h3) (hk _ _ h4)
    cases hw : wantedF ops o σ with
    | none => rw [hw] at h; exact h.elim
    | some b =>
      rw [hw] at h
      rw [wantedF_of hs hw]
      cases b with
      | false =>
        simp only [Bool.false_eq_true, if_false]
        exact hK m w _ _ _ (Ext.refl m w) (hs.put (Ext.refl m w) hd1 rel_undef hs.sim) h
      | true =>
        simp only [if_true]
        left
        simp only at h
        split at h
        · exact fin h fun _ _ h => h
        · split at h
          · obtain ⟨v, h1, h2⟩ := h; exact fin (h1 H) fun r H' ⟨e1, e2⟩ => by subst e1; subst e2; exact h2
          · obtain ⟨v, h1, h2⟩ := h; exact fin h1 fun r H' ⟨e1, e2⟩ => by subst e1; subst e2; exact h2
theorem anyM_sound {ops : Array Oper} {ef so : List Nat} {R : Sf → Hp → Prop} {Q' : Exit → Act → World → Prop} (hd : dstOk N ops.toList = true) {m0 : Mu} {w0 : World}
    (hR : ∀ m w σ H a, Ext m0 w0 m w → SRelF E N m w σ H a → R σ H → Q' .normal a w) : ∀ (fuel : Nat) (listed : Array Bool) (σ : Sf) (H : Hp) (m : Mu) (w : World) (a : Act), Ext m0 w0 m w → SRelF E N m w σ H a →
    anyM E ops ef so R fuel listed σ H → wpAny E.P .any ops Q' fuel listed a w
  | 0, _, _, _, m, w, a, he, hs, h => ⟨h.1, hR m w _ _ a he hs h.2⟩
  | fuel + 1, _, _, _, m, w, a, he, hs, h => ⟨fun h0 => hR m w _ _ a he hs (h.1 h0), fun i hi =>
      mOp_sound hd hs (h.2 i hi) fun m' w' σ' H' a' he' hs' hk => anyM_sound hd hR fuel _ σ' H' m' w' a' (he.trans he') hs' hk⟩

/-! Which operation waits for which -/
def reachB (ops : Array Oper) : Nat → Nat → Nat → Bool
  | 0, _, _ => false
  | f + 1, i, x => match ops[i]? with
    | some o => o.after.any fun e => Region.binds .any e && (e.on == x || reachB ops f e.on x)
    | none => false
def Down (ops : Array Oper) (listed : Array Bool) : Prop := ∀ p o, ops[p]? = some o → listed.getD p false = true → ∀ e ∈ o.after, Region.binds .any e = true → listed.getD e.on false = true
theorem reach_listed {ops : Array Oper} {listed : Array Bool} (hd : Down ops listed) : ∀ (f i x : Nat) (o : Oper), ops[i]? = some o → (∀ e ∈ o.after, Region.binds .any e = true → listed.getD e.on false = true) → reachB ops f i x = true → listed.getD x false = true
  | 0, _, _, _, _, _, h => by simp [reachB] at h
  | f + 1, i, x, o, ho, ha, h => by
    simp only [reachB, ho] at h
    obtain ⟨e, he, hb⟩ := Array.any_eq_true'.1 h
    simp only [Bool.and_eq_true, Bool.or_eq_true, beq_iff_eq] at hb
    have hl := ha e he hb.1
    rcases hb.2 with h2 | h2
    · rw [← h2]; exact hl
    · cases hq : ops[e.on]? with
      | none =>
        cases f with
        | zero => simp [reachB] at h2
        | succ f => simp [reachB, hq] at h2
      | some o2 => exact reach_listed hd f e.on x o2 hq (hd _ _ hq hl) h2
theorem down_set {ops : Array Oper} {listed : Array Bool} {i : Nat} (hd : Down ops listed) (hi : i ∈ Region.ready .any ops listed) : Down ops (listed.setIfInBounds i true) := by
  intro p o ho hl e he hb
  obtain ⟨_, oi, hoi, hall⟩ := mem_ready.1 hi
  by_cases hpi : p = i
  · subst hpi
    rw [ho] at hoi; cases hoi
    exact getD_set_true (hall e he hb)
  · rw [getD_set_ne false (Ne.symm hpi)] at hl
    exact getD_set_true (hd p o ho hl e he hb)

/-- It yields v, now and whatever the others do that may come before it. -/
def YieldsM (E : Env) (ops : Array Oper) (so : List Nat) (i : Nat) (o : Oper) (v : AV) (σ : Sf) (H : Hp) : Prop :=
  (wantedF ops o σ = some true ∧ (if so.contains i then ∀ H, AStep E o (evF E (tsOf o) σ) H (fun r H' => r = v ∧ H' = H) else AStep E o (evF E (tsOf o) σ) H (fun r H' => r = v ∧ H' = H))) ∨ (wantedF ops o σ = some false ∧ v = .tup [])
theorem YieldsM.mOp {ops : Array Oper} {ef so : List Nat} {i : Nat} {o : Oper} {v : AV} {σ : Sf} {H : Hp} (hi : ops[i]? = some o) (hne : ef.contains i = false) (hy : YieldsM E ops so i o v σ H) {K : Sf → Hp → Prop} (h : K (upd o.dst v σ) H) :
    mOp E ops ef so i K σ H := by
  unfold Abs.mOp
  simp only [hi]
  rcases hy with ⟨hw, hv⟩ | ⟨hw, rfl⟩
  · simp only [hw, hne, Bool.false_eq_true, if_false]
    split
    · rename_i hs; rw [if_pos hs] at hv; exact ⟨v, hv, h⟩
    · rename_i hs; rw [if_neg hs] at hv; exact ⟨v, hv, h⟩
  · simp only [hw]; exact h
theorem mOp_put {ops : Array Oper} {ef so : List Nat} {i j : Nat} {oi oj : Oper} {v : AV} (hj : ops[j]? = some oj) (hap : oi.apart ops oj = true) (hcond : ef.contains j = true → so.contains i = true) {K : Sf → Hp → Prop} {σ : Sf} {H : Hp}
    (hy : YieldsM E ops so i oi v σ H) (h : mOp E ops ef so j K (upd oi.dst v σ) H) : mOp E ops ef so j (fun σ' H' => YieldsM E ops so i oi v σ' H' ∧ K (upd oi.dst v σ') H') σ H := by
  obtain ⟨h1, h2, h3⟩ := Oper.apart_spec hap
  have keep : ∀ u, ∀ H', (so.contains i = true ∨ H' = H) → YieldsM E ops so i oi v (upd oj.dst u σ) H' := fun u H' hH => by
    unfold YieldsM at *
    rw [wantedF_upd h3, evF_upd (E := E) h3]
    rcases hy with ⟨hw, hv⟩ | hy
    · refine .inl ⟨hw, ?_⟩
      split
      · rename_i hs; rw [if_pos hs] at hv; exact hv
      · rename_i hs
        rw [if_neg hs] at hv
        rcases hH with hH | rfl
        · exact absurd hH hs
        · exact hv
    · exact .inr hy
  have comm : ∀ u, upd oj.dst u (upd oi.dst v σ) = upd oi.dst v (upd oj.dst u σ) := fun u => (upd_comm h2).symm
  unfold mOp at *
  simp only [hj] at *
  rw [wantedF_upd h1, evF_upd (E := E) h1] at h
  split
  · rename_i hw; rw [hw] at h; exact h
  · rename_i hw; rw [hw] at h; exact ⟨keep _ H (.inr rfl), by rw [← comm]; exact h⟩
  · rename_i hw
    rw [hw] at h
    simp only at h
    split
    · rename_i he
      rw [if_pos he] at h
      exact astep_mono h fun r H' hk => ⟨keep _ H' (.inl (hcond he)), by rw [← comm]; exact hk⟩
    · rename_i he
      rw [if_neg he] at h
      split
      · rename_i hs; rw [if_pos hs] at h; obtain ⟨u, h4, h5⟩ := h; exact ⟨u, h4, keep _ H (.inr rfl), by rw [← comm]; exact h5⟩
      · rename_i hs; rw [if_neg hs] at h; obtain ⟨u, h4, h5⟩ := h; exact ⟨u, h4, keep _ H (.inr rfl), by rw [← comm]; exact h5⟩

/-! The walk in an order of one's own -/
def ordOk (ops : Array Oper) (ef so : List Nat) : List Nat → Array Bool → Bool
  | [], listed => (Region.ready .any ops listed).isEmpty
  | i :: rest, listed =>
    (if ef.contains i then Region.ready .any ops listed == [i]
     else (Region.ready .any ops listed).contains i && Region.free .any ops listed i && (so.contains i || ef.all fun j => !(Nat.blt j ops.size) || reachB ops ops.size j i)) &&
    ordOk ops ef so rest (listed.setIfInBounds i true)
/-- The operations in that order. -/
def awM (E : Env) (ops : Array Oper) (ef so : List Nat) (K : St → Prop) : List Nat → St → Prop
  | [], s => ∃ sl', get sl' = get s.sl ∧ K ⟨sl', s.hp⟩
  | i :: rest, s =>
    match ops[i]? with
    | none => False
    | some o =>
      match wantedA ops o s.sl with
      | none => False
      | some false => awM E ops ef so K rest ⟨put o.dst (.tup []) s.sl, s.hp⟩
      | some true =>
        if ef.contains i then AStep E o (evF E (tsOf o) (get s.sl)) s.hp (fun r H' => awM E ops ef so K rest ⟨put o.dst r s.sl, H'⟩)
        else if so.contains i then ∃ v, (∀ H, AStep E o (evF E (tsOf o) (get s.sl)) H (fun r H' => r = v ∧ H' = H)) ∧ awM E ops ef so K rest ⟨put o.dst v s.sl, s.hp⟩
        else ∃ v, AStep E o (evF E (tsOf o) (get s.sl)) s.hp (fun r H' => r = v ∧ H' = s.hp) ∧ awM E ops ef so K rest ⟨put o.dst v s.sl, s.hp⟩
def RofK (K : St → Prop) (σ : Sf) (H : Hp) : Prop := ∃ sl, get sl = σ ∧ K ⟨sl, H⟩
end
end Go.Abs
namespace Go.Abs

def nn : Nat → Option Nat
  | 0 => some 0
  | n + 1 => match nn n with
    | some k => some (k + 1)
    | none => none
/-- The outermost form. -/
def ns : AV → Option AV
  | .any => some .any
  | .int k n => some (.int k n)
  | .bool b => some (.bool b)
  | .str s => some (.str s)
  | .nilp => some .nilp
  | .nils => some .nils
  | .nilm => some .nilm
  | .nilf => some .nilf
  | .nili => some .nili
  | .fp cs => some (.fp cs)
  | .ptr id off => match nn id, nn off with
    | some id, some off => some (.ptr id off)
    | _, _ => none
  | .pe id i off => match nn id with
    | some id => some (.pe id i off)
    | _ => none
  | .sl k es => some (.sl k es)
  | .own id lo n => match nn id with
    | some id => some (.own id lo n)
    | none => none
  | .mp id => match nn id with
    | some id => some (.mp id)
    | none => none
  | .agg cs => some (.agg cs)
  | .tup cs => some (.tup cs)
  | .clo f a c => some (.clo f a c)
  | .ifc t x => some (.ifc t x)
  | .gp k zs => some (.gp k zs)
def nl : List AV → Option (List AV)
  | [] => some []
  | x :: xs => match ns x, nl xs with
    | some y, some ys => some (y :: ys)
    | _, _ => none
def nv : AV → Option AV
  | .any => some .any
  | .int k n => some (.int k n)
  | .bool b => some (.bool b)
  | .str s => some (.str s)
  | .nilp => some .nilp
  | .nils => some .nils
  | .nilm => some .nilm
  | .nilf => some .nilf
  | .nili => some .nili
  | .fp cs => match nl cs with
    | some cs => some (.fp cs)
    | none => none
  | .ptr id off => match nn id, nn off with
    | some id, some off => some (.ptr id off)
    | _, _ => none
  | .pe id i off => match nn id, nn off with
    | some id, some off => some (.pe id i off)
    | _, _ => none
  | .sl k es => some (.sl k es)
  | .own id lo n => match nn id with
    | some id => some (.own id lo n)
    | none => none
  | .mp id => match nn id with
    | some id => some (.mp id)
    | none => none
  | .agg cs => match nl cs with
    | some cs => some (.agg cs)
    | none => none
  | .tup cs => match nl cs with
    | some cs => some (.tup cs)
    | none => none
  | .clo f a c => some (.clo f a c)
  | .ifc t x => some (.ifc t x)
  | .gp k zs => some (.gp k zs)
def no : Option AO → Option (Option AO)
  | none => some none
  | some (.cells cs e) => match nl cs with
    | some cs => some (some (.cells cs e))
    | none => none
  | some (.arr es e) => some (some (.arr es e))
  | some (.map es) => some (some (.map es))
  | some (.itr s p) => some (some (.itr s p))
def nh : Hp → Option Hp
  | [] => some []
  | x :: xs => match no x, nh xs with
    | some y, some ys => some (y :: ys)
    | _, _ => none
theorem nn_eq : ∀ {n k : Nat}, nn n = some k → n = k
  | 0, _, h => by simp [nn] at h; exact h
  | n + 1, k, h => by
    simp only [nn] at h
    split at h
    · rename_i j hj; cases h; rw [nn_eq hj]
    · cases h
theorem ns_eq {x y : AV} (h : ns x = some y) : x = y := by
  unfold ns at h
  split at h
  all_goals first
    | (cases h; rfl)
    | (split at h
       · rename_i hj; cases h; rw [nn_eq hj]
       · cases h)
    | (split at h
       · rename_i hj hk; cases h; rw [nn_eq hj, nn_eq hk]
       · cases h)
theorem nl_eq : ∀ {x y : List AV}, nl x = some y → x = y
  | [], _, h => by simp [nl] at h; exact h.symm
  | x :: xs, y, h => by
    simp only [nl] at h
    split at h
    · rename_i j k hj hk; cases h; rw [ns_eq hj, nl_eq hk]
    · cases h
theorem nv_eq {x y : AV} (h : nv x = some y) : x = y := by
  unfold nv at h
  split at h
  all_goals first
    | (cases h; rfl)
    | (split at h
       · rename_i hj; cases h; rw [nl_eq hj]
       · cases h)
    | (split at h
       · rename_i hj; cases h; rw [nn_eq hj]
       · cases h)
    | (split at h
       · rename_i hj hk; cases h; rw [nn_eq hj, nn_eq hk]
       · cases h)
theorem no_eq {x y : Option AO} (h : no x = some y) : x = y := by
  unfold no at h
  split at h
  · cases h; rfl
  · split at h
    · rename_i hj; cases h; rw [nl_eq hj]
    · cases h
  · cases h; rfl
  · cases h; rfl
  · cases h; rfl
theorem nh_eq : ∀ {x y : Hp}, nh x = some y → x = y
  | [], _, h => by simp [nh] at h; exact h.symm
  | x :: xs, y, h => by
    simp only [nh] at h
    split at h
    · rename_i a b ha hb; cases h; rw [no_eq ha, nh_eq hb]
    · cases h

section
variable {E : Env} {N n0 : Nat} {Q : Exit → St → Prop} {sl : List (Nat × AV)} {hp : Hp} {K : St → Prop} {ops : Array Oper} {rest : List Oper}
variable {op : Op} {ty : TypeId} {pos : String} {after : Array Edge} {g : Option (Nat × Bool)}

/-- What is behind a step: the state in normal form. -/
def Nx (k : AV → Hp → Prop) (r : AV) (H : Hp) : Prop := ∃ r2 H2, nv r = some r2 ∧ nh H = some H2 ∧ k r2 H2
theorem nx {k : AV → Hp → Prop} {r r2 : AV} {H H2 : Hp} (h1 : nv r = some r2) (h2 : nh H = some H2) (h : k r2 H2) : Nx k r H := ⟨r2, H2, h1, h2, h⟩
theorem nx_id {k : AV → Hp → Prop} {r : AV} {H : Hp} (h : Nx k r H) : k r H := by
  obtain ⟨r2, H2, h1, h2, h⟩ := h
  rw [nv_eq h1, nh_eq h2]; exact h
theorem bs {d : Nat} (hw : wantedA ops ⟨some d, op, ty, pos, after, g⟩ sl = some true) (h : AStep E ⟨some d, op, ty, pos, after, g⟩ (ev E sl) hp (Nx fun r H' => aops E ops rest K ⟨(d, r) :: sl, H'⟩)) :
    aops E ops (⟨some d, op, ty, pos, after, g⟩ :: rest) K ⟨sl, hp⟩ :=
  aops_step hw (astep_mono h fun _ _ h => nx_id h)
theorem bs0 (hw : wantedA ops ⟨none, op, ty, pos, after, g⟩ sl = some true) (h : AStep E ⟨none, op, ty, pos, after, g⟩ (ev E sl) hp (Nx fun _ H' => aops E ops rest K ⟨sl, H'⟩)) :
    aops E ops (⟨none, op, ty, pos, after, g⟩ :: rest) K ⟨sl, hp⟩ :=
  aops_step hw (astep_mono h fun _ _ h => nx_id (k := fun _ H' => aops E ops rest K ⟨sl, H'⟩) h)
theorem bskip {d : Nat} (hw : wantedA ops ⟨some d, op, ty, pos, after, g⟩ sl = some false) (h : aops E ops rest K ⟨(d, .tup []) :: sl, hp⟩) :
    aops E ops (⟨some d, op, ty, pos, after, g⟩ :: rest) K ⟨sl, hp⟩ := aops_skip hw h
theorem bguard {o : Oper} {d : Nat} {p : Prop} [Decidable p] (hg : gslot ops o = some d) (hb : get sl d = .bool (decide p))
    (ht : p → aops E ops (o :: rest) K ⟨(d, .bool true) :: sl, hp⟩) (hf : ¬ p → aops E ops (o :: rest) K ⟨(d, .bool false) :: sl, hp⟩) : aops E ops (o :: rest) K ⟨sl, hp⟩ :=
  aops_guard_dec hg hb ht hf
end

def Env.wX (E : Env) (X : Nat → Prop) : Env := { P := E.P, ti := E.ti, n := E.n, G := E.G, X := X }
/-- A function that needs no object of its caller's, and leaves none. -/
theorem acalls_pure {E : Env} {f : FuncId} {args : List AV} {r : AV} (h : ∀ X, ACalls (E.wX X) f args [] (fun r' H' => r' = r ∧ H' = [])) (ha : IdsLtL 0 args) (H : Hp) : ACalls E f args H (fun r' H' => r' = r ∧ H' = H) := by
  refine ⟨(h E.X).1, fun m w vs hok hglob hargs hsim => ?_⟩
  have hc0 : ∀ i, i < 0 → (fun _ => none : Nat → Option Nat) i = some i := fun i h => absurd h (Nat.not_lt_zero _)
  have hc : Cmp (fun _ => none) E.cx (E.wX fun b => E.X b ∨ .blk b ∈ m).cx m [] := ⟨rfl, fun _ _ h => absurd h (by simp), fun b hb => hb.elim (fun h => absurd h (by simp)) (fun h => h.elim .inr .inl)⟩
  have hsim0 : (E.wX fun b => E.X b ∨ .blk b ∈ m).Sim [] w [] := ⟨rfl, fun _ _ h => by simp at h, fun _ h => by simp at h, fun _ _ _ h => by simp at h, fun b hb => hb.elim (hsim.xlt b) (fun h => hsim.lt h), fun b hb => absurd hb (by simp)⟩
  refine ((h fun b => E.X b ∨ .blk b ∈ m).2 [] w vs hok (fun g => Rel.cmp hc hc0 _ (hok.2.2 g) (hglob g)) (RelL.cmp hc hc0 _ ha hargs) hsim0).mono ?_
  rintro e w' ⟨v, m', r', H', he, hext, hr, hs', rfl, rfl⟩
  have hm' : m' = [] := List.eq_nil_of_length_eq_zero (by rw [hs'.len]; rfl)
  subst hm'
  have hext2 : Ext m w m w' := ⟨hext.os, hext.tape, hext.output, hext.size, fun b hb _ => hext.keep b hb (by simp), fun _ _ h => h, Nat.le_refl _, fun _ _ _ _ h => h, hext.shape⟩
  have hc2 : Cmp (fun _ => none) (E.wX fun b => E.X b ∨ .blk b ∈ m).cx E.cx [] m := ⟨rfl, fun _ _ h => absurd h (by simp), fun b hb => .inr (hb.elim .inr .inl)⟩
  exact ⟨v, m, r', H, he, hext2, Rel.cmp hc2 hc0 _ (by have := Rel.ids _ hr; simpa using this) hr, hsim.of_ext hext2 fun b hb => hext.keep b (hsim.lt hb) (by simp), rfl, rfl⟩
end Go.Abs
namespace Go.Abs

theorem then_i {K : St → Prop} {Q : Exit → St → Prop} {s : St} (h : K s) : Then K Q .normal s := h
theorem then_x {K : St → Prop} {Q : Exit → St → Prop} {i : Nat} {s : St} (h : Q (.exit i) s) : Then K Q (.exit i) s := h
theorem blk_x {Q : Exit → St → Prop} {i : Nat} {s : St} (h : Q .normal s) : InBlk i Q (.exit i) s := by
  simpa [InBlk] using h
theorem ren_val2 {f : Nat → Option Nat} {v v' : AV} (h : v = v') (hi : IdsLt 0 v') : Ren f v v' := by
  subst h; exact ren_old 0 (fun i h => absurd h (Nat.not_lt_zero i)) hi
theorem renO_val2 {f : Nat → Option Nat} {v v' : AO} (h : v = v') (hi : IdsLtO 0 v') : RenO f v v' := by
  subst h; exact renO_old 0 (fun i h => absurd h (Nat.not_lt_zero i)) hi
theorem ren_val {f : Nat → Option Nat} {v v' : AV} (h : v = v') (hi : IdsLt 0 v) : Ren f v v' := by
  subst h; exact ren_old 0 (fun i h => absurd h (Nat.not_lt_zero i)) hi
theorem renO_val {f : Nat → Option Nat} {v v' : AO} (h : v = v') (hi : IdsLtO 0 v) : RenO f v v' := by
  subst h; exact renO_old 0 (fun i h => absurd h (Nat.not_lt_zero i)) hi
theorem fa_nil {P : Nat × AV → Prop} : ∀ p ∈ ([] : List (Nat × AV)), P p := fun _ h => absurd h (by simp)
theorem fa_cons {P : Nat × AV → Prop} {q : Nat × AV} {r : List (Nat × AV)} (h : P q) (t : ∀ p ∈ r, P p) : ∀ p ∈ q :: r, P p := fun p hp => by
  rcases List.mem_cons.1 hp with e | e
  · rw [e]; exact h
  · exact t p e
def OsOk (H : Hp) (f : Nat → Option Nat) (ids : List Nat) (os : List AO) : Prop :=
  ∀ (j i : Nat) (o' : AO), ids[j]? = some i → os[j]? = some o' → ∃ o, H[i]? = some (some o) ∧ RenO f o o'
theorem os_nil {H : Hp} {f : Nat → Option Nat} : OsOk H f [] [] := fun _ _ _ h => absurd h (by simp)
theorem os_cons {H : Hp} {f : Nat → Option Nat} {i : Nat} {ids : List Nat} {o o' : AO} {os : List AO} (h1 : H[i]? = some (some o)) (h2 : RenO f o o') (t : OsOk H f ids os) : OsOk H f (i :: ids) (o' :: os) := fun j i2 o2 hi ho => by
  cases j with
  | zero => simp at hi ho; subst hi ho; exact ⟨o, h1, h2⟩
  | succ j => exact t j i2 o2 (by simpa using hi) (by simpa using ho)
theorem imp_tidy {E : Env} {N : Nat} {sl : List (Nat × AV)} {hp : Hp} (ids : List Nat) {sl' : List (Nat × AV)} {os : List AO} (hnd : ids.Nodup)
    (hlen : os.length = ids.length) (hsl : ∀ p ∈ sl', Ren (gcF 0 ids) (get sl p.1) p.2) (hos : OsOk hp (gcF 0 ids) ids os) :
    Imp E N 0 ⟨sl, hp⟩ ⟨sl', os.map some⟩ := by
  have := imp_gc (E := E) (N := N) (n0 := 0) (s := ⟨sl, hp⟩) 0 ids sl' os (Nat.le_refl _) (Nat.zero_le _) hnd (fun _ _ => Nat.zero_le _) (fun _ _ h => by simp at h) hsl hlen hos
  simpa using this
theorem imp_tidy0 {E : Env} {N : Nat} {sl : List (Nat × AV)} {hp : Hp} {sl' : List (Nat × AV)} (hsl : ∀ p ∈ sl', Ren (gcF 0 []) (get sl p.1) p.2) :
    Imp E N 0 ⟨sl, hp⟩ ⟨sl', []⟩ := imp_tidy [] (os := []) (by simp) rfl hsl os_nil
theorem frz_own {id k n : Nat} {es : List AV} (h : n = es.length) : frz id k es (.own id 0 n) = .sl k es := by
  subst h; simp [frz]
theorem dst_own {H : Hp} {e : TypeId} {id n : Nat} {es : List AV} (h : H[id]? = some (some (.arr es e))) (hn : n = es.length) : dstA H e (.own id 0 n) = some (some id, es) := by
  simp only [dstA, h, hn, true_and, if_true]
def n2 : List AV → Option (List AV)
  | [] => some []
  | x :: xs => match nv x, n2 xs with
    | some y, some ys => some (y :: ys)
    | _, _ => none
theorem n2_eq : ∀ {x y : List AV}, n2 x = some y → x = y
  | [], _, h => by simp [n2] at h; exact h.symm
  | x :: xs, y, h => by
    simp only [n2] at h
    split at h
    · rename_i a b ha hb; cases h; rw [nv_eq ha, n2_eq hb]
    · cases h
theorem st_bsl {E : Env} {H : Hp} {K : AV → Hp → Prop} {ρ : Operand → AV} {d : Option Nat} {ty : TypeId} {pos : String} {after : Array Edge} {g : Option (Nat × Bool)}
    {t e : TypeId} {len k : Nat} {parts : Array (Nat × Operand)} {z cs es : List AV} (ht : Nat.blt t E.n = true) (hk : (E.ti t).k = .sl e) (he : Nat.blt e E.n = true) (hz : (E.ti e).z = some z)
    (hzl : Nat.beq z.length (E.ti e).sz = true) (hz0 : Nat.blt 0 (E.ti e).sz = true) (hlim : Nat.ble (len * (E.ti e).sz) 16777216 = true) (hag : (E.ti e).k.agg = true ∨ Nat.beq (E.ti e).sz 1 = true)
    (hf : fillA (slPlace (E.ti e).sz) ρ parts.toList (rep z len) = some cs) (hone : (E.ti e).k.agg = true ∨ cs.all oneA = true)
    (hsz : nn (E.ti e).sz = some k) (hav : n2 (avals (E.ti e).k.agg (E.ti e).sz len cs) = some es) (h : K (.sl k es) H) :
    AStep E ⟨d, .buildSlice t len parts, ty, pos, after, g⟩ ρ H K :=
  st_buildSlice ht hk he hz hzl hz0 hlim hag hf hone (by rw [n2_eq hav, nn_eq hsz]; exact h)
theorem st_bld {E : Env} {H : Hp} {K : AV → Hp → Prop} {ρ : Operand → AV} {d : Option Nat} {ty : TypeId} {pos : String} {after : Array Edge} {g : Option (Nat × Bool)}
    {t : TypeId} {fs : List (Nat × TypeId)} {parts : Array (Nat × Operand)} {z out es : List AV} (ht : Nat.blt t E.n = true) (hk : (E.ti t).k = .struct fs) (hz : (E.ti t).z = some z)
    (hall : (fs.all fun p => Nat.blt p.2 E.n) = true) (hf : fillA (placesOf E fs) ρ parts.toList z = some out) (he : n2 out = some es) (h : K (.agg es) H) : AStep E ⟨d, .build t parts, ty, pos, after, g⟩ ρ H K :=
  st_build ht hk hz hall hf (by rw [n2_eq he]; exact h)
end Go.Abs
namespace Go.Abs
section
variable {E : Env} {ops : Array Oper} {ef so : List Nat} {K : St → Prop} {i : Nat} {rest : List Nat} {sl : List (Nat × AV)} {hp : Hp}
variable {op : Op} {ty : TypeId} {pos : String} {after : Array Edge} {g : Option (Nat × Bool)} {d : Nat}
theorem ds_nil {s : St} (h : K s) : awM E ops ef so K [] s := ⟨s.sl, rfl, h⟩
/-- A step with an effect. -/
theorem ds_ef (hi : ops[i]? = some ⟨some d, op, ty, pos, after, g⟩) (hw : wantedA ops ⟨some d, op, ty, pos, after, g⟩ sl = some true) (he : ef.contains i = true)
    (h : AStep E ⟨some d, op, ty, pos, after, g⟩ (evF E (tsOf ⟨some d, op, ty, pos, after, g⟩) (get sl)) hp (Nx fun r H' => awM E ops ef so K rest ⟨(d, r) :: sl, H'⟩)) : awM E ops ef so K (i :: rest) ⟨sl, hp⟩ := by
  simp only [awM, hi, hw, he, if_true]
  exact astep_mono h fun _ _ h => nx_id h
/-- A step without one. -/
theorem ds (hi : ops[i]? = some ⟨some d, op, ty, pos, after, g⟩) (hw : wantedA ops ⟨some d, op, ty, pos, after, g⟩ sl = some true) (he : ef.contains i = false) (hs : so.contains i = false)
    {v : AV} (h : AStep E ⟨some d, op, ty, pos, after, g⟩ (evF E (tsOf ⟨some d, op, ty, pos, after, g⟩) (get sl)) hp (Nx fun r H' => r = v ∧ H' = hp)) (h2 : awM E ops ef so K rest ⟨(d, v) :: sl, hp⟩) : awM E ops ef so K (i :: rest) ⟨sl, hp⟩ := by
  simp only [awM, hi, hw, he, hs, Bool.false_eq_true, if_false]
  exact ⟨v, astep_mono h fun _ _ h => nx_id (k := fun r H' => r = v ∧ H' = hp) h, h2⟩
/-- A step without one that is the same over every heap. -/
theorem ds_so (hi : ops[i]? = some ⟨some d, op, ty, pos, after, g⟩) (hw : wantedA ops ⟨some d, op, ty, pos, after, g⟩ sl = some true) (he : ef.contains i = false) (hs : so.contains i = true)
    {v : AV} (h : ∀ H, AStep E ⟨some d, op, ty, pos, after, g⟩ (evF E (tsOf ⟨some d, op, ty, pos, after, g⟩) (get sl)) H (fun r H' => r = v ∧ H' = H)) (h2 : awM E ops ef so K rest ⟨(d, v) :: sl, hp⟩) : awM E ops ef so K (i :: rest) ⟨sl, hp⟩ := by
  simp only [awM, hi, hw, he, hs, Bool.false_eq_true, if_false, if_true]
  exact ⟨v, h, h2⟩
end
end Go.Abs
namespace Go.Abs
open Go.Deep
section
variable {E : Env} {H : Type} {enc : TypeId × Value → H} {W : World}

def elA (agg : Bool) (ys : List AV) : AV := if agg then .agg ys else ys.headD .any
/-- The cells of a struct, field by field. -/
def hasF (E : Env) (rec : TypeId → List AV → Prop) : List (Nat × TypeId) → List AV → Prop
  | [], xs => xs = []
  | p :: r, xs => ∃ a b, xs = a ++ b ∧ rec p.2 a ∧ hasF E rec r b
/-- What the cells of a value of the type t are. -/
def hasC (E : Env) : Nat → TypeId → List AV → Prop
  | 0, _, _ => False
  | f + 1, t, xs =>
    match (E.ti t).k with
    | .int k => ∃ n, xs = [.int k n] ∧ k.min ≤ n ∧ n ≤ k.max
    | .bool => ∃ b, xs = [.bool b]
    | .str => ∃ s, xs = [.str s] ∧ s.length ≤ maxLen
    | .sl e => ∃ es, xs = [.sl (E.ti e).sz es] ∧ es.length ≤ maxLen ∧ ∀ x ∈ es, ∃ ys, x = elA (E.ti e).k.agg ys ∧ hasC E f e ys
    | .struct fs => hasF E (hasC E f) fs xs
    | _ => False
def layT (E : Env) : List (Nat × TypeId) → Nat → Nat → Bool
  | [], o, n => Nat.beq o n
  | p :: r, o, n => Nat.beq p.1 o && layT E r (o + (E.ti p.2).sz) n
/-- Types of plain data, whose structs' cells are their fields' cells in order. -/
def plainT (E : Env) : Nat → TypeId → Bool
  | 0, _ => false
  | f + 1, t => Nat.blt t E.n &&
    match (E.ti t).k with
    | .int _ | .bool | .str => Nat.beq (E.ti t).sz 1
    | .sl e => Nat.beq (E.ti t).sz 1 && plainT E f e && Nat.blt 0 (E.ti e).sz
    | .struct fs => layT E fs 0 (E.ti t).sz && fs.all fun p => plainT E f p.2
    | _ => false

theorem cellsOf_eq {t : TypeId} (hok : E.Ok) (ht : Nat.blt t E.n = true) : E.P.cellsOf t = (E.ti t).sz := by
  obtain ⟨i, d, h1, _, h2, _⟩ := tyOf_spec hok ht
  unfold Program.cellsOf
  rw [h1]; exact h2

theorem fields_av {f : Nat} {cs : List Value} {n : Nat}
    (IH : ∀ t cs x, plainT E f t = true → DataW.trod enc E.P W 0 (fun _ => true) true n t cs = some x → ∃ xs, E.RelL [] W xs cs ∧ hasC E f t xs ∧ cs.length = (E.ti t).sz) (hok : E.Ok) :
    ∀ (F : List Field) (o : Nat), layT E (F.map fun f => (f.offset, f.type)) o cs.length = true → ((F.map fun f => (f.offset, f.type)).all fun p => plainT E f p.2) = true → o ≤ cs.length →
      (∀ g ∈ F, ∃ x, DataW.trod enc E.P W 0 (fun _ => true) true n g.type ((cs.drop g.offset).take (E.P.cellsOf g.type)) = some x) →
      ∃ xs, E.RelL [] W xs (cs.drop o) ∧ hasF E (hasC E f) (F.map fun f => (f.offset, f.type)) xs
  | [], o, hl, _, _, _ => by
    simp only [List.map_nil, layT] at hl
    have := Nat.eq_of_beq_eq_true hl
    subst this
    exact ⟨[], by simp [Abs.RelL], rfl⟩
  | g :: F, o, hl, hp, ho, hx => by
    simp only [List.map_cons, layT, Bool.and_eq_true] at hl
    simp only [List.map_cons, List.all_cons, Bool.and_eq_true] at hp
    have hgo : g.offset = o := Nat.eq_of_beq_eq_true hl.1
    obtain ⟨x, h1⟩ := hx g (by simp)
    obtain ⟨a, h2, h3, h4⟩ := IH _ _ _ hp.1 h1
    have hgt : Nat.blt g.type E.n = true := by
      have := hp.1
      cases f with
      | zero => simp [plainT] at this
      | succ f => simp only [plainT, Bool.and_eq_true] at this; exact this.1
    rw [cellsOf_eq hok hgt, hgo] at h2 h4
    have hle : o + (E.ti g.type).sz ≤ cs.length := by simp at h4; omega
    obtain ⟨b, h5, h6⟩ := fields_av IH hok F (o + (E.ti g.type).sz) hl.2 hp.2 hle fun q hq => hx q (List.mem_cons_of_mem _ hq)
    refine ⟨a ++ b, ?_, a, b, rfl, h3, h6⟩
    have : cs.drop o = (cs.drop o).take (E.ti g.type).sz ++ cs.drop (o + (E.ti g.type).sz) := by
      rw [← List.drop_drop, List.take_append_drop]
    rw [this]
    exact RelL.append h2 h5

theorem one_cell {f : Nat} {t : TypeId} {xs : List AV} {cs : List Value} (h : hasC E f t xs) (ha : (E.ti t).k.agg = false) (hr : E.RelL [] W xs cs) : ∃ x v, xs = [x] ∧ cs = [v] ∧ E.Rel [] W x v ∧ v.cells = #[v] := by
  cases f with
  | zero => exact h.elim
  | succ f =>
    simp only [hasC] at h
    split at h
    · obtain ⟨n, rfl, _⟩ := h
      obtain ⟨v, r, rfl, h1, h2⟩ := relL_cons.1 hr
      rw [relL_nil] at h2; subst h2
      refine ⟨_, v, rfl, rfl, h1, ?_⟩
      simp only [Abs.Rel] at h1; subst h1; rfl
    · obtain ⟨n, rfl⟩ := h
      obtain ⟨v, r, rfl, h1, h2⟩ := relL_cons.1 hr
      rw [relL_nil] at h2; subst h2
      refine ⟨_, v, rfl, rfl, h1, ?_⟩
      simp only [Abs.Rel] at h1; subst h1; rfl
    · obtain ⟨n, rfl, _⟩ := h
      obtain ⟨v, r, rfl, h1, h2⟩ := relL_cons.1 hr
      rw [relL_nil] at h2; subst h2
      refine ⟨_, v, rfl, rfl, h1, ?_⟩
      simp only [Abs.Rel] at h1; subst h1; rfl
    · obtain ⟨n, rfl, _⟩ := h
      obtain ⟨v, r, rfl, h1, h2⟩ := relL_cons.1 hr
      rw [relL_nil] at h2; subst h2
      refine ⟨_, v, rfl, rfl, h1, ?_⟩
      simp only [Abs.Rel] at h1
      obtain ⟨A, c, vs, rfl, _⟩ := h1
      rfl
    · rename_i hk; rw [hk] at ha; cases ha
    · exact h.elim

theorem el_av {f : Nat} {t : TypeId} {xs : List AV} {cs : List Value} (h : hasC E f t xs) (hr : E.RelL [] W xs cs) : ∃ u, u.cells.toList = cs ∧ E.Rel [] W (elA (E.ti t).k.agg xs) u := by
  cases ha : (E.ti t).k.agg with
  | true => exact ⟨.agg cs.toArray, rfl, by simp only [elA, if_true, Env.Rel, Abs.Rel]; exact ⟨cs, rfl, hr⟩⟩
  | false =>
    obtain ⟨x, v, rfl, rfl, h1, h2⟩ := one_cell h ha hr
    exact ⟨v, by rw [h2], by simpa [elA] using h1⟩

theorem relL_range {x : Nat → AV} {v : Nat → Value} : ∀ (l : List Nat), (∀ i ∈ l, E.Rel [] W (x i) (v i)) → E.RelL [] W (l.map x) (l.map v)
  | [], _ => by simp [Abs.RelL]
  | i :: l, h => RelL.cons (h i (by simp)) (relL_range l fun j hj => h j (by simp [hj]))

theorem trod_av (hok : E.Ok) (hX : ∀ b, ¬ E.X b) : ∀ (f fuel : Nat) (t : TypeId) (cs : List Value) (x : DataW H × List MemPlace), plainT E f t = true → DataW.trod enc E.P W 0 (fun _ => true) true fuel t cs = some x →
    ∃ xs, E.RelL [] W xs cs ∧ hasC E f t xs ∧ cs.length = (E.ti t).sz
  | 0, _, _, _, _, hp, _ => by simp [plainT] at hp
  | f + 1, fuel, t, cs, x, hp, h => by
    simp only [plainT, Bool.and_eq_true] at hp
    obtain ⟨ht, hp⟩ := hp
    cases hk : (E.ti t).k with
    | int k =>
      rw [hk] at hp
      obtain ⟨n, rfl, _, hw⟩ := DataW.trod_int (tk_int hok ht hk) h
      simp only [Lit.wf, Bool.and_eq_true, decide_eq_true_eq] at hw
      refine ⟨[.int k n], RelL.cons (by simp [Abs.Rel]) (by simp [Abs.RelL]), ?_, (Nat.eq_of_beq_eq_true hp).symm⟩
      simp only [hasC, hk]
      exact ⟨n, rfl, hw⟩
    | bool =>
      rw [hk] at hp
      obtain ⟨b, rfl, _⟩ := DataW.trod_bool (tk_bool hok ht hk) h
      refine ⟨[.bool b], RelL.cons (by simp [Abs.Rel]) (by simp [Abs.RelL]), ?_, (Nat.eq_of_beq_eq_true hp).symm⟩
      simp only [hasC, hk]
      exact ⟨b, rfl⟩
    | str =>
      rw [hk] at hp
      obtain ⟨s, rfl, _, hs⟩ := DataW.trod_string (tk_str hok ht hk) h
      refine ⟨[.str s.data.toList], RelL.cons (by simp [Abs.Rel]) (by simp [Abs.RelL]), ?_, (Nat.eq_of_beq_eq_true hp).symm⟩
      simp only [hasC, hk]
      exact ⟨_, rfl, by rw [Array.length_toList]; exact hs⟩
    | sl e =>
      rw [hk] at hp
      simp only [Bool.and_eq_true] at hp
      obtain ⟨⟨hs1, hpe⟩, h0⟩ := hp
      have he : Nat.blt e E.n = true := by
        cases f with
        | zero => simp [plainT] at hpe
        | succ f => simp only [plainT, Bool.and_eq_true] at hpe; exact hpe.1
      rcases open_slice (tk_sl hok ht hk) h with ⟨rfl, _⟩ | ⟨a, len, cap, m, n, D, Pl, rfl, _, hl, hm, hmm, _, hx⟩
      · refine ⟨[.sl (E.ti e).sz []], RelL.cons ?_ (by simp [Abs.RelL]), ?_, (Nat.eq_of_beq_eq_true hs1).symm⟩
        · simp only [Abs.Rel]
          exact ⟨none, 0, [], rfl, Nat.le_refl _, Nat.zero_le _, by simp [Abs.RelL], fun _ h => absurd h (by simp), fun h => absurd rfl h⟩
        · simp only [hasC, hk]
          exact ⟨[], rfl, Nat.zero_le _, fun _ h => absurd h (by simp)⟩
      · simp only [if_true] at hmm
        subst hmm
        have hx2 : ∀ i, i < m → ∃ (p : (List Value × List AV) × Value), W.cells? 0 (a.add (i * (E.ti e).sz)) (E.ti e).sz = some p.1.1 ∧ hasC E f e p.1.2 ∧ p.2.cells.toList = p.1.1 ∧ E.Rel [] W (elA (E.ti e).k.agg p.1.2) p.2 ∧ p.1.1.length = (E.ti e).sz := fun i hi => by
          obtain ⟨cs', h1, h2⟩ := hx i hi
          rw [cellsOf_eq hok he] at h1
          obtain ⟨xs, h3, h4, h5⟩ := trod_av hok hX f n e cs' _ hpe h2
          obtain ⟨u, h6, h7⟩ := el_av h4 h3
          exact ⟨((cs', xs), u), h1, h4, h6, h7, h5⟩
        obtain ⟨V, hV⟩ := choose_lt hx2
        have hrel : E.RelL [] W ((List.range len).map fun i => elA (E.ti e).k.agg (V i).1.2) ((List.range len).map fun i => (V i).2) := relL_range _ fun i hi => (hV i (by have := List.mem_range.1 hi; omega)).2.2.2.1
        have hsz : ∀ u ∈ (List.range len).map (fun i => (V i).2), u.cells.size = (E.ti e).sz := fun u hu => by
          obtain ⟨i, hi, rfl⟩ := List.mem_map.1 hu
          have h1 := hV i (by have := List.mem_range.1 hi; omega)
          have := congrArg List.length h1.2.2.1
          rw [h1.2.2.2.2] at this
          simpa using this
        have h0' : 0 < (E.ti e).sz := by simpa using h0
        refine ⟨[.sl (E.ti e).sz ((List.range len).map fun i => elA (E.ti e).k.agg (V i).1.2)], RelL.cons ?_ (by simp [Abs.RelL]), ?_, (Nat.eq_of_beq_eq_true hs1).symm⟩
        · simp only [Abs.Rel]
          refine ⟨some a, m, _, by simp, by simpa using hl, hm, hrel, hsz, fun hne => ⟨a, rfl, ?_, by simp, hX _, ?_⟩⟩
          · have hlen : 0 < len := by
              rcases Nat.eq_zero_or_pos len with h | h
              · subst h; exact absurd rfl hne
              · exact h
            obtain ⟨_, h2, h3⟩ := World.cells?_some (hV 0 (by omega)).1
            have h4 := h3 0 h0'
            rw [Nat.zero_mul] at h4
            have h5 : (V 0).1.1[0]? ≠ none := by
              rw [List.getElem?_eq_getElem (by rw [h2]; exact h0')]; simp
            rw [← h4] at h5
            have h6 : ((a.add 0).add 0) = a := by simp [Addr.add]
            rw [h6] at h5
            rcases Nat.lt_or_ge a.block W.heap.size with h7 | h7
            · exact h7
            · exfalso
              apply h5
              unfold World.cell?
              rw [Array.getElem?_eq_none h7]
          · intro j u hj
            have hlt : j < len * (E.ti e).sz := by
              have := (List.getElem?_eq_some_iff.1 hj).1
              rw [flat_length hsz] at this
              simpa using this
            have hi : j / (E.ti e).sz < len := Nat.div_lt_of_lt_mul (by rw [Nat.mul_comm]; exact hlt)
            have hr : j % (E.ti e).sz < (E.ti e).sz := Nat.mod_lt _ h0'
            have hj2 : j = j / (E.ti e).sz * (E.ti e).sz + j % (E.ti e).sz := by rw [Nat.mul_comm]; exact (Nat.div_add_mod j _).symm
            generalize hqi : j / (E.ti e).sz = i at hi hj2
            generalize hqr : j % (E.ti e).sz = r at hr hj2
            have h1 := hV i (by omega)
            rw [hj2, flat_get (k := (E.ti e).sz) (v := (V i).2) hsz (by simp [hi]) r hr, h1.2.2.1] at hj
            obtain ⟨_, _, h3⟩ := World.cells?_some h1.1
            rw [hj2, ← add_add, h3 r hr, hj]
        · simp only [hasC, hk]
          refine ⟨_, rfl, by simp; omega, fun y hy => ?_⟩
          obtain ⟨i, hi, rfl⟩ := List.mem_map.1 hy
          exact ⟨_, rfl, (hV i (by have := List.mem_range.1 hi; omega)).2.1⟩
    | struct fs =>
      rw [hk] at hp
      simp only [Bool.and_eq_true] at hp
      obtain ⟨F, h1, h2⟩ := tk_struct hok ht hk
      obtain ⟨xs, n, _, _, hcl, hxl, hf⟩ := DataW.trod_struct h1 h
      rw [cellsOf_eq hok ht] at hcl
      subst h2
      obtain ⟨ys, h3, h4⟩ := fields_av (cs := cs) (n := n) (f := f) (fun t cs x => trod_av hok hX f n t cs x) hok F.toList 0 (by rw [hcl]; exact hp.1) hp.2 (Nat.zero_le _) (fun g hg => by
        obtain ⟨i, hi, he⟩ := List.getElem_of_mem hg
        have h5 := hf i g (by simpa [Array.getElem?_eq_some_iff] using ⟨by simpa using hi, he⟩)
        rw [h5]
        exact ⟨_, List.getElem?_eq_getElem (by rw [hxl]; simpa using hi)⟩)
      refine ⟨ys, by simpa using h3, ?_, hcl⟩
      simp only [hasC, hk]
      exact h4
    | _ => rw [hk] at hp; simp at hp
end
end Go.Abs
namespace Go.Abs
open Go.RowKit Go.ChangeShapes Go.WideShapes
section
variable {E : Env} {H : Type} {enc : TypeId × Value → H} {W : World}

theorem arg_av (hok : E.Ok) (hX : ∀ b, ¬ E.X b) {f : Nat} {t : TypeId} {v : Value} {d : DataW H} {ps : List MemPlace} {base : Nat} (hp : plainT E f t = true) (hna : (E.ti t).k.agg = false)
    (hval : Value.okWide E.P W .any base t v) (h : DataW.Trod enc E.P W 0 (fun _ => true) true t v d ps) : ∃ x, E.Rel [] W x v ∧ hasC E f t [x] := by
  obtain ⟨fuel, hf⟩ := h
  obtain ⟨xs, h1, h2, h3⟩ := trod_av hok hX f fuel t _ _ hp hf
  obtain ⟨x, v', rfl, h5, h6, h7⟩ := one_cell h2 hna h1
  have hv : v.cells.toList = [v] := by
    cases f with
    | zero => simp [plainT] at hp
    | succ f =>
      simp only [plainT, Bool.and_eq_true] at hp
      obtain ⟨ht, hp⟩ := hp
      cases hk : (E.ti t).k with
      | int k => obtain ⟨n, rfl⟩ := okWide_int (tk_int hok ht hk) hval; rfl
      | bool => obtain ⟨n, rfl⟩ := WideShapes.okWide_bool (tk_bool hok ht hk) hval; rfl
      | str => obtain ⟨n, rfl⟩ := okWide_string (tk_str hok ht hk) hval; rfl
      | sl e => obtain ⟨a, l, c, rfl⟩ := okWide_slice (tk_sl hok ht hk) hval; rfl
      | struct fs => rw [hk] at hna; cases hna
      | _ => rw [hk] at hp; simp at hp
  rw [hv] at h5
  simp only [List.cons.injEq, and_true] at h5
  subst h5
  exact ⟨x, h6, h2⟩

theorem trodAll_stay {P : Program} (hl : laidOutB P = true) {W' : World} (hb : Below W.heap.size W W') {sp : Nat → Bool} : ∀ {ts : List TypeId} {vs : List Value} {ds : List (DataW H)} {ps : List MemPlace},
    (ts.all fun t => P.readableRec t && decide (t < P.types.size)) = true → DataW.TrodAll enc P W 0 (fun _ => true) true ts vs ds ps → (∀ p ∈ ps, p.block < W.heap.size) → (∀ p ∈ ps, sp p.block = true) → DataW.TrodAll enc P W' 0 sp true ts vs ds ps
  | [], _, _, _, _, h, _, _ => by obtain ⟨rfl, rfl, rfl⟩ := trodAll_nil h; rfl
  | t :: ts, _, _, _, ht, h, hlt, hs => by
    obtain ⟨v, vs, d, ds, p, q, rfl, rfl, rfl, h1, h2⟩ := trodAll_cons h
    simp only [List.all_cons, Bool.and_eq_true, decide_eq_true_eq] at ht
    exact ⟨p, q, WideElems.Trod_stays hl ht.1.1 ht.1.2 h1 (fun x hx => hb.same (hlt x (List.mem_append_left _ hx))) (fun x hx => hs x (List.mem_append_left _ hx)),
      trodAll_stay hl hb ht.2 h2 (fun x hx => hlt x (List.mem_append_right _ hx)) (fun x hx => hs x (List.mem_append_right _ hx)), rfl⟩

theorem below_keptBut {W' : World} (hb : Below W.heap.size W W') (may : MemPlace → Prop) : W.keptBut W' may := by
  refine ⟨hb.os, hb.output, fun i hi => ?_⟩
  rw [hb.block i hi]
  cases h : W.heap[i]? with
  | none => rfl
  | some o => cases o <;> simp

/-- A law that answers true and changes nothing. -/
theorem post_true {P : Program} {f : Func} {s : ChangeSpec} {apart fresh handsOn again : Bool} {W' : World} {args : Array Value} {ds gs : List (DataW H)} {before : List MemPlace} {tb : TypeId}
    (hl : laidOutB P = true) (hvars : s.vars = []) (hp : (f.params.toList.all fun t => P.readableRec t && decide (t < P.types.size)) = true)
    (hrt : f.resultTypes = #[tb]) (htb : P.underlying tb = some .bool)
    (hres : (s.fn H (ds ++ gs)).results = [.lit (.bool true)]) (hargs : (s.fn H (ds ++ gs)).args = ds) (hv0 : (s.fn H (ds ++ gs)).vars = [])
    (hW : DataW.Whole enc P f.params.toList s.vars apart W args.toList ds gs before) (hb : Below W.heap.size W W') :
    s.post enc P f apart fresh handsOn again W args (.bool true) W' := by
  have hlt := hW.lt
  have hW' := hW
  obtain ⟨p, q, h1, h2, rfl, hz, hn⟩ := hW'
  rw [hvars] at h2
  obtain ⟨hgs, rfl⟩ := trodVars_none h2
  rw [List.append_nil] at hlt hz hn
  have hr : ∀ (b : Nat) (sp : Nat → Bool) (hd : Bool), DataW.TrodAll enc P W' b sp hd f.resultTypes.toList ((Value.bool true).resultList f.resultTypes.size) [.lit (.bool true)] [] := fun b sp hd => by
    rw [hrt]
    exact trodAll_mk1 ⟨1, by simp [DataW.trod, htb, Value.cells]⟩
  refine ⟨ds, gs, p ++ [], [], p, [], hW, by rw [hres]; exact hr _ _ _, ?_, ?_, below_keptBut hb _, fun _ => ⟨?_, _, [], ([] ++ p) ++ [], ⟨[] ++ p, [], trodAll_append (trodAll_stay hl hb hp h1 hlt fun _ _ => rfl) (hr _ _ _), ?_, rfl, ?_, ?_⟩, ?_⟩⟩
  · rw [hargs]
    exact trodAll_stay hl hb hp h1 hlt fun x hx => by simpa using hlt x hx
  · rw [hv0, hvars]; rfl
  · exact ok_one hrt rfl (okWide_bool_mk htb true)
  · rw [hvars]; rfl
  · intro b off hm
    simp only [List.nil_append, List.append_nil] at hm
    have h3 := hlt _ hm
    have h4 := hz b off hm
    unfold World.frozen? at h4 ⊢
    rw [hb.block b h3]
    exact h4
  · intro ha
    simpa using hn ha
  · intro x hx _
    simpa using hx

end
end Go.Abs
namespace Go.Abs

mutual
def rnA (f : Nat → Nat) : AV → AV
  | .fp cs => .fp (rnL f cs)
  | .ptr id off => .ptr (f id) off
  | .pe id i off => .pe (f id) i off
  | .sl k es => .sl k (rnL f es)
  | .own id lo n => .own (f id) lo n
  | .mp id => .mp (f id)
  | .agg cs => .agg (rnL f cs)
  | .tup cs => .tup (rnL f cs)
  | .clo fn a c => .clo fn (rnL f a) (rnL f c)
  | .ifc t x => .ifc t (rnA f x)
  | x => x
def rnL (f : Nat → Nat) : List AV → List AV
  | [] => []
  | x :: xs => rnA f x :: rnL f xs
end
def rnO (f : Nat → Nat) : AO → AO
  | .cells cs e => .cells (rnL f cs) e
  | .arr es e => .arr (rnL f es) e
  | .map es => .map ((rnL f (es.map (·.1))).zip (rnL f (es.map (·.2))))
  | .itr s p => .itr s p
theorem rnL_len (f : Nat → Nat) : ∀ l : List AV, (rnL f l).length = l.length
  | [] => rfl
  | _ :: l => by simp [rnL, rnL_len f l]

mutual
def Rn (F : Nat → Option Nat) : AV → AV → Prop
  | .fp cs, y => ∃ ds, RnL F cs ds ∧ y = .fp ds
  | .ptr id off, y => ∃ j, F id = some j ∧ y = .ptr j off
  | .pe id i off, y => ∃ j, F id = some j ∧ y = .pe j i off
  | .sl k es, y => ∃ ds, RnL F es ds ∧ y = .sl k ds
  | .own id lo n, y => ∃ j, F id = some j ∧ y = .own j lo n
  | .mp id, y => ∃ j, F id = some j ∧ y = .mp j
  | .agg cs, y => ∃ ds, RnL F cs ds ∧ y = .agg ds
  | .tup cs, y => ∃ ds, RnL F cs ds ∧ y = .tup ds
  | .clo fn a c, y => ∃ b d, RnL F a b ∧ RnL F c d ∧ y = .clo fn b d
  | .ifc t x, y => ∃ z, Rn F x z ∧ y = .ifc t z
  | .gp k zs, y => y = .gp k zs
  | .any, y => y = .any
  | .int k n, y => y = .int k n
  | .bool b, y => y = .bool b
  | .str s, y => y = .str s
  | .nilp, y => y = .nilp
  | .nils, y => y = .nils
  | .nilm, y => y = .nilm
  | .nilf, y => y = .nilf
  | .nili, y => y = .nili
def RnL (F : Nat → Option Nat) : List AV → List AV → Prop
  | [], ys => ys = []
  | x :: xs, ys => ∃ z zs, Rn F x z ∧ RnL F xs zs ∧ ys = z :: zs
end

section
variable {F : Nat → Option Nat} {f : Nat → Nat} {n : Nat}
end

section
variable {F : Nat → Option Nat} {sz sz2 : Cx} {m m2 : Mu} {w : World}
end
end Go.Abs
namespace Go.Abs

def RnO (F : Nat → Option Nat) : AO → AO → Prop
  | .cells cs e, y => ∃ ds, RnL F cs ds ∧ y = .cells ds e
  | .arr cs e, y => ∃ ds, RnL F cs ds ∧ y = .arr ds e
  | .map es, y => ∃ es', RnL F (es.map (·.1)) (es'.map (·.1)) ∧ RnL F (es.map (·.2)) (es'.map (·.2)) ∧ y = .map es'
  | .itr s p, y => y = .itr s p
theorem rnO_fst (f : Nat → Nat) (es : List (AV × AV)) : ((rnL f (es.map (·.1))).zip (rnL f (es.map (·.2)))).map (·.1) = rnL f (es.map (·.1)) :=
  List.map_fst_zip (by simp [rnL_len])
theorem rnO_snd (f : Nat → Nat) (es : List (AV × AV)) : ((rnL f (es.map (·.1))).zip (rnL f (es.map (·.2)))).map (·.2) = rnL f (es.map (·.2)) :=
  List.map_snd_zip (by simp [rnL_len])
def setAll {α : Type} : List α → List Nat → List α → List α
  | l, i :: is, x :: xs => setAll (l.set i x) is xs
  | l, _, _ => l
section
variable {α : Type}
end
/-- The big heap's name of the small heap's j. -/
def reN (ids : List Nat) (n j : Nat) : Nat := (ids[j]?).getD (n + (j - ids.length))
/-- The big heap, with what has become of the small one. -/
def mrg {α : Type} (ids : List Nat) (H h' : List α) : List α := setAll H ids h' ++ h'.drop ids.length

section
variable {α : Type} {ids : List Nat} {H h' : List α}
end

end Go.Abs
namespace Go.Abs
section
variable {E : Env} {ρ : Operand → AV} {H : Hp} {K : AV → Hp → Prop}
variable {d : Option Tmp} {ty : TypeId} {pos : String} {after : Array Edge} {g : Option (Nat × Bool)}

end
end Go.Abs
namespace Go.Abs
open Go.MapKept
section
variable {E : Env} {ρ : Operand → AV} {H : Hp} {K : AV → Hp → Prop}
variable {d : Option Tmp} {ty : TypeId} {pos : String} {after : Array Edge} {g : Option (Nat × Bool)}

end
end Go.Abs
namespace Go.Abs
open Go.MapKept
section
variable {E : Env} {ρ : Operand → AV} {H : Hp} {K : AV → Hp → Prop}
variable {d : Option Tmp} {ty : TypeId} {pos : String} {after : Array Edge} {g : Option (Nat × Bool)}

end
end Go.Abs
namespace Go.Abs
section
variable {E : Env} {ρ : Operand → AV} {H : Hp} {K : AV → Hp → Prop}
variable {d : Option Tmp} {ty : TypeId} {pos : String} {after : Array Edge} {g : Option (Nat × Bool)}

theorem one_cells {v : Value} (h : v.oneCell' = true) : v.cells = #[v] := by
  cases v <;> simp_all [Value.oneCell', Value.cells]
theorem flat_one : ∀ {vs : List Value}, (∀ v ∈ vs, v.oneCell' = true) → flat vs = vs
  | [], _ => rfl
  | v :: vs, h => by
    have h1 := one_cells (h v (by simp))
    have h2 := flat_one (vs := vs) fun u hu => h u (by simp [hu])
    simp only [flat] at h2 ⊢
    rw [List.flatMap_cons, h1, h2]; rfl
end
end Go.Abs
namespace Go.Abs
section
variable {E : Env} {ρ : Operand → AV} {H : Hp} {K : AV → Hp → Prop}
variable {d : Option Tmp} {ty : TypeId} {pos : String} {after : Array Edge} {g : Option (Nat × Bool)}

def u8A (b : UInt8) : AV := .int .u8 b.toNat
theorem u8_one (l : List UInt8) : ∀ v ∈ l.map (fun b => Value.int .u8 b.toNat), v.oneCell' = true := fun v hv => by
  obtain ⟨b, _, rfl⟩ := List.mem_map.1 hv; rfl
theorem oneEs_u8 (l : List UInt8) : OneEs (l.map u8A) := fun y hy => by
  obtain ⟨b, _, rfl⟩ := List.mem_map.1 hy; exact ⟨rfl, rfl⟩

end
end Go.Abs
namespace Go.Abs
section
variable {E : Env} {ρ : Operand → AV} {H : Hp} {K : AV → Hp → Prop}
variable {d : Option Tmp} {ty : TypeId} {pos : String} {after : Array Edge} {g : Option (Nat × Bool)}

theorem st_makeFunc {f : FuncId} {captured : List Operand} (h : K (.clo (.func f) [] (captured.map ρ)) H) : AStep E ⟨d, .makeFunc (.func f) #[] captured.toArray, ty, pos, after, g⟩ ρ H K := by
  refine step_same _ (fun m w a hok hr hsim => ?_) h
  refine ⟨.func (.func f) #[] (captured.map a.eval).toArray, ?_, ?_⟩
  · simp [execOp, Instr.makeFunc]
  · simp only [Abs.Rel]
    refine ⟨[], captured.map a.eval, by simp, by simp [Abs.RelL], ?_⟩
    clear h
    induction captured with
    | nil => simp [Abs.RelL]
    | cons c cs ih => exact RelL.cons (hr c) ih
end
end Go.Abs
namespace Go.Abs
theorem nn_self : ∀ n, nn n = some n
  | 0 => rfl
  | n + 1 => by simp [nn, nn_self n]
theorem ns_self (x : AV) : ns x = some x := by
  cases x <;> simp [ns, nn_self]
theorem nl_self : ∀ l, nl l = some l
  | [] => rfl
  | x :: l => by simp [nl, ns_self x, nl_self l]
theorem nv_self (x : AV) : nv x = some x := by
  cases x <;> simp [nv, nl_self, nn_self]
theorem no_self (o : Option AO) : no o = some o := by
  cases o with
  | none => rfl
  | some o => cases o <;> simp [no, nl_self]
theorem nh_self : ∀ H : Hp, nh H = some H
  | [] => rfl
  | o :: H => by simp [nh, no_self o, nh_self H]
theorem nx0 {k : AV → Hp → Prop} {r : AV} {H : Hp} (h : k r H) : Nx k r H := ⟨r, H, nv_self r, nh_self H, h⟩
section
variable {E : Env} {ops : Array Oper} {ef so : List Nat} {K : St → Prop} {i : Nat} {rest : List Nat} {sl : List (Nat × AV)} {hp : Hp}
variable {op : Op} {ty : TypeId} {pos : String} {after : Array Edge} {g : Option (Nat × Bool)}
theorem ds_ef0 (hi : ops[i]? = some ⟨none, op, ty, pos, after, g⟩) (hw : wantedA ops ⟨none, op, ty, pos, after, g⟩ sl = some true) (he : ef.contains i = true)
    (h : AStep E ⟨none, op, ty, pos, after, g⟩ (evF E (tsOf ⟨none, op, ty, pos, after, g⟩) (get sl)) hp (Nx fun _ H' => awM E ops ef so K rest ⟨sl, H'⟩)) : awM E ops ef so K (i :: rest) ⟨sl, hp⟩ := by
  simp only [awM, hi, hw, he, if_true]
  exact astep_mono h fun _ _ h => nx_id (k := fun _ H' => awM E ops ef so K rest ⟨sl, H'⟩) h
end
end Go.Abs
namespace Go.Abs
mutual
def scal : AV → Bool
  | .int _ _ | .bool _ | .str _ | .nilp | .nils | .nilm | .nilf | .nili => true
  | .agg cs => scalL cs
  | .tup cs => scalL cs
  | _ => false
def scalL : List AV → Bool
  | [] => true
  | x :: xs => scal x && scalL xs
end
section
variable {sz sz2 : Cx} {m m2 : Mu} {w w2 : World}
mutual
theorem Rel.scal : ∀ (x : AV) {v : Value}, scal x = true → Rel sz m w x v → Rel sz2 m2 w2 x v
  | .int _ _, _, _, h | .bool _, _, _, h | .str _, _, _, h | .nilp, _, _, h | .nils, _, _, h | .nilm, _, _, h | .nilf, _, _, h | .nili, _, _, h => by simpa [Rel] using h
  | .agg cs, _, hs, h => by
    simp only [Rel] at h ⊢; simp only [Abs.scal] at hs
    obtain ⟨us, h1, h2⟩ := h
    exact ⟨us, h1, RelL.scal cs hs h2⟩
  | .tup cs, _, hs, h => by
    simp only [Rel] at h ⊢; simp only [Abs.scal] at hs
    obtain ⟨us, h1, h2⟩ := h
    exact ⟨us, h1, RelL.scal cs hs h2⟩
  | .any, _, hs, _ | .fp _, _, hs, _ | .ptr _ _, _, hs, _ | .pe _ _ _, _, hs, _ | .sl _ _, _, hs, _ | .own _ _ _, _, hs, _ | .mp _, _, hs, _ | .clo _ _ _, _, hs, _ | .ifc _ _, _, hs, _ | .gp _ _, _, hs, _ => by simp [Abs.scal] at hs
theorem RelL.scal : ∀ (xs : List AV) {vs : List Value}, scalL xs = true → RelL sz m w xs vs → RelL sz2 m2 w2 xs vs
  | [], _, _, h => by simpa [RelL] using h
  | x :: xs, _, hs, h => by
    simp only [RelL] at h ⊢; simp only [scalL, Bool.and_eq_true] at hs
    obtain ⟨u, r, h1, h2, h3⟩ := h
    exact ⟨u, r, h1, Rel.scal x hs.1 h2, RelL.scal xs hs.2 h3⟩
end
end
/-- The arguments, read as frozen ones. -/
inductive Bor (E : Env) (H : Hp) : List AV → List AV → Prop where
  | nil : Bor E H [] []
  | same {x : AV} {xs ys : List AV} (h : IdsLt 0 x) (t : Bor E H xs ys) : Bor E H (x :: xs) (x :: ys)
  | sl {x : AV} {k : Nat} {es xs ys : List AV} (hi : IdsLtL 0 es) (h : srcA E H k x = some es) (t : Bor E H xs ys) : Bor E H (x :: xs) (.sl k es :: ys)
theorem src_cap {E : Env} {H : Hp} {m : Mu} {w : World} {k : Nat} {x : AV} {es : List AV} {A : Option Addr} {n c : Nat} (hx : E.Rel m w x (.slice A n c)) (h : srcA E H k x = some es) : c ≤ maxLen := by
  cases x with
  | nils => simp only [Abs.Rel, Value.slice.injEq] at hx; omega
  | sl k' es' =>
    simp only [Abs.Rel, Value.slice.injEq] at hx
    obtain ⟨A', c', vs, ⟨_, _, rfl⟩, _, h3, _⟩ := hx
    exact h3
  | own id lo n' =>
    simp only [Abs.Rel, Value.slice.injEq] at hx
    obtain ⟨A', c', ⟨_, _, rfl⟩, _, h3, _⟩ := hx
    exact h3
  | _ => simp [srcA] at h
theorem Bor.rel {E : Env} {H : Hp} {m : Mu} {w : World} (hok : E.Ok) (hsim : E.Sim m w H) : ∀ {xs ys : List AV}, Bor E H xs ys → ∀ {vs : List Value}, E.RelL m w xs vs → (E.wX fun _ => False).RelL [] w ys vs := by
  intro xs ys hb
  induction hb with
  | nil => intro vs h; simpa [Abs.RelL] using h
  | same h t ih =>
    intro vs hr
    obtain ⟨u, r, rfl, h1, h2⟩ := relL_cons.1 hr
    have hc : Cmp (fun _ => none) E.cx (E.wX fun _ => False).cx m [] := ⟨rfl, fun _ _ h => absurd h (by simp), fun b hb => hb.elim (fun h => absurd h (by simp)) (fun h => h.elim)⟩
    exact RelL.cons (Rel.cmp hc (fun i h => absurd h (Nat.not_lt_zero _)) _ h h1) (ih h2)
  | @sl x k es xs ys hi h t ih =>
    intro vs hr
    obtain ⟨u, r, rfl, h1, h2⟩ := relL_cons.1 hr
    refine RelL.cons ?_ (ih h2)
    obtain ⟨A, c, ws, rfl, h4, h5, h6, h7⟩ := src_spec hok hsim h1 h
    have hcap := src_cap h1 h
    have hc : Cmp (fun _ => none) E.cx (E.wX fun _ => False).cx m [] := ⟨rfl, fun _ _ h => absurd h (by simp), fun b hb => hb.elim (fun h => absurd h (by simp)) (fun h => h.elim)⟩
    simp only [Abs.Rel]
    refine ⟨A, c, ws, rfl, h4, hcap, RelL.cmp hc (fun i h => absurd h (Nat.not_lt_zero _)) _ hi h5, h6, fun hne => ?_⟩
    obtain ⟨a, ha, hcell⟩ := h7 hne
    refine ⟨a, ha, ?_, by simp, fun hx => hx, hcell⟩
    obtain ⟨u, hu⟩ : ∃ u, (flat ws)[0]? = some u := by
      cases hf : flat ws with
      | nil => exact absurd hf hne
      | cons u r => exact ⟨u, rfl⟩
    have h8 := hcell 0 u hu
    have h9 : a.add 0 = a := by simp [Addr.add]
    rw [h9] at h8
    rcases Nat.lt_or_ge a.block w.heap.size with hl | hg
    · exact hl
    · unfold World.cell? at h8
      rw [Array.getElem?_eq_none hg] at h8
      cases h8
end Go.Abs
namespace Go.Abs
/-- Does an operation turn the abstract heap? -/
def effB : Op → Bool
  | .alloc _ | .box .. | .insert .. | .store .. | .makeMap .. | .mapUpdate .. | .mapEntry .. | .entryStore .. | .range .. | .next .. | .entry _ | .panic _ | .makeSlice .. => true
  | .call ⟨.builtin .append, _, _⟩ => true
  | .call ⟨.builtin .copy, _, _⟩ => true
  | .call ⟨.builtin .clear, _, _⟩ => true
  | .call ⟨.builtin .delete, _, _⟩ => true
  | .call ⟨.value _, _, _⟩ => true
  | _ => false
def efA : List Oper → Nat → List Nat
  | [], _ => []
  | o :: r, i => cond (effB o.op) (i :: efA r (i + 1)) (efA r (i + 1))
def soB : Op → Bool
  | .move _ | .assign _ | .pick .. | .build .. | .nilCheck _ | .binOp .. | .unOp .. | .convert .. | .fieldAddr .. | .field .. | .extract .. => true
  | .call ⟨.builtin .len, _, _⟩ | .call ⟨.builtin .min, _, _⟩ | .call ⟨.builtin .max, _, _⟩ => true
  | _ => false
def soA : List Oper → Nat → List Nat
  | [], _ => []
  | o :: r, i => cond (soB o.op) (i :: soA r (i + 1)) (soA r (i + 1))
def ordN : Nat → Nat → List Nat
  | 0, _ => []
  | n + 1, i => i :: ordN n (i + 1)
theorem ordN_len : ∀ n i, (ordN n i).length = n
  | 0, _ => rfl
  | n + 1, i => by simp [ordN, ordN_len n]
section
variable {E : Env} {N n0 : Nat} {Q : Exit → St → Prop} {s : St}
theorem awp_loop2 {ι : Type} (σ : ι → St) (I : ι → Prop) (μ : ι → Nat) (i0 : ι) {c : Code} (hI : I i0) (h0 : Imp E N n0 s (σ i0))
    (round : ∀ i, I i → AWp E N n0 c (Then (fun s' => ∃ j, I j ∧ μ j < μ i ∧ Imp E N n0 s' (σ j)) Q) (σ i)) : AWp E N n0 (.loop c) Q s :=
  awp_loop (ι := {i // I i}) (fun i => σ i.1) (fun i => μ i.1) ⟨i0, hI⟩ h0 fun i => awp_mono (round i.1 i.2) fun e s h => by
    cases e with
    | normal => obtain ⟨j, h1, h2, h3⟩ := h; exact ⟨⟨j, h1⟩, h2, h3⟩
    | _ => exact h
theorem wrap_eq {n m : Int} (h : n = m) (h1 : -9223372036854775808 ≤ m) (h2 : m ≤ 9223372036854775807) : IntKind.i64.wrap n = m := by
  subst h; exact wrap_in h1 h2
@[simp] theorem idsL_map {α : Type} {n : Nat} {f : α → AV} {l : List α} (h : ∀ x, IdsLt n (f x)) : IdsLtL n (l.map f) := by
  induction l with
  | nil => trivial
  | cons x l ih => exact ⟨h x, ih⟩
@[simp] theorem u8A_ids {n : Nat} {b : UInt8} : IdsLt n (u8A b) := trivial
theorem st_ixm {α : Type} {f : α → AV} {l : List α} {b : α} {j : Nat} {ρ : Operand → AV} {H : Hp} {K : AV → Hp → Prop} {d : Option Nat} {ty : TypeId} {pos : String} {after : Array Edge} {g : Option (Nat × Bool)}
    {x i : Operand} {t e : TypeId} {k : Nat} {kk : IntKind} {n : Int} (ha : l[j]? = some b) (ht : Nat.blt t E.n = true) (htk : (E.ti t).k = .sl e) (he : Nat.blt e E.n = true)
    (hx : ρ x = .sl k (l.map f)) (hi : ρ i = .int kk n) (hk : Nat.beq (E.ti e).sz k = true) (hk0 : Nat.blt 0 k = true) (hn : n = (j : Int)) (hkn : known (f b) = true) (h : K (.fp (cellsA (f b))) H) :
    AStep E ⟨d, .indexAddr t x i, ty, pos, after, g⟩ ρ H K :=
  st_index_sl ht htk he hx hi hk hk0 (by simp [ha] : (l.map f)[j]? = some (f b)) hn hkn h
theorem st_load_pe {ρ : Operand → AV} {H : Hp} {K : AV → Hp → Prop} {d : Option Nat} {ty : TypeId} {pos : String} {after : Array Edge} {g : Option (Nat × Bool)}
    {t e : TypeId} {x : Operand} {id i : Nat} {es : List AV} {y r : AV} (hp : ρ x = .pe id i 0) (ho : H[id]? = some (some (.arr es e))) (hy : es[i]? = some y) (hkn : known y = true)
    (ht : Nat.blt t E.n = true) (hr : ldA (E.ti t) (cellsA y) = some r) (h : K r H) : AStep E ⟨d, .load t x, ty, pos, after, g⟩ ρ H K :=
  st_load (cs := cellsA y) (by rw [hp]; simp [cellsAt, ho, hy, hkn]) ht hr h
/-- What lies behind the first k objects is dropped, but for those in ids, which move down. -/
theorem imp_tid {sl : List (Nat × AV)} {hp : Hp} (k : Nat) (ids : List Nat) {sl' : List (Nat × AV)} {os : List AO} {H' : Hp} (hk : n0 ≤ k) (hkl : k ≤ hp.length) (hnd : ids.Nodup) (hge : ∀ i ∈ ids, k ≤ i) (hpre : HOk k (hp.take k))
    (hlen : os.length = ids.length) (hH : hp.take k ++ os.map some = H') (hsl : ∀ p ∈ sl', Ren (gcF k ids) (get sl p.1) p.2) (hos : OsOk hp (gcF k ids) ids os) : Imp E N n0 ⟨sl, hp⟩ ⟨sl', H'⟩ :=
  hH ▸ imp_gc (E := E) (N := N) (n0 := n0) (s := ⟨sl, hp⟩) k ids sl' os hk hkl hnd hge hpre hsl hlen hos
theorem ren_lt {k : Nat} {ids : List Nat} {v v' : AV} (h : v = v') (hi : IdsLt k v') : Ren (gcF k ids) v v' := by
  subst h; exact ren_old k gcF_lt hi
theorem imp_cutk {sl sl' : List (Nat × AV)} {hp H0 : Hp} (k : Nat) (hk : n0 ≤ k) (hok : HOk k H0) (hh : hp.take k = H0) (hl : k ≤ hp.length) (hsl : ∀ p ∈ sl', get sl p.1 = p.2 ∧ IdsLt k p.2) : Imp E N n0 ⟨sl, hp⟩ ⟨sl', H0⟩ :=
  imp_tid k [] (os := []) hk hl (by simp) (by simp) (by rw [hh]; exact hok) rfl (by rw [hh]; simp) (fun p hp => ren_lt (hsl p hp).1 (hsl p hp).2) os_nil
theorem awp_mid {Q2 : Exit → St → Prop} {s1 : St} {c c2 : Code} (h1 : AWp E N n0 c (fun e s => e = .normal ∧ Imp E N n0 s s1) s) (h2 : AWp E N n0 c2 Q2 s1) : AWp E N n0 c (Then (AWp E N n0 c2 Q2) Q) s :=
  awp_mono h1 fun e s h => by obtain ⟨rfl, hi⟩ := h; exact awp_pre hi h2
theorem blk_n' {i : Nat} (h : Q .normal s) : InBlk i Q .normal s := h
end
end Go.Abs
namespace Go.Abs
def sh (s q n j : Nat) : Nat := if j < n then j + s else j + s + q
def mapH (f : Nat → Nat) (h : Hp) : Hp := h.map fun o => o.map (rnO f)
theorem ACalls.conv {E : Env} {fn : FuncId} {args args' : List AV} {H H' : Hp} {R R' : AV → Hp → Prop} (h : ACalls E fn args H R) (ha : args = args') (hH : H = H') (k : ∀ r H, R r H → R' r H) : ACalls E fn args' H' R' := by
  subst ha; subst hH; exact h.mono k
@[simp] theorem rnL_map {α : Type} {g : Nat → Nat} {f : α → AV} {l : List α} (h : ∀ x, rnA g (f x) = f x) : rnL g (l.map f) = l.map f := by
  induction l with
  | nil => rfl
  | cons x l ih => simp [rnL, h, ih]
@[simp] theorem rnA_u8 {g : Nat → Nat} {b : UInt8} : rnA g (u8A b) = u8A b := rfl
end Go.Abs
namespace Go.Abs
def ordOk2 (ops : Array Oper) (ef so : List Nat) : List Nat → Array Bool → Bool
  | [], _ => true
  | i :: rest, listed =>
    (if ef.contains i then Region.ready .any ops listed == [i]
     else (Region.ready .any ops listed).contains i && Region.free .any ops listed i && (so.contains i || ef.all fun j => !(Nat.blt j ops.size) || listed.getD j false || reachB ops ops.size j i)) &&
    ordOk2 ops ef so rest (listed.setIfInBounds i true)
def markL : List Nat → Array Bool → Array Bool
  | [], l => l
  | i :: r, l => markL r (l.setIfInBounds i true)
def downB (ops : Array Oper) (listed : Array Bool) : Bool :=
  (List.range ops.size).all fun p => !(listed.getD p false) || match ops[p]? with
    | some o => o.after.toList.all fun e => !(Region.binds .any e) || listed.getD e.on false
    | none => true
theorem down_of {ops : Array Oper} {listed : Array Bool} (h : downB ops listed = true) : Down ops listed := fun p o ho hl e he hb => by
  have hp : p < ops.size := (Array.getElem?_eq_some_iff.1 ho).1
  have h1 := List.all_eq_true.1 h p (by simpa using hp)
  simp only [hl, Bool.not_true, Bool.false_or, ho] at h1
  have h2 := List.all_eq_true.1 h1 e (by simpa using he)
  simpa [hb] using h2
section
variable {E : Env} {ops : Array Oper} {ef so : List Nat} {R : Sf → Hp → Prop} {fuel : Nat}
/-- Of two forms of waiting: those that are listed need not wait. -/
theorem anyM_first2 {i : Nat} {oi : Oper} {v : AV} (hi : ops[i]? = some oi) (hne : ef.contains i = false) :
    ∀ (fuel : Nat) (listed : Array Bool) (σ : Sf) (H : Hp), (so.contains i = true ∨ ∀ j, ef.contains j = true → j < ops.size → listed.getD j false = true ∨ reachB ops ops.size j i = true) → Down ops listed →
      (∀ j oj, ops[j]? = some oj → j ≠ i → listed.getD j true = false → (∀ e ∈ oj.after, Region.binds .any e = true → e.on ≠ i) → oi.apart ops oj = true) →
      i ∈ Region.ready .any ops listed → YieldsM E ops so i oi v σ H →
      anyM E ops ef so R fuel (listed.setIfInBounds i true) (upd oi.dst v σ) H → anyM E ops ef so R (fuel + 1) listed σ H := by
  intro fuel
  induction fuel with
  | zero =>
    intro listed σ H _ hdn _ hr hy h
    refine ⟨fun h0 => (by rw [h0] at hr; cases hr), fun j hj => ?_⟩
    by_cases hji : j = i
    · subst hji; exact hy.mOp hi hne h
    · have := ready_mono hj hji
      rw [h.1] at this
      cases this
  | succ fuel ih =>
    intro listed σ H hwait hdn hfree hr hy h
    refine ⟨fun h0 => (by rw [h0] at hr; cases hr), fun j hj => ?_⟩
    by_cases hji : j = i
    · subst hji; exact hy.mOp hi hne h
    · have h1 := h.2 j (ready_mono hj hji)
      obtain ⟨hjun, oj, hoj, hall⟩ := mem_ready.1 hj
      have hiun := (mem_ready.1 hr).1
      have hnl : listed.getD i false = false := by
        rcases Nat.lt_or_ge i listed.size with h' | h'
        · simpa [h'] using hiun
        · simp [Array.getElem?_eq_none h']
      have hnj : listed.getD j false = false := by
        rcases Nat.lt_or_ge j listed.size with h' | h'
        · simpa [h'] using hjun
        · simp [Array.getElem?_eq_none h']
      have hnot : ∀ e ∈ oj.after, Region.binds .any e = true → e.on ≠ i := fun e he hb heq => by
        have h1 := hall e he hb
        rw [heq, hnl] at h1; cases h1
      have hcond : ef.contains j = true → so.contains i = true := fun he => by
        rcases hwait with hw | hw
        · exact hw
        · rcases hw j he (Array.getElem?_eq_some_iff.1 hoj).1 with h9 | h9
          · rw [hnj] at h9; cases h9
          · have := reach_listed hdn _ j i oj hoj hall h9
            rw [hnl] at this; cases this
      have h2 := mOp_put hoj (hfree j oj hoj hji hjun hnot) hcond hy h1
      have hfree' : ∀ k ok, ops[k]? = some ok → k ≠ i → (listed.setIfInBounds j true).getD k true = false →
          (∀ e ∈ ok.after, Region.binds .any e = true → e.on ≠ i) → oi.apart ops ok = true := fun k ok hk hki hun hno => by
        refine hfree k ok hk hki ?_ hno
        by_cases hjk : j = k
        · subst hjk; exact hjun
        · rw [getD_set_ne true hjk] at hun; exact hun
      have hwait' : so.contains i = true ∨ ∀ k, ef.contains k = true → k < ops.size → (listed.setIfInBounds j true).getD k false = true ∨ reachB ops ops.size k i = true := by
        rcases hwait with hw | hw
        · exact .inl hw
        · refine .inr fun k hk hlt => ?_
          rcases hw k hk hlt with h9 | h9
          · exact .inl (getD_set_true h9)
          · exact .inr h9
      refine mOp_mono (fun σ' H' h3 => ih (listed.setIfInBounds j true) σ' H' hwait' (down_set hdn hj) hfree' (ready_mono hr (Ne.symm hji)) h3.1 ?_) h2
      rw [Array.setIfInBounds_comm _ _ hji]
      exact h3.2
theorem awM_any2 : ∀ (ord : List Nat) (listed : Array Bool) (s : St), ordOk2 ops ef so ord listed = true → Down ops listed →
    awM E ops ef so (fun s' => anyM E ops ef so R fuel (markL ord listed) (get s'.sl) s'.hp) ord s → anyM E ops ef so R (fuel + ord.length) listed (get s.sl) s.hp
  | [], listed, s, _, _, h => by
    obtain ⟨sl', h1, h2⟩ := h
    rw [← h1]; exact h2
  | i :: rest, listed, s, ho, hdn, h => by
    simp only [ordOk2, Bool.and_eq_true] at ho
    obtain ⟨hc, ho⟩ := ho
    simp only [awM] at h
    cases hi : ops[i]? with
    | none => rw [hi] at h; exact h.elim
    | some o =>
      rw [hi] at h
      simp only at h
      have next : ∀ (s' : St), awM E ops ef so (fun s' => anyM E ops ef so R fuel (markL (i :: rest) listed) (get s'.sl) s'.hp) rest s' → i ∈ Region.ready .any ops listed →
          anyM E ops ef so R (fuel + rest.length) (listed.setIfInBounds i true) (get s'.sl) s'.hp := fun s' h hr =>
        awM_any2 rest _ s' ho (down_set hdn hr) h
      show anyM E ops ef so R (fuel + rest.length + 1) listed (get s.sl) s.hp
      by_cases he : ef.contains i = true
      · rw [if_pos he] at hc
        have hr : Region.ready .any ops listed = [i] := by simpa using hc
        have hir : i ∈ Region.ready .any ops listed := by rw [hr]; simp
        refine ⟨fun h0 => (by rw [hr] at h0; cases h0), fun j hj => ?_⟩
        rw [hr] at hj
        simp only [List.mem_singleton] at hj
        subst hj
        unfold mOp
        simp only [hi]
        rw [wantedF_get]
        cases hw : wantedA ops o s.sl with
        | none => rw [hw] at h; exact h.elim
        | some b =>
          rw [hw] at h
          cases b with
          | false =>
            have := next _ h hir
            rw [upd_put] at this
            exact this
          | true =>
            simp only [he, if_true] at h ⊢
            exact astep_mono h fun r H' hk => by
              have := next _ hk hir
              rw [upd_put] at this
              exact this
      · have he' : ef.contains i = false := by simpa using he
        rw [if_neg he] at hc
        simp only [Bool.and_eq_true, Bool.or_eq_true] at hc
        obtain ⟨⟨h1, h2⟩, h3⟩ := hc
        have hir : i ∈ Region.ready .any ops listed := by simpa using h1
        have hwait : so.contains i = true ∨ ∀ j, ef.contains j = true → j < ops.size → listed.getD j false = true ∨ reachB ops ops.size j i = true := by
          rcases h3 with h3 | h3
          · exact .inl h3
          · refine .inr fun j hj hlt => ?_
            have := List.all_eq_true.1 h3 j (by simpa using hj)
            have hb : Nat.blt j ops.size = true := by simpa using hlt
            simpa [hb] using this
        cases hw : wantedA ops o s.sl with
        | none => rw [hw] at h; exact h.elim
        | some b =>
          rw [hw] at h
          cases b with
          | false =>
            have := next _ h hir
            rw [upd_put] at this
            exact anyM_first2 hi he' _ listed _ _ hwait hdn (Region.free_spec hi h2) hir (.inr ⟨by rw [wantedF_get]; exact hw, rfl⟩) this
          | true =>
            simp only [he', Bool.false_eq_true, if_false] at h
            split at h
            · rename_i hs
              obtain ⟨v, h4, h5⟩ := h
              have := next _ h5 hir
              rw [upd_put] at this
              exact anyM_first2 hi he' _ listed _ _ hwait hdn (Region.free_spec hi h2) hir (.inl ⟨by rw [wantedF_get]; exact hw, by rw [if_pos hs]; exact h4⟩) this
            · rename_i hs
              obtain ⟨v, h4, h5⟩ := h
              have := next _ h5 hir
              rw [upd_put] at this
              exact anyM_first2 hi he' _ listed _ _ hwait hdn (Region.free_spec hi h2) hir (.inl ⟨by rw [wantedF_get]; exact hw, by rw [if_neg hs]; exact h4⟩) this
/-- A stretch in an order of one's own. -/
theorem any_lin (ord : List Nat) {listed : Array Bool} {sl : List (Nat × AV)} {hp : Hp} {n : Nat} (hn : Nat.beq n (fuel + ord.length) = true) (ho : ordOk2 ops ef so ord listed = true) (hd : downB ops listed = true)
    (h : awM E ops ef so (fun s' => anyM E ops ef so R fuel (markL ord listed) (get s'.sl) s'.hp) ord ⟨sl, hp⟩) : anyM E ops ef so R n listed (get sl) hp := by
  rw [Nat.eq_of_beq_eq_true hn]
  exact awM_any2 ord listed ⟨sl, hp⟩ ho (down_of hd) h
theorem any_end {K : St → Prop} {listed : Array Bool} {sl : List (Nat × AV)} {hp : Hp} (hr : (Region.ready .any ops listed).isEmpty = true) (h : K ⟨sl, hp⟩) : anyM E ops ef so (RofK K) 0 listed (get sl) hp :=
  ⟨by simpa using hr, sl, rfl, h⟩
variable {op : Op} {ty : TypeId} {pos : String} {after : Array Edge} {g : Option (Nat × Bool)}
end
section
variable {E : Env} {N n0 : Nat} {Q : Exit → St → Prop}
theorem awp_region_any {id : Nat} {l : List Oper} {sl : List (Nat × AV)} {hp : Hp} (ef so : List Nat) (hd : dstOk N l = true)
    (h : anyM E l.toArray ef so (RofK (Q .normal)) l.length (Array.replicate l.length false) (get sl) hp) : AWp E N n0 (.region id l.toArray true) Q ⟨sl, hp⟩ := by
  intro m0 w0 _ m w a he hs
  have hsF : SRelF E N m { w with drawn := w.drawn + 1 } (get sl) hp a := by
    have e := Ext.drew m w
    exact ⟨hs.ok, fun k => (hs.slots k).ext e, hs.size, hs.defers, hs.sim.drew, fun g => (hs.glob g).ext e⟩
  refine wp_region_any hs.ok.1 ?_
  have h2 := anyM_sound (Q' := Lift E N m0 w0 Q) (m0 := m0) (w0 := w0) (by simpa using hd) (fun m w σ H a he hs hR => by
    obtain ⟨sl, rfl, hq⟩ := hR
    exact ⟨m, ⟨sl, H⟩, he, ⟨hs.ok, hs.slots, hs.size, hs.defers, hs.sim, hs.glob⟩, hq⟩) _ _ _ _ _ _ _ (he.trans (Ext.drew m w)) hsF h
  simpa using h2
/-- In the order of the text. -/
theorem awp_region_auto2 {id : Nat} {l : List Oper} {sl : List (Nat × AV)} {hp : Hp} (ef so : List Nat) (hd : dstOk N l = true)
    (hord : (ordOk2 l.toArray ef so (ordN l.length 0) (Array.replicate l.length false) && downB l.toArray (Array.replicate l.length false) && (Region.ready .any l.toArray (markL (ordN l.length 0) (Array.replicate l.length false))).isEmpty) = true)
    (h : awM E l.toArray ef so (Q .normal) (ordN l.length 0) ⟨sl, hp⟩) : AWp E N n0 (.region id l.toArray true) Q ⟨sl, hp⟩ := by
  simp only [Bool.and_eq_true] at hord
  refine awp_region_any ef so hd (any_lin (fuel := 0) (ordN l.length 0) (by rw [ordN_len, Nat.zero_add]; exact Nat.beq_refl _) hord.1.1 hord.1.2 ?_)
  have mono : ∀ (ord : List Nat) (s : St), awM E l.toArray ef so (Q .normal) ord s → awM E l.toArray ef so (fun s' => anyM E l.toArray ef so (RofK (Q .normal)) 0 (markL (ordN l.length 0) (Array.replicate l.length false)) (get s'.sl) s'.hp) ord s := by
    intro ord
    induction ord with
    | nil => rintro s ⟨sl', h1, h2⟩; exact ⟨sl', h1, any_end hord.2 h2⟩
    | cons i rest ih =>
      intro s h
      simp only [awM] at h ⊢
      split
      · rename_i h0; rw [h0] at h; exact h
      · rename_i o h0
        rw [h0] at h
        simp only at h
        split
        · rename_i h1; rw [h1] at h; exact h
        · rename_i h1; rw [h1] at h; exact ih _ h
        · rename_i h1
          rw [h1] at h
          simp only at h
          split
          · rename_i h2; rw [if_pos h2] at h; exact astep_mono h fun _ _ h => ih _ h
          · rename_i h2
            rw [if_neg h2] at h
            split
            · rename_i h3; rw [if_pos h3] at h; obtain ⟨v, h4, h5⟩ := h; exact ⟨v, h4, ih _ h5⟩
            · rename_i h3; rw [if_neg h3] at h; obtain ⟨v, h4, h5⟩ := h; exact ⟨v, h4, ih _ h5⟩
  exact mono _ _ h
end
theorem nxs {k : AV → Hp → Prop} {r r2 : AV} {H : Hp} (h1 : nv r = some r2) (h : k r2 H) : Nx k r H := ⟨r2, H, h1, nh_self H, h⟩
section
variable {E : Env} {ops : Array Oper} {ef so : List Nat} {K : St → Prop} {i : Nat} {rest : List Nat} {sl : List (Nat × AV)} {hp : Hp}
variable {op : Op} {ty : TypeId} {pos : String} {after : Array Edge} {g : Option (Nat × Bool)} {d : Nat}
theorem ds_soN (hi : ops[i]? = some ⟨some d, op, ty, pos, after, g⟩) (hw : wantedA ops ⟨some d, op, ty, pos, after, g⟩ sl = some true) (he : ef.contains i = false) (hs : so.contains i = true)
    {v : AV} (h : ∀ H, AStep E ⟨some d, op, ty, pos, after, g⟩ (evF E (tsOf ⟨some d, op, ty, pos, after, g⟩) (get sl)) H (Nx fun r H' => r = v ∧ H' = H)) (h2 : awM E ops ef so K rest ⟨(d, v) :: sl, hp⟩) : awM E ops ef so K (i :: rest) ⟨sl, hp⟩ :=
  ds_so hi hw he hs (fun H => astep_mono (h H) fun _ _ h => nx_id (k := fun r H' => r = v ∧ H' = H) h) h2
end
theorem st_mko {E : Env} {H : Hp} {K : AV → Hp → Prop} {ρ : Operand → AV} {d : Option Nat} {ty : TypeId} {pos : String} {after : Array Edge} {g : Option (Nat × Bool)}
    {t e : TypeId} {x y : Operand} {z : List AV} {kl kc : IntKind} {nl nc : Int} {n : Nat} {el : AV} (hel : one1 z (E.ti e).k.agg = el) (hnl : nl = (n : Int)) (hnc : nc = (n : Int)) (hb : (E.ti e).bt * n ≤ 281474976710656) (hm : n ≤ maxLen)
    (ht : Nat.blt t E.n = true) (hk : (E.ti t).k = .sl e) (he : Nat.blt e E.n = true) (hz : (E.ti e).z = some z)
    (hzl : Nat.beq z.length (E.ti e).sz = true) (hz0 : Nat.blt 0 (E.ti e).sz = true) (hag : (E.ti e).k.agg = true ∨ Nat.beq (E.ti e).sz 1 = true) (hone : (E.ti e).k.agg = true ∨ z.all oneA = true) (hx : ρ x = .int kl nl) (hy : ρ y = .int kc nc)
    (h : K (.own H.length 0 n) (H ++ [some (.arr (List.replicate n el) e)])) : AStep E ⟨d, .makeSlice t x y, ty, pos, after, g⟩ ρ H K :=
  st_make_own ht hk he hz hzl hz0 hag hone hx hy hnl hnc (Nat.le_refl _) hb hm (by rw [hel]; exact h)
@[simp] theorem idsL_rep {n k : Nat} {x : AV} (h : IdsLt n x) : IdsLtL n (List.replicate k x) := by
  induction k with
  | zero => trivial
  | succ k ih => exact ⟨h, ih⟩
/-- Is it known that the operation runs? -/
theorem aops_known {E : Env} {ops : Array Oper} {o : Oper} {rest : List Oper} {K : St → Prop} {sl : List (Nat × AV)} {hp : Hp} (_ : wantedA ops o sl = some true) (h : aops E ops (o :: rest) K ⟨sl, hp⟩) : aops E ops (o :: rest) K ⟨sl, hp⟩ := h
end Go.Abs
namespace Go.Abs
theorem Q0 : type_of% @st_move := @st_move
theorem Q1 : type_of% @st_assign := @st_assign
theorem Q2 : type_of% @st_bin := @st_bin
theorem Q3 : type_of% @st_load := @st_load
theorem Q4 : type_of% @st_fieldAddr := @st_fieldAddr
theorem Q5 : type_of% @st_pick := @st_pick
theorem Q7 : type_of% @st_len_sl := @st_len_sl
theorem Q8 : type_of% @st_len_str := @st_len_str
theorem QA : type_of% @st_quo := @st_quo
theorem QB : type_of% @st_rem := @st_rem
theorem QC : type_of% @st_extract := @st_extract
theorem QD : type_of% @st_un := @st_un
theorem QE : type_of% @st_min := @st_min
theorem QG : type_of% @st_conv := @st_conv
theorem QH : type_of% @st_eql := @st_eql
theorem QI : type_of% @st_neq := @st_neq
theorem QJ : type_of% @st_alloc := @st_alloc
theorem QK : type_of% @st_box := @st_box
theorem QN : type_of% @st_makeFunc := @st_makeFunc
theorem QP : type_of% @st_bld := @st_bld
theorem QQ {E : Env} {H : Hp} {K : AV → Hp → Prop} {ρ : Operand → AV} {d : Option Nat} {ty : TypeId} {pos : String} {after : Array Edge} {g : Option (Nat × Bool)}
    {t e : TypeId} {len k : Nat} {parts : Array (Nat × Operand)} {z cs es : List AV} (ht : Nat.blt t E.n = true) (hk : (E.ti t).k = .sl e) (he : Nat.blt e E.n = true) (hz : (E.ti e).z = some z)
    (hzl : Nat.beq z.length (E.ti e).sz = true) (hz0 : Nat.blt 0 (E.ti e).sz = true) (hlim : Nat.ble (len * (E.ti e).sz) 16777216 = true) (hag : (E.ti e).k.agg = true)
    (hf : fillA (slPlace (E.ti e).sz) ρ parts.toList (rep z len) = some cs)
    (hsz : nn (E.ti e).sz = some k) (hav : n2 (avals (E.ti e).k.agg (E.ti e).sz len cs) = some es) (h : K (.sl k es) H) :
    AStep E ⟨d, .buildSlice t len parts, ty, pos, after, g⟩ ρ H K := st_bsl ht hk he hz hzl hz0 hlim (.inl hag) hf (.inl hag) hsz hav h
theorem QR {E : Env} {H : Hp} {K : AV → Hp → Prop} {ρ : Operand → AV} {d : Option Nat} {ty : TypeId} {pos : String} {after : Array Edge} {g : Option (Nat × Bool)}
    {t e : TypeId} {len k : Nat} {parts : Array (Nat × Operand)} {z cs es : List AV} (ht : Nat.blt t E.n = true) (hk : (E.ti t).k = .sl e) (he : Nat.blt e E.n = true) (hz : (E.ti e).z = some z)
    (hzl : Nat.beq z.length (E.ti e).sz = true) (hz0 : Nat.blt 0 (E.ti e).sz = true) (hlim : Nat.ble (len * (E.ti e).sz) 16777216 = true) (hag : Nat.beq (E.ti e).sz 1 = true)
    (hf : fillA (slPlace (E.ti e).sz) ρ parts.toList (rep z len) = some cs) (hone : cs.all oneA = true)
    (hsz : nn (E.ti e).sz = some k) (hav : n2 (avals (E.ti e).k.agg (E.ti e).sz len cs) = some es) (h : K (.sl k es) H) :
    AStep E ⟨d, .buildSlice t len parts, ty, pos, after, g⟩ ρ H K := st_bsl ht hk he hz hzl hz0 hlim (.inr hag) hf (.inr hone) hsz hav h
theorem QS : type_of% @st_store_ptr := @st_store_ptr
theorem Qa : type_of% @bs := @bs
theorem Qb : type_of% @bs0 := @bs0
theorem Qc : type_of% @ds_ef := @ds_ef
theorem Qd : type_of% @ds := @ds
theorem Qe : type_of% @ds_soN := @ds_soN
theorem Qf : type_of% @ds_ef0 := @ds_ef0
theorem Qh : type_of% @aops_nil := @aops_nil
theorem Qi : type_of% @bskip := @bskip
theorem Qk : type_of% @ds_nil := @ds_nil
theorem Ql : type_of% @awp_seq := @awp_seq
theorem Qm : type_of% @awp_skip := @awp_skip
theorem Qn : type_of% @awp_block := @awp_block
theorem Qo : type_of% @awp_region := @awp_region
theorem Qp : type_of% @awp_cond_true := @awp_cond_true
theorem Qq : type_of% @awp_cond_false := @awp_cond_false
theorem Qr : type_of% @awp_exit := @awp_exit
theorem Qs : type_of% @then_i := @then_i
theorem Qt : type_of% @then_x := @then_x
theorem Qu : type_of% @blk_n' := @blk_n'
theorem Qv : type_of% @blk_x := @blk_x
theorem Qw : type_of% @any_end := @any_end
theorem Qy : type_of% @bguard := @bguard
theorem QV : type_of% @aops_known := @aops_known
theorem QX : type_of% @nx := @nx
theorem QY : type_of% @nxs := @nxs
end Go.Abs

