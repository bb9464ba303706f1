/- Regions that draw their order. -/
import Derived.Test.YtfldnfchjaaoeaaA9
namespace Go.Abs
section
variable {E : Env} {N n0 : Nat} {Q : Exit → St → Prop} {s : St}

abbrev Sf := Nat → AV
def upd (d : Option Nat) (v : AV) (σ : Sf) : Sf := match d with
  | some d => fun k => if d = k then v else σ k
  | none => σ
theorem upd_put {d : Option Nat} {v : AV} {sl : List (Nat × AV)} : get (put d v sl) = upd d v (get sl) := by
  funext k
  rw [get_put]
  cases d <;> simp [upd]
theorem upd_comm {d d' : Option Nat} {v v' : AV} {σ : Sf} (h : ∀ k, d = some k → d' ≠ some k) : upd d v (upd d' v' σ) = upd d' v' (upd d v σ) := by
  cases d with
  | none => rfl
  | some d =>
    cases d' with
    | none => rfl
    | some d' =>
      have hne : d' ≠ d := fun e => h d rfl (by rw [e])
      funext k
      simp only [upd]
      by_cases h1 : d = k <;> by_cases h2 : d' = k <;> simp [h1, h2]
      omega
def tsOf (o : Oper) : List Nat := o.op.operands.toList.filterMap fun | .tmp t => some t | _ => none
def evF (E : Env) (ts : List Nat) (σ : Sf) : Operand → AV
  | .tmp t => cond (ts.contains t) (σ t) .any
  | .const v => ofV v
  | .global g => E.G g
  | .func f => .clo (.func f) [] []
def wantedF (ops : Array Oper) (o : Oper) (σ : Sf) : Option Bool :=
  match o.guard with
  | none => some true
  | some (j, want) => match (ops[j]?).bind (·.dst) with
    | none => some false
    | some d => match σ d with
      | .bool b => some (b == want)
      | .tup [] => some false
      | _ => none
theorem wantedF_get {ops : Array Oper} {o : Oper} {sl : List (Nat × AV)} : wantedF ops o (get sl) = wantedA ops o sl := rfl

theorem evF_upd {o : Oper} {ops : Array Oper} {d : Option Nat} {v : AV} {σ : Sf} (h : ∀ k, d = some k → k ∉ o.looksAt ops) : evF E (tsOf o) (upd d v σ) = evF E (tsOf o) σ := by
  funext x
  cases x with
  | tmp t =>
    simp only [evF]
    cases hc : (tsOf o).contains t with
    | false => rfl
    | true =>
      cases d with
      | none => rfl
      | some d =>
        have hm : t ∈ tsOf o := by simpa using hc
        have hne : d ≠ t := fun e => h d rfl (by subst e; exact List.mem_append_left _ hm)
        simp [upd, hne]
  | _ => rfl
theorem wantedF_upd {o : Oper} {ops : Array Oper} {d : Option Nat} {v : AV} {σ : Sf} (h : ∀ k, d = some k → k ∉ o.looksAt ops) : wantedF ops o (upd d v σ) = wantedF ops o σ := by
  unfold wantedF
  cases hg : o.guard with
  | none => rfl
  | some gw =>
    obtain ⟨j, want⟩ := gw
    cases hd : (ops[j]?).bind (·.dst) with
    | none => simp only [hd]
    | some d2 =>
      cases d with
      | none => rfl
      | some d =>
        have hne : d ≠ d2 := fun e => h d rfl (by subst e; simp [Oper.looksAt, hg, hd])
        have e2 : upd (some d) v σ d2 = σ d2 := by simp [upd, hne]
        simp only [hd, e2]

theorem astep_mono {o : Oper} {ρ : Operand → AV} {H : Hp} {K K' : AV → Hp → Prop} (h : AStep E o ρ H K) (k : ∀ r H', K r H' → K' r H') : AStep E o ρ H K' := fun m w a h1 h2 h3 h4 Q =>
  Oper.wp_mono (fun _ _ ⟨v', h0, m', r, H', a1, a2, a3, a4⟩ => ⟨v', h0, m', r, H', a1, a2, a3, k _ _ a4⟩) (h m w a h1 h2 h3 h4 Q)

/-- One operation of a region that draws: 'ef' lists those that change the heap, 'so' those that do not look at it. -/
def mOp (E : Env) (ops : Array Oper) (ef so : List Nat) (i : Nat) (K : Sf → Hp → Prop) (σ : Sf) (H : Hp) : Prop :=
  match ops[i]? with
  | none => False
  | some o =>
    match wantedF ops o σ with
    | none => False
    | some false => K (upd o.dst (.tup []) σ) H
    | some true =>
      if ef.contains i then AStep E o (evF E (tsOf o) σ) H (fun r H' => K (upd o.dst r σ) H')
      else if so.contains i then ∃ v, (∀ H, AStep E o (evF E (tsOf o) σ) H (fun r H' => r = v ∧ H' = H)) ∧ K (upd o.dst v σ) H
      else ∃ v, AStep E o (evF E (tsOf o) σ) H (fun r H' => r = v ∧ H' = H) ∧ K (upd o.dst v σ) H
theorem mOp_mono {ops : Array Oper} {ef so : List Nat} {i : Nat} {K K' : Sf → Hp → Prop} {σ : Sf} {H : Hp} (k : ∀ σ H, K σ H → K' σ H) (h : mOp E ops ef so i K σ H) : mOp E ops ef so i K' σ H := by
  unfold mOp at *
  split
  · rename_i ho; simp only [ho] at h
  · rename_i o ho
    simp only [ho] at h
    split
    · rename_i hw; simp only [hw] at h
    · rename_i hw; simp only [hw] at h; exact k _ _ h
    · rename_i hw
      simp only [hw] at h
      split
      · rename_i he; rw [if_pos he] at h; exact astep_mono h fun _ _ => k _ _
      · rename_i he
        rw [if_neg he] at h
        split
        · rename_i hs; rw [if_pos hs] at h; obtain ⟨v, h1, h2⟩ := h; exact ⟨v, h1, k _ _ h2⟩
        · rename_i hs; rw [if_neg hs] at h; obtain ⟨v, h1, h2⟩ := h; exact ⟨v, h1, k _ _ h2⟩
def anyM (E : Env) (ops : Array Oper) (ef so : List Nat) (R : Sf → Hp → Prop) : Nat → Array Bool → Sf → Hp → Prop
  | 0, listed, σ, H => Region.ready .any ops listed = [] ∧ R σ H
  | fuel + 1, listed, σ, H => (Region.ready .any ops listed = [] → R σ H) ∧ ∀ i ∈ Region.ready .any ops listed, mOp E ops ef so i (anyM E ops ef so R fuel (listed.setIfInBounds i true)) σ H

structure SRelF (E : Env) (N : Nat) (m : Mu) (w : World) (σ : Sf) (H : Hp) (a : Act) : Prop where
  ok : E.Ok
  slots : ∀ k, E.Rel m w (σ k) (a.tmps.getD k undef)
  size : a.tmps.size = N
  defers : a.defers = []
  sim : E.Sim m w H
  glob : ∀ g, E.Rel m w (E.G g) (.pointer (some ⟨g, 0, none⟩))
theorem SRelF.put {m : Mu} {w : World} {σ : Sf} {H : Hp} {a : Act} (h : SRelF E N m w σ H a) {m' : Mu} {w' : World} (he : Ext m w m' w') {d : Option Nat} (hd : ∀ k, d = some k → k < N) {r : AV} {v : Value}
    (hr : E.Rel m' w' r v) {H' : Hp} (hH : E.Sim m' w' H') : SRelF E N m' w' (upd d r σ) H' (a.put d v) := by
  refine ⟨h.ok, fun k => ?_, ?_, ?_, hH, fun g => (h.glob g).ext he⟩
  · by_cases hk : d = some k
    · subst hk
      have hlt : k < a.tmps.size := by rw [h.size]; exact hd k rfl
      have : (a.put (some k) v).tmps.getD k undef = v := by simp [Act.put, hlt]
      rw [this]; simpa [upd] using hr
    · have : (a.put d v).tmps.getD k undef = a.tmps.getD k undef := by
        cases d with
        | none => rfl
        | some j =>
          have hne : j ≠ k := fun e => hk (by rw [e])
          simp [Act.put, Array.getElem?_setIfInBounds_ne hne]
      rw [this]
      have h2 : upd d r σ k = σ k := by
        cases d with
        | none => rfl
        | some j =>
          have hne : j ≠ k := fun e => hk (by rw [e])
          simp [upd, hne]
      rw [h2]; exact (h.slots k).ext he
  · cases d <;> simp [Act.put, h.size]
  · cases d <;> simp [Act.put, h.defers]
theorem wantedF_of {ops : Array Oper} {o : Oper} {m : Mu} {w : World} {σ : Sf} {H : Hp} {a : Act} {b : Bool} (h : SRelF E N m w σ H a) (hw : wantedF ops o σ = some b) : Region.wanted o (yielded ops a.tmps) = b := by
  -- by the law for lists of slots, at the one slot that is looked at
  cases hg : o.guard with
  | none => simp [wantedF, hg] at hw; simp [Region.wanted, hg, hw]
  | some gw =>
    obtain ⟨j, want⟩ := gw
    cases hd : (ops[j]?).bind (·.dst) with
    | none => simp [wantedF, hg, hd] at hw; subst hw; simp [Region.wanted, hg, yielded, hd]
    | some d =>
      have hs : SRel E N m w ⟨[(d, σ d)], H⟩ a := ⟨h.ok, fun k => by
        show Abs.Rel E.cx m w (get [(d, σ d)] k) _
        rw [get_cons]
        split
        · rename_i e; subst e; exact h.slots d
        · simp [get, Abs.Rel], h.size, h.defers, h.sim, h.glob⟩
      refine wanted_of hs ?_
      simp only [wantedF, hg, hd] at hw
      simp only [wantedA, hg, hd, get_cons, if_true]
      exact hw
theorem evF_rel {m : Mu} {w : World} {σ : Sf} {H : Hp} {a : Act} (h : SRelF E N m w σ H a) (ts : List Nat) (x : Operand) : E.Rel m w (evF E ts σ x) (a.eval x) := by
  cases x with
  | tmp t =>
    simp only [evF]
    cases ts.contains t with
    | true => exact h.slots t
    | false => show Abs.Rel _ _ _ _ _; simp [Abs.Rel]
  | const v => exact rel_ofV v
  | global g => exact h.glob g
  | func f =>
    show Abs.Rel E.cx m w (.clo (.func f) [] []) (.func (.func f) #[] #[])
    simp [Abs.Rel, Abs.RelL]

theorem mOp_sound {ops : Array Oper} {ef so : List Nat} {i : Nat} {K : Sf → Hp → Prop} {σ : Sf} {H : Hp} {m : Mu} {w : World} {a : Act} (hd : dstOk N ops.toList = true) (hs : SRelF E N m w σ H a) (h : mOp E ops ef so i K σ H)
    {K' : Act → World → Prop} {Q' : Exit → Act → World → Prop} (hK : ∀ m' w' σ' H' a', Ext m w m' w' → SRelF E N m' w' σ' H' a' → K σ' H' → K' a' w') : wpOp E.P ops Q' i K' a w := by
  unfold mOp at h
  unfold wpOp
  cases ho : ops[i]? with
  | none => simp only [ho] at h
  | some o =>
    simp only [ho] at h ⊢
    have hd1 : ∀ k, o.dst = some k → k < N := fun k hk => by
      have h1 := List.all_eq_true.1 hd o (Array.mem_toList_iff.2 (Array.mem_of_getElem? ho))
      rw [hk] at h1; simpa using h1
    have fin : ∀ {K2 : AV → Hp → Prop}, AStep E o (evF E (tsOf o) σ) H K2 → (∀ r H', K2 r H' → K (upd o.dst r σ) H') → o.wp E.P a w K' Q' := fun hst hk => by
      refine Oper.wp_mono ?_ (hst m w a hs.ok (evF_rel hs _) hs.sim hs.defers Q')
      rintro a' w' ⟨v', rfl, m', r, H', h1, h2, h3, h4⟩
      exact hK m' w' _ _ _ h1 (hs.put h1 hd1 h2 h3) (hk _ _ h4)
    cases hw : wantedF ops o σ with
    | none => rw [hw] at h; exact h.elim
    | some b =>
      rw [hw] at h
      rw [wantedF_of hs hw]
      cases b with
      | false =>
        simp only [Bool.false_eq_true, if_false]
        exact hK m w _ _ _ (Ext.refl m w) (hs.put (Ext.refl m w) hd1 rel_undef hs.sim) h
      | true =>
        simp only [if_true]
        left
        simp only at h
        split at h
        · exact fin h fun _ _ h => h
        · split at h
          · obtain ⟨v, h1, h2⟩ := h; exact fin (h1 H) fun r H' ⟨e1, e2⟩ => by subst e1; subst e2; exact h2
          · obtain ⟨v, h1, h2⟩ := h; exact fin h1 fun r H' ⟨e1, e2⟩ => by subst e1; subst e2; exact h2
theorem anyM_sound {ops : Array Oper} {ef so : List Nat} {R : Sf → Hp → Prop} {Q' : Exit → Act → World → Prop} (hd : dstOk N ops.toList = true) {m0 : Mu} {w0 : World}
    (hR : ∀ m w σ H a, Ext m0 w0 m w → SRelF E N m w σ H a → R σ H → Q' .normal a w) : ∀ (fuel : Nat) (listed : Array Bool) (σ : Sf) (H : Hp) (m : Mu) (w : World) (a : Act), Ext m0 w0 m w → SRelF E N m w σ H a →
    anyM E ops ef so R fuel listed σ H → wpAny E.P .any ops Q' fuel listed a w
  | 0, _, _, _, m, w, a, he, hs, h => ⟨h.1, hR m w _ _ a he hs h.2⟩
  | fuel + 1, _, _, _, m, w, a, he, hs, h => ⟨fun h0 => hR m w _ _ a he hs (h.1 h0), fun i hi =>
      mOp_sound hd hs (h.2 i hi) fun m' w' σ' H' a' he' hs' hk => anyM_sound hd hR fuel _ σ' H' m' w' a' (he.trans he') hs' hk⟩

/-! Which operation waits for which -/
def reachB (ops : Array Oper) : Nat → Nat → Nat → Bool
  | 0, _, _ => false
  | f + 1, i, x => match ops[i]? with
    | some o => o.after.any fun e => Region.binds .any e && (e.on == x || reachB ops f e.on x)
    | none => false
def Down (ops : Array Oper) (listed : Array Bool) : Prop := ∀ p o, ops[p]? = some o → listed.getD p false = true → ∀ e ∈ o.after, Region.binds .any e = true → listed.getD e.on false = true
theorem reach_listed {ops : Array Oper} {listed : Array Bool} (hd : Down ops listed) : ∀ (f i x : Nat) (o : Oper), ops[i]? = some o → (∀ e ∈ o.after, Region.binds .any e = true → listed.getD e.on false = true) → reachB ops f i x = true → listed.getD x false = true
  | 0, _, _, _, _, _, h => by simp [reachB] at h
  | f + 1, i, x, o, ho, ha, h => by
    simp only [reachB, ho] at h
    obtain ⟨e, he, hb⟩ := Array.any_eq_true'.1 h
    simp only [Bool.and_eq_true, Bool.or_eq_true, beq_iff_eq] at hb
    have hl := ha e he hb.1
    rcases hb.2 with h2 | h2
    · rw [← h2]; exact hl
    · cases hq : ops[e.on]? with
      | none =>
        cases f with
        | zero => simp [reachB] at h2
        | succ f => simp [reachB, hq] at h2
      | some o2 => exact reach_listed hd f e.on x o2 hq (hd _ _ hq hl) h2
theorem down_set {ops : Array Oper} {listed : Array Bool} {i : Nat} (hd : Down ops listed) (hi : i ∈ Region.ready .any ops listed) : Down ops (listed.setIfInBounds i true) := by
  intro p o ho hl e he hb
  obtain ⟨_, oi, hoi, hall⟩ := mem_ready.1 hi
  by_cases hpi : p = i
  · subst hpi
    rw [ho] at hoi; cases hoi
    exact getD_set_true (hall e he hb)
  · rw [getD_set_ne false (Ne.symm hpi)] at hl
    exact getD_set_true (hd p o ho hl e he hb)

/-- It yields v, now and whatever the others do that may come before it. -/
def YieldsM (E : Env) (ops : Array Oper) (so : List Nat) (i : Nat) (o : Oper) (v : AV) (σ : Sf) (H : Hp) : Prop :=
  (wantedF ops o σ = some true ∧ (if so.contains i then ∀ H, AStep E o (evF E (tsOf o) σ) H (fun r H' => r = v ∧ H' = H) else AStep E o (evF E (tsOf o) σ) H (fun r H' => r = v ∧ H' = H))) ∨ (wantedF ops o σ = some false ∧ v = .tup [])
theorem YieldsM.mOp {ops : Array Oper} {ef so : List Nat} {i : Nat} {o : Oper} {v : AV} {σ : Sf} {H : Hp} (hi : ops[i]? = some o) (hne : ef.contains i = false) (hy : YieldsM E ops so i o v σ H) {K : Sf → Hp → Prop} (h : K (upd o.dst v σ) H) :
    mOp E ops ef so i K σ H := by
  unfold Abs.mOp
  simp only [hi]
  rcases hy with ⟨hw, hv⟩ | ⟨hw, rfl⟩
  · simp only [hw, hne, Bool.false_eq_true, if_false]
    split
    · rename_i hs; rw [if_pos hs] at hv; exact ⟨v, hv, h⟩
    · rename_i hs; rw [if_neg hs] at hv; exact ⟨v, hv, h⟩
  · simp only [hw]; exact h
theorem mOp_put {ops : Array Oper} {ef so : List Nat} {i j : Nat} {oi oj : Oper} {v : AV} (hj : ops[j]? = some oj) (hap : oi.apart ops oj = true) (hcond : ef.contains j = true → so.contains i = true) {K : Sf → Hp → Prop} {σ : Sf} {H : Hp}
    (hy : YieldsM E ops so i oi v σ H) (h : mOp E ops ef so j K (upd oi.dst v σ) H) : mOp E ops ef so j (fun σ' H' => YieldsM E ops so i oi v σ' H' ∧ K (upd oi.dst v σ') H') σ H := by
  obtain ⟨h1, h2, h3⟩ := Oper.apart_spec hap
  have keep : ∀ u, ∀ H', (so.contains i = true ∨ H' = H) → YieldsM E ops so i oi v (upd oj.dst u σ) H' := fun u H' hH => by
    unfold YieldsM at *
    rw [wantedF_upd h3, evF_upd (E := E) h3]
    rcases hy with ⟨hw, hv⟩ | hy
    · refine .inl ⟨hw, ?_⟩
      split
      · rename_i hs; rw [if_pos hs] at hv; exact hv
      · rename_i hs
        rw [if_neg hs] at hv
        rcases hH with hH | rfl
        · exact absurd hH hs
        · exact hv
    · exact .inr hy
  have comm : ∀ u, upd oj.dst u (upd oi.dst v σ) = upd oi.dst v (upd oj.dst u σ) := fun u => (upd_comm h2).symm
  unfold mOp at *
  simp only [hj] at *
  rw [wantedF_upd h1, evF_upd (E := E) h1] at h
  split
  · rename_i hw; rw [hw] at h; exact h
  · rename_i hw; rw [hw] at h; exact ⟨keep _ H (.inr rfl), by rw [← comm]; exact h⟩
  · rename_i hw
    rw [hw] at h
    simp only at h
    split
    · rename_i he
      rw [if_pos he] at h
      exact astep_mono h fun r H' hk => ⟨keep _ H' (.inl (hcond he)), by rw [← comm]; exact hk⟩
    · rename_i he
      rw [if_neg he] at h
      split
      · rename_i hs; rw [if_pos hs] at h; obtain ⟨u, h4, h5⟩ := h; exact ⟨u, h4, keep _ H (.inr rfl), by rw [← comm]; exact h5⟩
      · rename_i hs; rw [if_neg hs] at h; obtain ⟨u, h4, h5⟩ := h; exact ⟨u, h4, keep _ H (.inr rfl), by rw [← comm]; exact h5⟩

theorem anyM_first {ops : Array Oper} {ef so : List Nat} {R : Sf → Hp → Prop} {i : Nat} {oi : Oper} {v : AV} (hi : ops[i]? = some oi) (hne : ef.contains i = false)
    (hwait : so.contains i = true ∨ ∀ j, ef.contains j = true → j < ops.size → reachB ops ops.size j i = true) :
    ∀ (fuel : Nat) (listed : Array Bool) (σ : Sf) (H : Hp), Down ops listed →
      (∀ j oj, ops[j]? = some oj → j ≠ i → listed.getD j true = false → (∀ e ∈ oj.after, Region.binds .any e = true → e.on ≠ i) → oi.apart ops oj = true) →
      i ∈ Region.ready .any ops listed → YieldsM E ops so i oi v σ H →
      anyM E ops ef so R fuel (listed.setIfInBounds i true) (upd oi.dst v σ) H → anyM E ops ef so R (fuel + 1) listed σ H := by
  intro fuel
  induction fuel with
  | zero =>
    intro listed σ H hdn _ hr hy h
    refine ⟨fun h0 => (by rw [h0] at hr; cases hr), fun j hj => ?_⟩
    by_cases hji : j = i
    · subst hji; exact hy.mOp hi hne h
    · have := ready_mono hj hji
      rw [h.1] at this
      cases this
  | succ fuel ih =>
    intro listed σ H hdn hfree hr hy h
    refine ⟨fun h0 => (by rw [h0] at hr; cases hr), fun j hj => ?_⟩
    by_cases hji : j = i
    · subst hji; exact hy.mOp hi hne h
    · have h1 := h.2 j (ready_mono hj hji)
      obtain ⟨hjun, oj, hoj, hall⟩ := mem_ready.1 hj
      have hiun := (mem_ready.1 hr).1
      have hnl : listed.getD i false = false := by
        rcases Nat.lt_or_ge i listed.size with h' | h'
        · simpa [h'] using hiun
        · simp [Array.getElem?_eq_none h']
      have hnot : ∀ e ∈ oj.after, Region.binds .any e = true → e.on ≠ i := fun e he hb heq => by
        have h1 := hall e he hb
        rw [heq, hnl] at h1; cases h1
      have hcond : ef.contains j = true → so.contains i = true := fun he => by
        rcases hwait with hw | hw
        · exact hw
        · have := reach_listed hdn _ j i oj hoj hall (hw j he (Array.getElem?_eq_some_iff.1 hoj).1)
          rw [hnl] at this; cases this
      have h2 := mOp_put hoj (hfree j oj hoj hji hjun hnot) hcond hy h1
      have hfree' : ∀ k ok, ops[k]? = some ok → k ≠ i → (listed.setIfInBounds j true).getD k true = false →
          (∀ e ∈ ok.after, Region.binds .any e = true → e.on ≠ i) → oi.apart ops ok = true := fun k ok hk hki hun hno => by
        refine hfree k ok hk hki ?_ hno
        by_cases hjk : j = k
        · subst hjk; exact hjun
        · rw [getD_set_ne true hjk] at hun; exact hun
      refine mOp_mono (fun σ' H' h3 => ih (listed.setIfInBounds j true) σ' H' (down_set hdn hj) hfree' (ready_mono hr (Ne.symm hji)) h3.1 ?_) h2
      rw [Array.setIfInBounds_comm _ _ hji]
      exact h3.2

/-! The walk in an order of one's own -/
def ordOk (ops : Array Oper) (ef so : List Nat) : List Nat → Array Bool → Bool
  | [], listed => (Region.ready .any ops listed).isEmpty
  | i :: rest, listed =>
    (if ef.contains i then Region.ready .any ops listed == [i]
     else (Region.ready .any ops listed).contains i && Region.free .any ops listed i && (so.contains i || ef.all fun j => !(Nat.blt j ops.size) || reachB ops ops.size j i)) &&
    ordOk ops ef so rest (listed.setIfInBounds i true)
/-- The operations in that order. -/
def awM (E : Env) (ops : Array Oper) (ef so : List Nat) (K : St → Prop) : List Nat → St → Prop
  | [], s => ∃ sl', get sl' = get s.sl ∧ K ⟨sl', s.hp⟩
  | i :: rest, s =>
    match ops[i]? with
    | none => False
    | some o =>
      match wantedA ops o s.sl with
      | none => False
      | some false => awM E ops ef so K rest ⟨put o.dst (.tup []) s.sl, s.hp⟩
      | some true =>
        if ef.contains i then AStep E o (evF E (tsOf o) (get s.sl)) s.hp (fun r H' => awM E ops ef so K rest ⟨put o.dst r s.sl, H'⟩)
        else if so.contains i then ∃ v, (∀ H, AStep E o (evF E (tsOf o) (get s.sl)) H (fun r H' => r = v ∧ H' = H)) ∧ awM E ops ef so K rest ⟨put o.dst v s.sl, s.hp⟩
        else ∃ v, AStep E o (evF E (tsOf o) (get s.sl)) s.hp (fun r H' => r = v ∧ H' = s.hp) ∧ awM E ops ef so K rest ⟨put o.dst v s.sl, s.hp⟩
def RofK (K : St → Prop) (σ : Sf) (H : Hp) : Prop := ∃ sl, get sl = σ ∧ K ⟨sl, H⟩
theorem awM_anyM {ops : Array Oper} {ef so : List Nat} {K : St → Prop} : ∀ (ord : List Nat) (listed : Array Bool) (s : St), ordOk ops ef so ord listed = true → Down ops listed → awM E ops ef so K ord s →
    anyM E ops ef so (RofK K) ord.length listed (get s.sl) s.hp
  | [], listed, s, ho, _, h => ⟨by simpa [ordOk] using ho, h⟩
  | i :: rest, listed, s, ho, hdn, h => by
    simp only [ordOk, Bool.and_eq_true] at ho
    obtain ⟨hc, ho⟩ := ho
    simp only [awM] at h
    cases hi : ops[i]? with
    | none => rw [hi] at h; exact h.elim
    | some o =>
      rw [hi] at h
      simp only at h
      have next : ∀ (s' : St), awM E ops ef so K rest s' → i ∈ Region.ready .any ops listed → anyM E ops ef so (RofK K) rest.length (listed.setIfInBounds i true) (get s'.sl) s'.hp := fun s' h hr =>
        awM_anyM rest _ s' ho (down_set hdn hr) h
      by_cases he : ef.contains i = true
      · rw [if_pos he] at hc
        have hr : Region.ready .any ops listed = [i] := by simpa using hc
        have hir : i ∈ Region.ready .any ops listed := by rw [hr]; simp
        refine ⟨fun h0 => (by rw [hr] at h0; cases h0), fun j hj => ?_⟩
        rw [hr] at hj
        simp only [List.mem_singleton] at hj
        subst hj
        unfold mOp
        simp only [hi]
        rw [wantedF_get]
        cases hw : wantedA ops o s.sl with
        | none => rw [hw] at h; exact h.elim
        | some b =>
          rw [hw] at h
          cases b with
          | false =>
            have := next _ h hir
            rw [upd_put] at this
            exact this
          | true =>
            simp only [he, if_true] at h ⊢
            exact astep_mono h fun r H' hk => by
              have := next _ hk hir
              rw [upd_put] at this
              exact this
      · have he' : ef.contains i = false := by simpa using he
        rw [if_neg he] at hc
        simp only [Bool.and_eq_true, Bool.or_eq_true] at hc
        obtain ⟨⟨h1, h2⟩, h3⟩ := hc
        have hir : i ∈ Region.ready .any ops listed := by simpa using h1
        have hwait : so.contains i = true ∨ ∀ j, ef.contains j = true → j < ops.size → reachB ops ops.size j i = true := by
          rcases h3 with h3 | h3
          · exact .inl h3
          · refine .inr fun j hj hlt => ?_
            have := List.all_eq_true.1 h3 j (by simpa using hj)
            have hb : Nat.blt j ops.size = true := by simpa using hlt
            simpa [hb] using this
        cases hw : wantedA ops o s.sl with
        | none => rw [hw] at h; exact h.elim
        | some b =>
          rw [hw] at h
          cases b with
          | false =>
            have := next _ h hir
            rw [upd_put] at this
            exact anyM_first hi he' hwait _ listed _ _ hdn (Region.free_spec hi h2) hir (.inr ⟨by rw [wantedF_get]; exact hw, rfl⟩) this
          | true =>
            simp only [he', Bool.false_eq_true, if_false] at h
            split at h
            · rename_i hs
              obtain ⟨v, h4, h5⟩ := h
              have := next _ h5 hir
              rw [upd_put] at this
              exact anyM_first hi he' hwait _ listed _ _ hdn (Region.free_spec hi h2) hir (.inl ⟨by rw [wantedF_get]; exact hw, by rw [if_pos hs]; exact h4⟩) this
            · rename_i hs
              obtain ⟨v, h4, h5⟩ := h
              have := next _ h5 hir
              rw [upd_put] at this
              exact anyM_first hi he' hwait _ listed _ _ hdn (Region.free_spec hi h2) hir (.inl ⟨by rw [wantedF_get]; exact hw, by rw [if_neg hs]; exact h4⟩) this

theorem awp_region_draw {id : Nat} {l : List Oper} {ef so ord : List Nat} (hd : dstOk N l = true) (hord : ordOk l.toArray ef so ord (Array.replicate l.length false) = true) (hlen : Nat.beq ord.length l.length = true)
    (h : awM E l.toArray ef so (Q .normal) ord s) : AWp E N n0 (.region id l.toArray true) Q s := by
  intro m0 w0 _ m w a he hs
  have hdn : Down l.toArray (Array.replicate l.length false) := fun p o _ hl => by
    rw [Array.getD_eq_getD_getElem?, Array.getElem?_replicate] at hl
    split at hl <;> simp at hl
  have h1 := awM_anyM ord _ s hord hdn h
  rw [Nat.eq_of_beq_eq_true hlen] at h1
  have hsF : SRelF E N m { w with drawn := w.drawn + 1 } (get s.sl) s.hp a := by
    have e := Ext.drew m w
    exact ⟨hs.ok, fun k => (hs.slots k).ext e, hs.size, hs.defers, hs.sim.drew, fun g => (hs.glob g).ext e⟩
  refine wp_region_any hs.ok.1 ?_
  have h2 := anyM_sound (Q' := Lift E N m0 w0 Q) (m0 := m0) (w0 := w0) (by simpa using hd) (fun m w σ H a he hs hR => by
    obtain ⟨sl, rfl, hq⟩ := hR
    exact ⟨m, ⟨sl, H⟩, he, ⟨hs.ok, hs.slots, hs.size, hs.defers, hs.sim, hs.glob⟩, hq⟩) _ _ _ _ _ _ _ (he.trans (Ext.drew m w)) hsF h1
  simpa using h2
end
end Go.Abs
