/- Calls, the function's boundary, freezing, tidying the heap. -/
import Derived.Test.YtfldnfchjaaoeaaA8
namespace Go.Abs

def IdsLtO (n : Nat) : AO → Prop
  | .cells cs _ => IdsLtL n cs
  | .arr es _ => IdsLtL n es
  | .map es => IdsLtL n (es.map (·.1)) ∧ IdsLtL n (es.map (·.2))
/-- No object names one from n on. -/
def HOk (n : Nat) (H : Hp) : Prop := ∀ (id : Nat) (o : AO), H[id]? = some (some o) → IdsLtO n o

section
variable {sz sz2 : Cx} {m m2 : Mu} {w : World} {H : Hp}
mutual
theorem Rel.ids : ∀ (x : AV) {v : Value}, Rel sz m w x v → IdsLt m.length x
  | .any, _, _ | .int _ _, _, _ | .bool _, _, _ | .str _, _, _ | .nilp, _, _ | .nils, _, _ | .nilm, _, _ | .nilf, _, _ | .nili, _, _ => by simp [IdsLt]
  | .fp cs, _, h => by simp only [Rel] at h; obtain ⟨_, _, _, h, _⟩ := h; simp only [IdsLt]; exact RelL.ids cs h
  | .ptr _ _, _, h => by simp only [Rel] at h; obtain ⟨_, _, h, _⟩ := h; simpa [IdsLt] using h
  | .pe _ _ _, _, h => by simp only [Rel] at h; obtain ⟨_, _, h⟩ := h; simpa [IdsLt] using h.1
  | .sl _ es, _, h => by simp only [Rel] at h; obtain ⟨_, _, _, _, _, _, h, _⟩ := h; simp only [IdsLt]; exact RelL.ids es h
  | .own _ _ _, _, h => by simp only [Rel] at h; obtain ⟨_, _, _, _, _, h⟩ := h; simpa [IdsLt] using h.1
  | .mp _, _, h => by simp only [Rel] at h; obtain ⟨_, _, h, _⟩ := h; simpa [IdsLt] using h
  | .agg cs, _, h => by simp only [Rel] at h; obtain ⟨_, _, h⟩ := h; simp only [IdsLt]; exact RelL.ids cs h
  | .tup cs, _, h => by simp only [Rel] at h; obtain ⟨_, _, h⟩ := h; simp only [IdsLt]; exact RelL.ids cs h
  | .clo _ f c, _, h => by simp only [Rel] at h; obtain ⟨_, _, _, h, k⟩ := h; simp only [IdsLt]; exact ⟨RelL.ids f h, RelL.ids c k⟩
  | .ifc _ x, _, h => by simp only [Rel] at h; obtain ⟨_, _, h⟩ := h; simp only [IdsLt]; exact Rel.ids x h
theorem RelL.ids : ∀ (xs : List AV) {vs : List Value}, RelL sz m w xs vs → IdsLtL m.length xs
  | [], _, _ => by simp [IdsLtL]
  | x :: xs, _, h => by rw [relL_cons] at h; obtain ⟨_, _, _, h, k⟩ := h; simp only [IdsLtL]; exact ⟨Rel.ids x h, RelL.ids xs k⟩
end
theorem Sim.hok (h : Sim sz m w H) : HOk H.length H := fun id o ho => by
  obtain ⟨x, hx, hob⟩ := h.live id o ho
  rw [← h.len]
  cases x with
  | dead => cases o <;> exact hob.elim
  | nil => cases o <;> first | exact hob.elim | (simp only [OB] at hob; subst hob; simp [IdsLtO, IdsLtL])
  | blk b =>
    cases o with
    | cells cs e => obtain ⟨_, _, h⟩ := hob; exact RelL.ids _ h
    | arr es e => obtain ⟨_, _, _, h, _⟩ := hob; exact RelL.ids _ h
    | map es => obtain ⟨_, _, _, _, _, h, k⟩ := hob; exact ⟨RelL.ids _ h, RelL.ids _ k⟩

/-- m2 names fewer things than m, under other names: f tells which. -/
structure Cmp (f : Nat → Option Nat) (sz sz2 : Cx) (m m2 : Mu) : Prop where
  szs : sz2.sz = sz.sz
  id : ∀ i j, f i = some j → i < m.length → j < m2.length ∧ ∀ x, x ≠ .dead → m2[j]? = some x → m[i]? = some x
  sub : ∀ b, (.blk b ∈ m2 ∨ sz2.X b) → (.blk b ∈ m ∨ sz.X b)
theorem Fz.cmp {f : Nat → Option Nat} (c : Cmp f sz sz2 m m2) {A : Option Addr} {us : List Value} (h : Fz sz m w A us) : Fz sz2 m2 w A us := fun hne => by
  obtain ⟨a, h1, h2, h3, hX, h4⟩ := h hne
  exact ⟨a, h1, h2, fun hm => (c.sub _ (.inl hm)).elim h3 hX, fun hx => (c.sub _ (.inr hx)).elim h3 hX, h4⟩
theorem Own.cmp {f : Nat → Option Nat} (c : Cmp f sz sz2 m m2) {A : Option Addr} {cp id j lo : Nat} (hf : f id = some j) (h : Own sz m w A cp id lo) : Own sz2 m2 w A cp j lo := by
  obtain ⟨h1, h2⟩ := c.id id j hf h.1
  exact ⟨h1, fun hn => h.2.1 (h2 _ (by simp) hn), fun b hb => by rw [c.szs]; exact h.2.2 b (h2 _ (by simp) hb)⟩
theorem PtrE.cmp {f : Nat → Option Nat} (c : Cmp f sz sz2 m m2) {a : Addr} {id j i off : Nat} (hf : f id = some j) (h : PtrE sz m w a id i off) : PtrE sz2 m2 w a j i off := by
  obtain ⟨h1, h2⟩ := c.id id j hf h.1
  exact ⟨h1, fun b hb => by rw [c.szs]; exact h.2 b (h2 _ (by simp) hb)⟩
mutual
theorem Rel.cmp {f : Nat → Option Nat} (c : Cmp f sz sz2 m m2) {n : Nat} (hf : ∀ i, i < n → f i = some i) : ∀ (x : AV) {v : Value}, IdsLt n x → Rel sz m w x v → Rel sz2 m2 w x v
  | .any, _, _, _ => by simp [Rel]
  | .int _ _, _, _, h | .bool _, _, _, h | .str _, _, _, h | .nilp, _, _, h | .nils, _, _, h | .nilm, _, _, h | .nilf, _, _, h | .nili, _, _, h => by simpa [Rel] using h
  | .fp cs, _, hi, h => by
    simp only [Rel] at h ⊢; simp only [IdsLt] at hi
    obtain ⟨a, us, h1, h2, h3⟩ := h
    exact ⟨a, us, h1, RelL.cmp c hf cs hi h2, h3.cmp c⟩
  | .ptr id off, _, hi, h => by
    simp only [Rel] at h ⊢; simp only [IdsLt] at hi
    obtain ⟨a, h1, h2, h3⟩ := h
    obtain ⟨h4, h5⟩ := c.id id id (hf id hi) h2
    exact ⟨a, h1, h4, fun b hb => h3 b (h5 _ (by simp) hb)⟩
  | .pe id i off, _, hi, h => by
    simp only [Rel] at h ⊢; simp only [IdsLt] at hi
    obtain ⟨a, h1, h2⟩ := h
    exact ⟨a, h1, h2.cmp c (hf id hi)⟩
  | .sl k es, _, hi, h => by
    simp only [Rel] at h ⊢; simp only [IdsLt] at hi
    obtain ⟨A, cp, vs, h1, h2, h3, h4, h5, h6⟩ := h
    exact ⟨A, cp, vs, h1, h2, h3, RelL.cmp c hf es hi h4, h5, h6.cmp c⟩
  | .own id lo n, _, hi, h => by
    simp only [Rel] at h ⊢; simp only [IdsLt] at hi
    obtain ⟨a, cp, h1, h2, h3, h4⟩ := h
    exact ⟨a, cp, h1, h2, h3, h4.cmp c (hf id hi)⟩
  | .mp id, _, hi, h => by
    simp only [Rel] at h ⊢; simp only [IdsLt] at hi
    obtain ⟨r, h1, h2, h3⟩ := h
    obtain ⟨h4, h5⟩ := c.id id id (hf id hi) h2
    exact ⟨r, h1, h4, fun b hb => h3 b (h5 _ (by simp) hb)⟩
  | .agg cs, _, hi, h => by
    simp only [Rel] at h ⊢; simp only [IdsLt] at hi
    obtain ⟨us, h1, h2⟩ := h
    exact ⟨us, h1, RelL.cmp c hf cs hi h2⟩
  | .tup cs, _, hi, h => by
    simp only [Rel] at h ⊢; simp only [IdsLt] at hi
    obtain ⟨us, h1, h2⟩ := h
    exact ⟨us, h1, RelL.cmp c hf cs hi h2⟩
  | .clo fn f' c', _, hi, h => by
    simp only [Rel] at h ⊢; simp only [IdsLt] at hi
    obtain ⟨us, vs, h1, h2, h3⟩ := h
    exact ⟨us, vs, h1, RelL.cmp c hf f' hi.1 h2, RelL.cmp c hf c' hi.2 h3⟩
  | .ifc t x, _, hi, h => by
    simp only [Rel] at h ⊢; simp only [IdsLt] at hi
    obtain ⟨u, h1, h2⟩ := h
    exact ⟨u, h1, Rel.cmp c hf x hi h2⟩
theorem RelL.cmp {f : Nat → Option Nat} (c : Cmp f sz sz2 m m2) {n : Nat} (hf : ∀ i, i < n → f i = some i) : ∀ (xs : List AV) {vs : List Value}, IdsLtL n xs → RelL sz m w xs vs → RelL sz2 m2 w xs vs
  | [], _, _, h => by simpa [RelL] using h
  | x :: xs, _, hi, h => by
    simp only [RelL] at h ⊢; simp only [IdsLtL] at hi
    obtain ⟨u, r, h1, h2, h3⟩ := h
    exact ⟨u, r, h1, Rel.cmp c hf x hi.1 h2, RelL.cmp c hf xs hi.2 h3⟩
end
end

/-! ### Calls -/
def Glob (E : Env) (m : Mu) (w : World) : Prop := ∀ g, E.Rel m w (E.G g) (.pointer (some ⟨g, 0, none⟩))
def Callable (E : Env) (f : FuncId) : Prop := ∃ fn, E.P.funcs[f]? = some fn ∧ fn.body.isNone = false ∧ (fn.name == "runtime.NumGoroutine") = false
/-- Called with values that read as args, over a heap that reads as H, the function returns, and what it returns and leaves reads as R says. -/
def ACalls (E : Env) (f : FuncId) (args : List AV) (H : Hp) (R : AV → Hp → Prop) : Prop :=
  Callable E f ∧ ∀ (m : Mu) (w : World) (vs : List Value), E.Ok → Glob E m w → E.RelL m w args vs → E.Sim m w H →
    Calls E.P f vs.toArray w fun e w' => ∃ v m' r H', e = .returned v ∧ Ext m w m' w' ∧ E.Rel m' w' r v ∧ E.Sim m' w' H' ∧ R r H'

section
variable {E : Env} {N n0 : Nat} {Q : Exit → St → Prop} {s : St} {ρ : Operand → AV} {H : Hp} {K : AV → Hp → Prop}
variable {d : Option Tmp} {ty : TypeId} {pos : String} {after : Array Edge} {g : Option (Nat × Bool)}

theorem ACalls.mono {f : FuncId} {args : List AV} {R R' : AV → Hp → Prop} (h : ACalls E f args H R) (k : ∀ r H', R r H' → R' r H') : ACalls E f args H R' :=
  ⟨h.1, fun m w vs h1 h2 h3 h4 => (h.2 m w vs h1 h2 h3 h4).mono fun _ _ ⟨v, m', r, H', a, b, c, d, e⟩ => ⟨v, m', r, H', a, b, c, d, k _ _ e⟩⟩

theorem relL_map {m : Mu} {w : World} {a : Act} (hr : ∀ x, E.Rel m w (ρ x) (a.eval x)) : ∀ l : List Operand, E.RelL m w (l.map ρ) (l.map a.eval)
  | [] => by simp [Abs.RelL]
  | x :: l => RelL.cons (hr x) (relL_map hr l)

theorem st_call {f : Operand} {args : List Operand} {tys : Array TypeId} {k : FuncId} {cap : List AV} (hG : ∀ g, ρ (.global g) = E.G g) (hf : ρ f = .clo (.func k) [] cap)
    (h : ACalls E k (args.map ρ ++ cap) H K) : AStep E ⟨d, .call ⟨.value f, args.toArray, tys⟩, ty, pos, after, g⟩ ρ H K := by
  intro m w a hok hr hsim hdf Q
  obtain ⟨⟨fn, hfn, hbody, hname⟩, hcall⟩ := h
  have hff := hr f
  rw [hf] at hff
  simp only [Env.Rel, Abs.Rel] at hff
  obtain ⟨us, vs, h1, h2, h3⟩ := hff
  rw [relL_nil] at h2
  subst h2
  have hglob : Glob E m w := fun g => by have := hr (.global g); rw [hG] at this; exact this
  have hargs : E.RelL m w (args.map ρ ++ cap) (args.map a.eval ++ vs) := (relL_map hr args).append h3
  have hc := hcall m w _ hok hglob hargs hsim
  unfold Oper.wp
  have hrun : (execOp a.eval ⟨d, .call ⟨.value f, args.toArray, tys⟩, ty, pos, after, g⟩).run E.P w = .ok (.enter k (args.map a.eval ++ vs).toArray) w := by
    simp only [execOp, resolve, h1, Deferred.ofValue, Sem.run_bind, Sem.run_pure, Result.andThen_ok, invoke, callFunc, run_program, hfn, hname, hbody, Bool.false_eq_true, if_false]
    simp
  rw [hrun]
  simp only [Oper.upon]
  refine hc.mono ?_
  rintro e w' ⟨v, m', r, H', rfl, h4, h5, h6, h7⟩
  exact ⟨v, rfl, m', r, H', h4, h5, h6, h7⟩

/-! ### The function's boundary -/
def slots (k : Nat) : List AV → List (Nat × AV)
  | [] => []
  | x :: xs => (k, x) :: slots (k + 1) xs
theorem get_slots : ∀ (args : List AV) (k j : Nat), get (slots k args) j = if k ≤ j then (args[j - k]?).getD .any else .any
  | [], k, j => by simp [slots, get]
  | x :: xs, k, j => by
    simp only [slots, get_cons]
    by_cases h : k = j
    · subst h; simp
    · rw [if_neg h, get_slots xs (k + 1) j]
      by_cases h2 : k ≤ j
      · rw [if_pos (by omega), if_pos h2]
        obtain ⟨q, hq⟩ : ∃ q, j - k = q + 1 := ⟨j - k - 1, by omega⟩
        rw [hq, show j - (k + 1) = q by omega]
        simp
      · rw [if_neg (by omega), if_neg h2]

def resV (E : Env) (s : St) : ResultVar → Option AV
  | .tmp t => some (get s.sl t)
  | .cell t ty => if Nat.blt ty E.n then (cellsAt s.hp (get s.sl t)).bind (ldA (E.ti ty)) else none
def resL (E : Env) (s : St) : List ResultVar → Option (List AV)
  | [] => some []
  | r :: rs => match resV E s r, resL E s rs with
    | some x, some xs => some (x :: xs)
    | _, _ => none
def one : List AV → AV
  | [x] => x
  | xs => .tup xs
def FPost (E : Env) (rs : List ResultVar) (R : AV → Hp → Prop) : Exit → St → Prop
  | .normal, s | .ret, s => ∃ xs, resL E s rs = some xs ∧ R (one xs) s.hp
  | _, _ => False

def resOne (tmps : Array Value) : ResultVar → Sem Value
  | .tmp t => pure (tmps.getD t undef)
  | .cell ad t => do loadVar t (← asAddr (tmps.getD ad undef))
theorem results_eq (fn : Func) (tmps : Array Value) : results fn tmps = (do
    let vs ← fn.results.mapM (resOne tmps)
    pure (if h : vs.size = 1 then vs[0] else .tuple vs)) := by
  unfold results
  congr 1
theorem results_run {m : Mu} {w : World} {a : Act} (hs : SRel E N m w s a) : ∀ (rs : List ResultVar) {xs : List AV}, resL E s rs = some xs →
    ∃ vs, (rs.mapM (resOne a.tmps)).run E.P w = .ok vs w ∧ E.RelL m w xs vs
  | [], xs, h => by
    simp only [resL, Option.some.injEq] at h; subst h
    exact ⟨[], by simp, by simp [Abs.RelL]⟩
  | r :: rs, xs, h => by
    simp only [resL] at h
    split at h
    · rename_i x ys hx hys
      cases h
      obtain ⟨vs, h1, h2⟩ := results_run hs rs hys
      cases r with
      | tmp t =>
        simp only [resV, Option.some.injEq] at hx; subst hx
        exact ⟨a.tmps.getD t undef :: vs, by simp only [List.mapM_cons, resOne, Sem.run_bind, Sem.run_pure, Result.andThen_ok, h1], RelL.cons (hs.slots t) h2⟩
      | cell t ty =>
        simp only [resV] at hx
        split at hx
        · rename_i hty
          simp only [Option.bind_eq_some_iff] at hx
          obtain ⟨cs, hc, hl⟩ := hx
          obtain ⟨ad, us, h3, h4, h5⟩ := cellsAt_spec hs.sim hc (hs.slots t)
          obtain ⟨v, h6, h7⟩ := run_ldA hs.ok hty hl h4 h5
          have h8 : (asAddr (a.tmps.getD t undef)).run E.P w = .ok ad w := by rw [h3]; rfl
          exact ⟨v :: vs, by simp only [List.mapM_cons, resOne, Sem.run_bind, Sem.run_pure, Result.andThen_ok, h8, h6, h1], RelL.cons h7 h2⟩
        · cases hx
    · cases h

theorem acalls_of {f : FuncId} {fn : Func} {c : Code} {args : List AV} {R : AV → Hp → Prop} (hf : E.P.funcs[f]? = some fn) (hb : fn.body = some c) (hn : fn.ntmps = N) (hname : (fn.name == "runtime.NumGoroutine") = false) (hl : Nat.ble args.length N = true)
    (h : HOk H.length H → (∀ x ∈ args, IdsLt H.length x) → AWp E N H.length c (FPost E fn.results.toList R) ⟨slots 0 args, H⟩) : ACalls E f args H R := by
  refine ⟨⟨fn, hf, by rw [hb]; rfl, hname⟩, fun m w vs hok hglob hargs hsim => ?_⟩
  have hvl := hargs.length
  have hle : args.length ≤ N := Nat.le_of_ble_eq_true hl
  have hids : ∀ x ∈ args, IdsLt H.length x := fun x hx => by
    obtain ⟨i, hi, he⟩ := List.getElem_of_mem hx
    obtain ⟨u, _, hu⟩ := hargs.get i (x := x) (by rw [List.getElem?_eq_getElem hi, he])
    rw [← hsim.len]; exact Rel.ids x hu
  refine calls_of_wp hf hb ?_
  have hs0 : SRel E N m w ⟨slots 0 args, H⟩ { tmps := vs.toArray ++ Array.replicate (fn.ntmps - vs.toArray.size) undef, defers := [] } := by
    refine ⟨hok, fun k => ?_, ?_, rfl, hsim, hglob⟩
    · show Abs.Rel E.cx m w (get (slots 0 args) k) _
      rw [get_slots]
      simp only [Nat.zero_le, if_true, Nat.sub_zero]
      cases hk : args[k]? with
      | none => simp [Abs.Rel]
      | some x =>
        obtain ⟨u, h1, h2⟩ := hargs.get k hk
        have hlt : k < vs.length := (List.getElem?_eq_some_iff.1 h1).1
        have : (vs.toArray ++ Array.replicate (fn.ntmps - vs.toArray.size) undef).getD k undef = u := by
          rw [Array.getD_eq_getD_getElem?, Array.getElem?_append_left (by simpa using hlt)]
          simp [h1]
        show Abs.Rel E.cx m w x ((vs.toArray ++ Array.replicate (fn.ntmps - vs.toArray.size) undef).getD k undef)
        rw [this]
        exact h2
    · simp; omega
  refine wp_mono (h hsim.hok hids m w hsim.len m w _ (Ext.refl m w) hs0) ?_
  rintro e a' w' ⟨m', s', h1, h2, h3⟩
  have fin : (∃ xs, resL E s' fn.results.toList = some xs ∧ R (one xs) s'.hp) → a'.defers = [] ∧ ∃ v, (results fn a'.tmps).run E.P w' = .ok v w' ∧
      ∃ v2 m' r H', Ending.returned v = .returned v2 ∧ Ext m w m' w' ∧ E.Rel m' w' r v2 ∧ E.Sim m' w' H' ∧ R r H' := by
    rintro ⟨xs, h4, h5⟩
    obtain ⟨us, h6, h7'⟩ := results_run h2 fn.results.toList h4
    have h7 : Abs.RelL E.cx m' w' xs us := h7'
    refine ⟨h2.defers, if h : us.toArray.size = 1 then us.toArray[0] else .tuple us.toArray, ?_, _, m', one xs, s'.hp, rfl, h1, ?_, h2.sim, h5⟩
    · rw [results_eq, Array.mapM_eq_mapM_toList]
      simp only [Sem.run_bind, Sem.run_map, h6, Result.andThen_ok, Sem.run_pure]
    · have hul := h7.length
      cases xs with
      | nil =>
        rw [relL_nil] at h7; subst h7
        show Abs.Rel E.cx m' w' (.tup []) (.tuple #[])
        simp [Abs.Rel, Abs.RelL]
      | cons x xs =>
        cases xs with
        | nil =>
          rw [relL_cons] at h7
          obtain ⟨u, r, rfl, h8, h9⟩ := h7
          rw [relL_nil] at h9; subst h9
          simpa [one] using h8
        | cons y ys =>
          have hne : ¬ us.toArray.size = 1 := by simp [hul]
          rw [dif_neg hne]
          show Abs.Rel _ _ _ _ _
          simp only [one, Abs.Rel]
          exact ⟨us, rfl, h7⟩
  cases e with
  | normal => exact fin h3
  | ret => exact fin h3
  | _ => exact h3.elim

/-! ### Freezing and tidying -/
theorem OB.cmp {sz sz2 : Cx} {m m2 : Mu} {w : World} {f : Nat → Option Nat} (c : Cmp f sz sz2 m m2) {n : Nat} (hf : ∀ i, i < n → f i = some i) {o : AO} {x : MS} (hi : IdsLtO n o) (h : OB sz m w o x) : OB sz2 m2 w o x := by
  cases x with
  | dead => cases o <;> exact h.elim
  | nil => cases o <;> first | exact h.elim | exact h
  | blk b =>
    cases o with
    | cells cs e => obtain ⟨us, h1, h2⟩ := h; exact ⟨us, h1, RelL.cmp c hf _ hi h2⟩
    | arr es e => obtain ⟨us, vs, h1, h2, h3, h4⟩ := h; exact ⟨us, vs, h1, RelL.cmp c hf _ hi h2, fun u hu => by rw [c.szs]; exact h3 u hu, h4⟩
    | map es => obtain ⟨us, ck, h1, h2, h3, h4, h5⟩ := h; exact ⟨us, ck, h1, h2, h3, RelL.cmp c hf _ hi.1 h4, RelL.cmp c hf _ hi.2 h5⟩
theorem Rel.cmp_all {sz sz2 : Cx} {m m2 : Mu} {w : World} (c : Cmp some sz sz2 m m2) {x : AV} {v : Value} (h : Rel sz m w x v) : Rel sz2 m2 w x v := Rel.cmp c (n := m.length) (fun _ _ => rfl) x (Rel.ids x h) h
theorem OB.ids {sz : Cx} {m : Mu} {w : World} {o : AO} {x : MS} (h : OB sz m w o x) : IdsLtO m.length o := by
  cases x with
  | dead => cases o <;> exact h.elim
  | nil => cases o <;> first | exact h.elim | (simp only [OB] at h; subst h; simp [IdsLtO, IdsLtL])
  | blk b =>
    cases o with
    | cells cs e => obtain ⟨_, _, h⟩ := h; exact RelL.ids _ h
    | arr es e => obtain ⟨_, _, _, h, _⟩ := h; exact RelL.ids _ h
    | map es => obtain ⟨_, _, _, _, _, h, k⟩ := h; exact ⟨RelL.ids _ h, RelL.ids _ k⟩

theorem idxOf_get : ∀ {l : List Nat} {i q : Nat}, l.idxOf? i = some q → l[q]? = some i
  | [], i, q, h => by simp at h
  | x :: l, i, q, h => by
    rw [List.idxOf?_cons] at h
    split at h
    · rename_i he; cases h; simpa using he
    · simp only [Option.map_eq_some_iff] at h
      obtain ⟨r, hr, rfl⟩ := h
      simpa using idxOf_get hr
def frz (id k : Nat) (es : List AV) : AV → AV
  | .own i lo n => if i = id ∧ lo + n ≤ es.length then .sl k ((es.drop lo).take n) else .own i lo n
  | v => v
theorem get_map (f : AV → AV) (hf : f .any = .any) : ∀ (sl : List (Nat × AV)) (k : Nat), get (sl.map fun p => (p.1, f p.2)) k = f (get sl k)
  | [], _ => by simp [get, hf]
  | (j, v) :: r, k => by
    simp only [List.map_cons, get_cons, get_map f hf r k]
    split <;> rfl
/-- An array that is not written any more: from here on it is a value. -/
theorem imp_freeze {id k : Nat} {es : List AV} {e : TypeId} (ho : s.hp[id]? = some (some (.arr es e))) (he : Nat.blt e E.n = true) (hk : Nat.beq (E.ti e).sz k = true) :
    Imp E N n0 s ⟨s.sl.map fun p => (p.1, frz id k es p.2), s.hp.set id none⟩ := by
  intro m0 w0 hn m w a hext hs
  have hkk := Nat.eq_of_beq_eq_true hk
  have hsz2 : E.cx.sz e = (E.ti e).sz := by obtain ⟨_, _, _, _, _, _, _, _, _, h⟩ := tyOf_spec hs.ok he; exact h
  have hid : id < s.hp.length := (List.getElem?_eq_some_iff.1 ho).1
  have hidm : id < m.length := by rw [hs.sim.len]; exact hid
  have hget : ∀ (i : Nat) (x : MS), x ≠ .dead → (m.set id .dead)[i]? = some x → m[i]? = some x ∧ i ≠ id := fun i x hx h => by
    by_cases hi : id = i
    · subst hi; rw [List.getElem?_set_self hidm] at h; cases h; exact absurd rfl hx
    · rw [List.getElem?_set_ne hi] at h; exact ⟨h, Ne.symm hi⟩
  have hsub : ∀ b, MS.blk b ∈ m.set id .dead → MS.blk b ∈ m := fun b hb => by
    obtain ⟨i, hi, he⟩ := List.getElem_of_mem hb
    exact List.mem_of_getElem? (hget i _ (by simp) (by rw [List.getElem?_eq_getElem hi, he])).1
  have hc : Cmp some E.cx E.cx m (m.set id .dead) := ⟨rfl, fun i j hij hi => by
    cases hij
    exact ⟨by simpa using hi, fun x hx h => (hget _ x hx h).1⟩, fun b h => h.imp (hsub b) (fun h => h)⟩
  refine ⟨m.set id .dead, ⟨hext.os, hext.tape, hext.output, hext.size, hext.keep, fun b hb h => hext.fresh b hb (hsub b h), by simpa using hext.len, fun i x hi hx h => hext.ids i x hi hx (hget i x hx h).1, hext.shape⟩, ?_⟩
  obtain ⟨q, hq, hob⟩ := hs.sim.live id _ ho
  refine ⟨hs.ok, fun j => ?_, hs.size, hs.defers, ?_, fun g => Rel.cmp_all hc (hs.glob g)⟩
  · show Abs.Rel E.cx _ w (get (s.sl.map fun p => (p.1, frz id k es p.2)) j) _
    rw [get_map _ rfl]
    have hj := hs.slots j
    generalize get s.sl j = v at hj ⊢
    generalize a.tmps.getD j undef = u at hj ⊢
    cases v with
    | own i lo n =>
      simp only [frz]
      split
      · rename_i hcond
        obtain ⟨rfl, hle⟩ := hcond
        simp only [Env.Rel, Abs.Rel] at hj ⊢
        obtain ⟨A, c, h1, h2, h3, h4, h5, h6⟩ := hj
        have hlen : ((es.drop lo).take n).length = n := by simp; omega
        cases q with
        | dead => exact hob.elim
        | nil =>
          subst hob
          simp at hle
          obtain ⟨rfl, rfl⟩ := hle
          exact ⟨A, c, [], by simpa using h1, by simp, h3, by simp [Abs.RelL], by simp, by simp [Fz, flat]⟩
        | blk b =>
          obtain ⟨us, vs, h7, h8, h9, h10⟩ := hob
          obtain ⟨e2, k2, h11, h12, h13⟩ := h6 b hq
          have hee : e2 = e := by
            unfold World.shape? at h11
            rw [h7] at h11
            simp at h11
            exact h11.1.symm
          subst hee
          have hk9 : ∀ u ∈ (vs.drop lo).take n, u.cells.size = k := fun u hu => by
            rw [h9 u (List.mem_of_mem_drop (List.mem_of_mem_take hu)), hsz2, hkk]
          have hr8 := (h8.drop lo).take n
          refine ⟨A, c, (vs.drop lo).take n, by rw [hlen]; exact h1, by omega, h3, RelL.cmp hc (n := m.length) (fun _ _ => rfl) _ (RelL.ids _ hr8) hr8, hk9, fun hne => ?_⟩
          have hn0 : 0 < n := by
            rcases Nat.eq_zero_or_pos n with h0 | h0
            · subst h0; simp [flat] at hne
            · exact h0
          have hA := h13 (.inl (by omega))
          refine ⟨_, hA, (Array.getElem?_eq_some_iff.1 h7).1, fun hm => ?_, hs.sim.disj b (List.mem_of_getElem? hq), fun j u hu => ?_⟩
          · obtain ⟨i2, hi2, he2⟩ := List.getElem_of_mem hm
            obtain ⟨h14, h15⟩ := hget i2 (.blk b) (by simp) (by rw [List.getElem?_eq_getElem hi2, he2])
            exact h15 (hs.sim.inj i2 i b h14 hq)
          · have hadd : (⟨b, lo * E.cx.sz e2, none⟩ : Addr).add j = ⟨b, lo * E.cx.sz e2 + j, none⟩ := by unfold Addr.add; split <;> simp_all
            rw [hadd, cell_of_row w b _ us e2 (0, 0) h7]
            have h9d : ∀ u ∈ vs.drop lo, u.cells.size = E.cx.sz e2 := fun u hu => h9 u (List.mem_of_mem_drop hu)
            rw [flat_take h9d, flat_drop h9, List.getElem?_take, List.getElem?_drop] at hu
            split at hu
            · rw [← h10, List.getElem?_take] at hu
              split at hu
              · simpa using hu
              · cases hu
            · cases hu
      · exact Rel.cmp_all hc hj
    | _ => exact Rel.cmp_all hc hj
  · refine ⟨by simp [hs.sim.len], fun i o hi => ?_, fun i hi => ?_, fun i j b hi hj => ?_, hs.sim.xlt, fun b hb => hs.sim.disj b (hsub b hb)⟩
    · by_cases h : id = i
      · subst h; rw [List.getElem?_set_self hid] at hi; cases hi
      · rw [List.getElem?_set_ne h] at hi
        obtain ⟨x, h1, h2⟩ := hs.sim.live i o hi
        exact ⟨x, by rw [List.getElem?_set_ne h]; exact h1, h2.cmp hc (n := m.length) (fun _ _ => rfl) h2.ids⟩
    · by_cases h : id = i
      · subst h; rw [List.getElem?_set_self hidm]
      · rw [List.getElem?_set_ne h] at hi ⊢
        exact hs.sim.dead i hi
    · exact hs.sim.inj i j b (hget i _ (by simp) hi).1 (hget j _ (by simp) hj).1

/-- v' says under the new names what v says under the old ones. -/
def Ren (f : Nat → Option Nat) (v v' : AV) : Prop := ∀ (sz : Cx) (m m2 : Mu) (w : World) (u : Value), Cmp f sz sz m m2 → Rel sz m w v u → Rel sz m2 w v' u
def RenO (f : Nat → Option Nat) (o o' : AO) : Prop := ∀ (sz : Cx) (m m2 : Mu) (w : World) (x : MS), Cmp f sz sz m m2 → OB sz m w o x → OB sz m2 w o' x
theorem ren_any {f : Nat → Option Nat} {v : AV} : Ren f v .any := fun _ _ _ _ _ _ _ => by simp [Rel]
theorem ren_old {f : Nat → Option Nat} {v : AV} (n : Nat) (hf : ∀ i, i < n → f i = some i) (h : IdsLt n v) : Ren f v v := fun _ _ _ _ _ c hr => Rel.cmp c hf v h hr
theorem renO_old {f : Nat → Option Nat} {o : AO} (n : Nat) (hf : ∀ i, i < n → f i = some i) (h : IdsLtO n o) : RenO f o o := fun _ _ _ _ _ c hr => OB.cmp c hf h hr
theorem ren_own {f : Nat → Option Nat} {id j lo n : Nat} (h : f id = some j) : Ren f (.own id lo n) (.own j lo n) := fun sz m m2 w u c hr => by
  simp only [Rel] at hr ⊢
  obtain ⟨A, cp, h1, h2, h3, h4⟩ := hr
  exact ⟨A, cp, h1, h2, h3, h4.cmp c h⟩
theorem ren_ptr {f : Nat → Option Nat} {id j off : Nat} (h : f id = some j) : Ren f (.ptr id off) (.ptr j off) := fun sz m m2 w u c hr => by
  simp only [Rel] at hr ⊢
  obtain ⟨a, h1, h2, h3⟩ := hr
  obtain ⟨h4, h5⟩ := c.id id j h h2
  exact ⟨a, h1, h4, fun b hb => h3 b (h5 _ (by simp) hb)⟩
theorem ren_mp {f : Nat → Option Nat} {id j : Nat} (h : f id = some j) : Ren f (.mp id) (.mp j) := fun sz m m2 w u c hr => by
  simp only [Rel] at hr ⊢
  obtain ⟨r, h1, h2, h3⟩ := hr
  obtain ⟨h4, h5⟩ := c.id id j h h2
  exact ⟨r, h1, h4, fun b hb => h3 b (h5 _ (by simp) hb)⟩
inductive RenL (f : Nat → Option Nat) : List AV → List AV → Prop where
  | nil : RenL f [] []
  | cons {v v' : AV} {l l' : List AV} (h : Ren f v v') (t : RenL f l l') : RenL f (v :: l) (v' :: l')
theorem RenL.rel {f : Nat → Option Nat} {l l' : List AV} (h : RenL f l l') {sz : Cx} {m m2 : Mu} {w : World} (c : Cmp f sz sz m m2) : ∀ {us : List Value}, RelL sz m w l us → RelL sz m2 w l' us := by
  induction h with
  | nil => intro us h; simpa [RelL] using h
  | cons h t ih =>
    intro us hr
    rw [relL_cons] at hr
    obtain ⟨u, r, rfl, h1, h2⟩ := hr
    exact RelL.cons (h _ _ _ _ _ c h1) (ih h2)
theorem ren_agg {f : Nat → Option Nat} {l l' : List AV} (h : RenL f l l') : Ren f (.agg l) (.agg l') := fun sz m m2 w u c hr => by
  simp only [Rel] at hr ⊢
  obtain ⟨us, h1, h2⟩ := hr
  exact ⟨us, h1, h.rel c h2⟩
theorem ren_tup {f : Nat → Option Nat} {l l' : List AV} (h : RenL f l l') : Ren f (.tup l) (.tup l') := fun sz m m2 w u c hr => by
  simp only [Rel] at hr ⊢
  obtain ⟨us, h1, h2⟩ := hr
  exact ⟨us, h1, h.rel c h2⟩
theorem renO_cells {f : Nat → Option Nat} {l l' : List AV} {e : TypeId} (h : RenL f l l') : RenO f (.cells l e) (.cells l' e) := fun sz m m2 w x c hr => by
  cases x with
  | blk b => obtain ⟨us, h1, h2⟩ := hr; exact ⟨us, h1, h.rel c h2⟩
  | _ => exact hr.elim

/-- The old names below k, then those in ids, in that order; all else is dropped. -/
def gcF (k : Nat) (ids : List Nat) (i : Nat) : Option Nat := if i < k then some i else (ids.idxOf? i).map (· + k)
theorem gcF_lt {k : Nat} {ids : List Nat} : ∀ i, i < k → gcF k ids i = some i := fun i h => by simp [gcF, h]
theorem imp_gc (k : Nat) (ids : List Nat) (sl' : List (Nat × AV)) (os : List AO) (hk : n0 ≤ k) (hkl : k ≤ s.hp.length) (hnd : ids.Nodup) (hge : ∀ i ∈ ids, k ≤ i) (hpre : HOk k (s.hp.take k))
    (hsl : ∀ p ∈ sl', Ren (gcF k ids) (get s.sl p.1) p.2) (hlen : os.length = ids.length)
    (hos : ∀ (j i : Nat) (o' : AO), ids[j]? = some i → os[j]? = some o' → ∃ o, s.hp[i]? = some (some o) ∧ RenO (gcF k ids) o o') : Imp E N n0 s ⟨sl', s.hp.take k ++ os.map some⟩ := by
  intro m0 w0 hn m w a hext hs
  have hml := hs.sim.len
  have hdef : ∀ i ∈ ids, i < m.length := fun i hi => by
    obtain ⟨j, hj, he⟩ := List.getElem_of_mem hi
    have h1 : ids[j]? = some i := by rw [List.getElem?_eq_getElem hj, he]
    obtain ⟨o, ho, _⟩ := hos j i os[j] h1 (List.getElem?_eq_getElem (by omega))
    rw [hml]; exact (List.getElem?_eq_some_iff.1 ho).1
  have hm2 : ∀ (j : Nat) (x : MS), (m.take k ++ ids.map fun i => (m[i]?).getD .dead)[j]? = some x → (j < k ∧ m[j]? = some x) ∨ (k ≤ j ∧ ∃ i, ids[j - k]? = some i ∧ m[i]? = some x) := fun j x h => by
    have hkm : (m.take k).length = k := by simp; omega
    rcases Nat.lt_or_ge j k with hj | hj
    · rw [List.getElem?_append_left (by omega), List.getElem?_take, if_pos hj] at h
      exact .inl ⟨hj, h⟩
    · rw [List.getElem?_append_right (by omega), hkm, List.getElem?_map] at h
      cases hi : ids[j - k]? with
      | none => rw [hi] at h; cases h
      | some i =>
        rw [hi] at h
        have hlt := hdef i (List.mem_of_getElem? hi)
        simp only [Option.map_some, List.getElem?_eq_getElem hlt, Option.getD_some, Option.some.injEq] at h
        exact .inr ⟨hj, i, rfl, by rw [List.getElem?_eq_getElem hlt, h]⟩
  have hl2 : (m.take k ++ ids.map fun i => (m[i]?).getD .dead).length = k + ids.length := by simp; omega
  have hidx : ∀ i j, gcF k ids i = some j → (i < k ∧ j = i) ∨ (k ≤ j ∧ ids[j - k]? = some i) := fun i j h => by
    unfold gcF at h
    split at h
    · rename_i hi; cases h; exact .inl ⟨hi, rfl⟩
    · simp only [Option.map_eq_some_iff] at h
      obtain ⟨q, hq, rfl⟩ := h
      refine .inr ⟨by omega, ?_⟩
      rw [Nat.add_sub_cancel]
      exact idxOf_get hq
  have hsub : ∀ b, MS.blk b ∈ (m.take k ++ ids.map fun i => (m[i]?).getD .dead) → MS.blk b ∈ m := fun b hb => by
    obtain ⟨j, hj, he⟩ := List.getElem_of_mem hb
    rcases hm2 j _ (by rw [List.getElem?_eq_getElem hj, he]) with ⟨_, h⟩ | ⟨_, i, _, h⟩ <;> exact List.mem_of_getElem? h
  have hc : Cmp (gcF k ids) E.cx E.cx m (m.take k ++ ids.map fun i => (m[i]?).getD .dead) := ⟨rfl, fun i j hij hi => by
    rcases hidx i j hij with ⟨h1, rfl⟩ | ⟨h1, h2⟩
    · refine ⟨by rw [hl2]; omega, fun x _ h => ?_⟩
      rcases hm2 j x h with ⟨_, h⟩ | ⟨h, _⟩
      · exact h
      · omega
    · refine ⟨by rw [hl2]; have := (List.getElem?_eq_some_iff.1 h2).1; omega, fun x _ h => ?_⟩
      rcases hm2 j x h with ⟨h, _⟩ | ⟨_, i', h3, h4⟩
      · omega
      · rw [h2] at h3; cases h3; exact h4, fun b h => h.imp (hsub b) (fun h => h)⟩
  refine ⟨_, ⟨hext.os, hext.tape, hext.output, hext.size, hext.keep, fun b hb h => hext.fresh b hb (hsub b h), by rw [hl2]; omega, fun i x hi hx h => ?_, hext.shape⟩, ?_⟩
  · refine hext.ids i x hi hx ?_
    rcases hm2 i x h with ⟨_, h⟩ | ⟨h, _⟩
    · exact h
    · omega
  · refine ⟨hs.ok, fun j => ?_, hs.size, hs.defers, ?_, fun g => ?_⟩
    · have key : ∀ l : List (Nat × AV), (∀ p ∈ l, Ren (gcF k ids) (get s.sl p.1) p.2) → get l j = .any ∨ Ren (gcF k ids) (get s.sl j) (get l j) := by
        intro l
        induction l with
        | nil => intro _; exact .inl rfl
        | cons p r ih =>
          intro h
          obtain ⟨q, v⟩ := p
          rw [get_cons]
          split
          · rename_i hq; subst hq; exact .inr (h (q, v) (by simp))
          · exact ih fun p hp => h p (by simp [hp])
      show Abs.Rel E.cx _ w (get sl' j) _
      rcases key sl' hsl with h | h
      · rw [h]; simp [Abs.Rel]
      · exact h _ _ _ _ _ hc (hs.slots j)
    · have hHk : (s.hp.take k).length = k := by simp; omega
      have hH : ∀ (j : Nat) (o : Option AO), (s.hp.take k ++ os.map some)[j]? = some o → (j < k ∧ s.hp[j]? = some o) ∨ (k ≤ j ∧ ∃ o', os[j - k]? = some o' ∧ o = some o') := fun j o h => by
        rcases Nat.lt_or_ge j k with hj | hj
        · rw [List.getElem?_append_left (by omega), List.getElem?_take, if_pos hj] at h
          exact .inl ⟨hj, h⟩
        · rw [List.getElem?_append_right (by omega), hHk, List.getElem?_map] at h
          cases ho : os[j - k]? with
          | none => rw [ho] at h; cases h
          | some o' => rw [ho] at h; simp at h; exact .inr ⟨hj, o', rfl, h.symm⟩
      refine ⟨by rw [hl2]; simp; omega, fun j o ho => ?_, fun j ho => ?_, fun i j b hi hj => ?_, hs.sim.xlt, fun b hb => hs.sim.disj b (hsub b hb)⟩
      · rcases hH j _ ho with ⟨h1, h2⟩ | ⟨h1, o', h2, h3⟩
        · obtain ⟨x, h4, h5⟩ := hs.sim.live j o h2
          refine ⟨x, ?_, h5.cmp hc gcF_lt (hpre j o (by rw [List.getElem?_take, if_pos h1]; exact h2))⟩
          rw [List.getElem?_append_left (by simp; omega), List.getElem?_take, if_pos h1]; exact h4
        · cases h3
          have hjl : j - k < ids.length := by rw [← hlen]; exact (List.getElem?_eq_some_iff.1 h2).1
          obtain ⟨o2, h4, h5⟩ := hos (j - k) ids[j - k] o (List.getElem?_eq_getElem hjl) h2
          obtain ⟨x, h6, h7⟩ := hs.sim.live _ _ h4
          refine ⟨x, ?_, h5 _ _ _ _ _ hc h7⟩
          rw [List.getElem?_append_right (by simp; omega)]
          rw [show j - (m.take k).length = j - k by simp; omega, List.getElem?_map, List.getElem?_eq_getElem hjl]
          simp [h6]
      · rcases hH j _ ho with ⟨h1, h2⟩ | ⟨h1, o', h2, h3⟩
        · rw [List.getElem?_append_left (by simp; omega), List.getElem?_take, if_pos h1]; exact hs.sim.dead j h2
        · cases h3
      · rcases hm2 i _ hi with ⟨h1, h2⟩ | ⟨h1, i', h2, h3⟩ <;> rcases hm2 j _ hj with ⟨h4, h5⟩ | ⟨h4, j', h5, h6⟩
        · exact hs.sim.inj i j b h2 h5
        · have := hs.sim.inj i j' b h2 h6; have := hge j' (List.mem_of_getElem? h5); omega
        · have := hs.sim.inj i' j b h3 h5; have := hge i' (List.mem_of_getElem? h2); omega
        · have h7 := hs.sim.inj i' j' b h3 h6
          subst h7
          obtain ⟨p1, p2⟩ := List.getElem?_eq_some_iff.1 h2
          obtain ⟨p3, p4⟩ := List.getElem?_eq_some_iff.1 h5
          have hpw := List.pairwise_iff_getElem.1 hnd
          rcases Nat.lt_trichotomy (i - k) (j - k) with h | h | h
          · exact absurd (p2.trans p4.symm) (hpw _ _ p1 p3 h)
          · omega
          · exact absurd (p4.trans p2.symm) (hpw _ _ p3 p1 h)
    · exact Rel.cmp hc (n := 0) (fun _ h => absurd h (Nat.not_lt_zero _)) _ (hs.ok.2.2 g) (hs.glob g)

/-- A nil slice as an array of one's own that has no elements yet. -/
theorem imp_nil (k : Nat) (e : TypeId) (hk : get s.sl k = .nils) : Imp E N n0 s ⟨(k, .own s.hp.length 0 0) :: s.sl, s.hp ++ [some (.arr [] e)]⟩ := by
  intro m0 w0 hn m w a hext hs
  have hml := hs.sim.len
  have hget : ∀ (i : Nat) (x : MS), (m ++ [.nil])[i]? = some x → m[i]? = some x ∨ (i = m.length ∧ x = .nil) := fun i x h => by
    rcases Nat.lt_or_ge i m.length with hl | hg
    · rw [List.getElem?_append_left hl] at h; exact .inl h
    · rw [List.getElem?_append_right hg] at h
      have h0 : i - m.length = 0 := by
        rcases Nat.eq_zero_or_pos (i - m.length) with h0 | h0
        · exact h0
        · rw [List.getElem?_eq_none (by simp; omega)] at h; cases h
      rw [h0] at h
      simp at h
      exact .inr ⟨by omega, h.symm⟩
  have hsub : ∀ b, MS.blk b ∈ m ++ [.nil] → MS.blk b ∈ m := fun b hb => by simpa using hb
  have he : Ext m w (m ++ [.nil]) w := ⟨rfl, rfl, rfl, Nat.le_refl _, fun _ _ _ => rfl, fun b _ h => hsub b h, by simp, fun i x hi hx h => by rwa [List.getElem?_append_left hi] at h, fun _ _ h => h⟩
  refine ⟨m ++ [.nil], hext.trans he, hs.ok, fun j => ?_, hs.size, hs.defers, ?_, fun g => (hs.glob g).ext he⟩
  · show Abs.Rel E.cx _ w (get ((k, .own s.hp.length 0 0) :: s.sl) j) _
    rw [get_cons]
    split
    · rename_i hkj
      subst hkj
      have h1 := hs.slots k
      rw [hk] at h1
      simp only [Env.Rel, Abs.Rel] at h1 ⊢
      have hlast : (m ++ [MS.nil])[s.hp.length]? = some .nil := by rw [← hml]; simp
      refine ⟨none, 0, h1, Nat.le_refl _, Nat.zero_le _, by simp [hml], fun _ => ⟨rfl, rfl⟩, fun b hb => ?_⟩
      rw [hlast] at hb; cases hb
    · exact (hs.slots j).ext he
  · refine ⟨by simp [hml], fun i o ho => ?_, fun i ho => ?_, fun i j b hi hj => ?_, hs.sim.xlt, fun b hb => hs.sim.disj b (hsub b hb)⟩
    · rcases Nat.lt_or_ge i s.hp.length with hl | hg
      · rw [List.getElem?_append_left hl] at ho
        obtain ⟨x, h1, h2⟩ := hs.sim.live i o ho
        exact ⟨x, by rw [List.getElem?_append_left (hml ▸ hl)]; exact h1, h2.ext he fun _ _ => rfl⟩
      · rw [List.getElem?_append_right hg] at ho
        have h0 : i - s.hp.length = 0 := by
          rcases Nat.eq_zero_or_pos (i - s.hp.length) with h0 | h0
          · exact h0
          · rw [List.getElem?_eq_none (by simp; omega)] at ho; cases ho
        rw [h0] at ho
        simp at ho
        subst ho
        refine ⟨.nil, ?_, rfl⟩
        rw [List.getElem?_append_right (by omega), hml, h0]; rfl
    · rcases Nat.lt_or_ge i s.hp.length with hl | hg
      · rw [List.getElem?_append_left hl] at ho
        rw [List.getElem?_append_left (hml ▸ hl)]
        exact hs.sim.dead i ho
      · rw [List.getElem?_append_right hg] at ho
        have h0 : i - s.hp.length = 0 := by
          rcases Nat.eq_zero_or_pos (i - s.hp.length) with h0 | h0
          · exact h0
          · rw [List.getElem?_eq_none (by simp; omega)] at ho; cases ho
        rw [h0] at ho
        simp at ho
    · rcases hget i _ hi with h1 | ⟨_, h1⟩ <;> rcases hget j _ hj with h2 | ⟨_, h2⟩ <;> first | exact hs.sim.inj i j b h1 h2 | cases h1 | cases h2

/-! Guards and tests that are not decided yet -/
theorem aops_guard {ops : Array Oper} {K : St → Prop} {o : Oper} {rest : List Oper} {d : Nat} {b : Bool} (hb : get s.sl d = .bool b)
    (ht : b = true → aops E ops (o :: rest) K ⟨(d, .bool true) :: s.sl, s.hp⟩) (hf : b = false → aops E ops (o :: rest) K ⟨(d, .bool false) :: s.sl, s.hp⟩) : aops E ops (o :: rest) K s := by
  have key : ∀ c, b = c → ∀ k, get s.sl k = get ((d, .bool c) :: s.sl) k := fun c hc k => by
    rw [get_cons]
    split
    · rename_i e; rw [← e, hb, hc]
    · rfl
  cases h : b with
  | true => exact aops_pre (key true h) (ht h)
  | false => exact aops_pre (key false h) (hf h)
theorem aops_guard_dec {ops : Array Oper} {K : St → Prop} {o : Oper} {rest : List Oper} {d : Nat} {p : Prop} [Decidable p] (_hg : gslot ops o = some d) (hb : get s.sl d = .bool (decide p))
    (ht : p → aops E ops (o :: rest) K ⟨(d, .bool true) :: s.sl, s.hp⟩) (hf : ¬ p → aops E ops (o :: rest) K ⟨(d, .bool false) :: s.sl, s.hp⟩) : aops E ops (o :: rest) K s :=
  aops_guard hb (fun h => ht (of_decide_eq_true h)) (fun h => hf (of_decide_eq_false h))

theorem wrap_in {n : Int} (h1 : -9223372036854775808 ≤ n) (h2 : n ≤ 9223372036854775807) : IntKind.i64.wrap n = n := by rw [IntKind.wrap_i64]; omega
theorem wrap_u8 {n : Int} (h1 : 0 ≤ n) (h2 : n ≤ 255) : IntKind.u8.wrap n = n := by unfold IntKind.wrap IntKind.bits IntKind.signed; simp; omega
end
end Go.Abs
