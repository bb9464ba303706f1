/- Weaker values (a nil slice is an empty one); functions that return or panic. Joined texts, each with what its own name promises; no condition beyond those stated. -/
import Derived.Test.YthiglfibmbnbeaaDoorNB
import Derived.Lib.ItoaNum
import Derived.Lib.Join
namespace Go.Abs
def Wk (x y : AV) : Prop := ∀ (cx : Cx) (m : Mu) (w : World) (v : Value), Abs.Rel cx m w x v → Abs.Rel cx m w y v
def WkL (xs ys : List AV) : Prop := ∀ (cx : Cx) (m : Mu) (w : World) (vs : List Value), Abs.RelL cx m w xs vs → Abs.RelL cx m w ys vs
theorem Wk.refl (x : AV) : Wk x x := fun _ _ _ _ h => h
theorem wk_nil {k : Nat} : Wk .nils (.sl k []) := fun cx m w v h => by
  simp only [Abs.Rel] at h ⊢
  exact ⟨none, 0, [], h, Nat.zero_le _, Nat.zero_le _, by simp [Abs.RelL], by simp, fun h0 => absurd rfl h0⟩
theorem wkL_nil : WkL [] [] := fun _ _ _ _ h => h
theorem wkL_cons {x y : AV} {xs ys : List AV} (h : Wk x y) (t : WkL xs ys) : WkL (x :: xs) (y :: ys) := fun cx m w vs hv => by
  obtain ⟨u, r, rfl, h1, h2⟩ := relL_cons.1 hv
  exact RelL.cons (h cx m w u h1) (t cx m w r h2)
theorem WkL.refl (xs : List AV) : WkL xs xs := fun _ _ _ _ h => h
theorem wk_agg {xs ys : List AV} (h : WkL xs ys) : Wk (.agg xs) (.agg ys) := fun cx m w v hv => by
  simp only [Abs.Rel] at hv ⊢
  obtain ⟨us, h1, h2⟩ := hv
  exact ⟨us, h1, h cx m w us h2⟩
theorem wk_tup {xs ys : List AV} (h : WkL xs ys) : Wk (.tup xs) (.tup ys) := fun cx m w v hv => by
  simp only [Abs.Rel] at hv ⊢
  obtain ⟨us, h1, h2⟩ := hv
  exact ⟨us, h1, h cx m w us h2⟩
/-- Returns as R says, or panics (only if B). -/
def AEnds (E : Env) (f : FuncId) (args : List AV) (H : Hp) (R : AV → Hp → Prop) (B : Prop) : Prop :=
  Callable E f ∧ ∀ (m : Mu) (w : World) (vs : List Value), E.Ok → Glob E m w → E.RelL m w args vs → E.Sim m w H →
    Calls E.P f vs.toArray w fun e w' => (∃ v m' r H', e = .returned v ∧ Ext m w m' w' ∧ E.Rel m' w' r v ∧ E.Sim m' w' H' ∧ R r H') ∨
      (B ∧ ∃ ch m' H', e = .panicked ch ∧ OneCh ch ∧ Ext m w m' w' ∧ E.Sim m' w' H')
def EPost (E : Env) (rs : List ResultVar) (R : AV → Hp → Prop) (B : Prop) : Exit → St → Prop
  | .normal, s | .ret, s => ∃ xs, resL E s rs = some xs ∧ R (one xs) s.hp
  | .panic ch, _ => OneCh ch ∧ B
  | _, _ => False
section
variable {E : Env} {N : Nat} {f : FuncId} {fn : Func} {c : Code} {args : List AV} {H : Hp} {R : AV → Hp → Prop} {B : Prop}
theorem AEnds.calls (h : AEnds E f args H R B) (hb : ¬ B) : ACalls E f args H R :=
  ⟨h.1, fun m w vs h1 h2 h3 h4 => (h.2 m w vs h1 h2 h3 h4).mono fun e w' hh => by
    rcases hh with hh | ⟨hB, _⟩
    · obtain ⟨v, m', r, H', a1, a2, a3, a4, a5⟩ := hh
      exact ⟨v, m', r, H', a1, a2, a3, a4, a5⟩
    · exact absurd hB hb⟩
theorem AEnds.panics (h : AEnds E f args H R B) (hb : ∀ r H', ¬ R r H') : APanics E f args H (fun _ => True) :=
  ⟨h.1, fun m w vs h1 h2 h3 h4 => (h.2 m w vs h1 h2 h3 h4).mono fun e w' hh => by
    rcases hh with ⟨v, m', r, H', _, _, _, _, hR⟩ | ⟨_, ch, m', H', a1, a2, a3, a4⟩
    · exact absurd hR (hb r H')
    · exact ⟨ch, m', H', a1, a2, a3, a4, trivial⟩⟩
theorem aends_of (hf : E.P.funcs[f]? = some fn) (hb : fn.body = some c) (hn : fn.ntmps = N) (hname : (fn.name == "runtime.NumGoroutine") = false) (hl : Nat.ble args.length N = true)
    (h : AWp E N H.length c (EPost E fn.results.toList R B) ⟨slots 0 args, H⟩) : AEnds E f args H R B := by
  refine ⟨⟨fn, hf, by rw [hb]; rfl, hname⟩, fun m w vs hok hglob hargs hsim => ?_⟩
  have hvl := hargs.length
  have hle : args.length ≤ N := Nat.le_of_ble_eq_true hl
  refine calls_of_wp hf hb ?_
  have hs0 : SRel E N m w ⟨slots 0 args, H⟩ { tmps := vs.toArray ++ Array.replicate (fn.ntmps - vs.toArray.size) undef, defers := [] } := by
    refine ⟨hok, fun k => ?_, ?_, rfl, hsim, hglob⟩
    · show Abs.Rel E.cx m w (get (slots 0 args) k) _
      rw [get_slots]
      simp only [Nat.zero_le, if_true, Nat.sub_zero]
      cases hk : args[k]? with
      | none => simp [Abs.Rel]
      | some x =>
        obtain ⟨u, h1, h2⟩ := hargs.get k hk
        have hlt : k < vs.length := (List.getElem?_eq_some_iff.1 h1).1
        have : (vs.toArray ++ Array.replicate (fn.ntmps - vs.toArray.size) undef).getD k undef = u := by
          rw [Array.getD_eq_getD_getElem?, Array.getElem?_append_left (by simpa using hlt)]
          simp [h1]
        show Abs.Rel E.cx m w x ((vs.toArray ++ Array.replicate (fn.ntmps - vs.toArray.size) undef).getD k undef)
        rw [this]
        exact h2
    · simp; omega
  refine wp_mono (h m w hsim.len m w _ (Ext.refl m w) hs0) ?_
  rintro e a' w' ⟨m', s', h1, h2, h3⟩
  have fin : (∃ xs, resL E s' fn.results.toList = some xs ∧ R (one xs) s'.hp) → a'.defers = [] ∧ ∃ v, (results fn a'.tmps).run E.P w' = .ok v w' ∧
      ((∃ v2 m' r H', Ending.returned v = .returned v2 ∧ Ext m w m' w' ∧ E.Rel m' w' r v2 ∧ E.Sim m' w' H' ∧ R r H') ∨
        (B ∧ ∃ ch m' H', Ending.returned v = .panicked ch ∧ OneCh ch ∧ Ext m w m' w' ∧ E.Sim m' w' H')) := by
    rintro ⟨xs, h4, h5⟩
    obtain ⟨us, h6, h7'⟩ := results_run h2 fn.results.toList h4
    have h7 : Abs.RelL E.cx m' w' xs us := h7'
    refine ⟨h2.defers, if h : us.toArray.size = 1 then us.toArray[0] else .tuple us.toArray, ?_, .inl ⟨_, m', one xs, s'.hp, rfl, h1, ?_, h2.sim, h5⟩⟩
    · rw [results_eq, Array.mapM_eq_mapM_toList]
      simp only [Sem.run_bind, Sem.run_map, h6, Result.andThen_ok, Sem.run_pure]
    · have hul := h7.length
      cases xs with
      | nil =>
        rw [relL_nil] at h7; subst h7
        show Abs.Rel E.cx m' w' (.tup []) (.tuple #[])
        simp [Abs.Rel, Abs.RelL]
      | cons x xs =>
        cases xs with
        | nil =>
          rw [relL_cons] at h7
          obtain ⟨u, r, rfl, h8, h9⟩ := h7
          rw [relL_nil] at h9; subst h9
          simpa [one] using h8
        | cons y ys =>
          have hne : ¬ us.toArray.size = 1 := by simp [hul]
          rw [dif_neg hne]
          show Abs.Rel _ _ _ _ _
          simp only [one, Abs.Rel]
          exact ⟨us, rfl, h7⟩
  cases e with
  | normal => exact fin h3
  | ret => exact fin h3
  | panic ch => exact ⟨h2.defers, .inr ⟨h3.2, ch, m', s'.hp, rfl, h3.1, h1, h2.sim⟩⟩
  | _ => exact h3.elim
theorem ACalls.wkR {R' : AV → Hp → Prop} (h : ACalls E f args H R) (k : ∀ r H', R r H' → ∃ r', R' r' H' ∧ Wk r r') : ACalls E f args H R' :=
  h.weakRv fun r H' hr => by
    obtain ⟨r', h1, h2⟩ := k r H' hr
    exact ⟨r', h1, fun m w v => h2 E.cx m w v⟩
end
/-! An operation with slices that may be nil where they are empty. -/
def bs1 (l : List UInt8) : AV := .sl 1 (l.map u8A)
theorem wk_bA (l : List UInt8) : Wk (bA l) (bs1 l) := by
  unfold bA bs1
  split
  · rename_i h; subst h; exact wk_nil
  · exact Wk.refl _
theorem wk_boL (l : List Bool) : Wk (boL l) (.sl 1 (l.map boA)) := by
  unfold boL
  split
  · rename_i h; subst h; exact wk_nil
  · exact Wk.refl _
theorem wk_trL (l : List Tr) : Wk (trL l) (.sl 2 (l.map trA)) := by
  unfold trL
  split
  · rename_i h; subst h; exact wk_nil
  · exact Wk.refl _
def opC (o : Opv) : List AV := [.int .i64 o.kind, .sl 1 (o.key.map u8A), .sl 1 (o.val.map u8A), .int .i64 o.n, .int .i64 o.a, .int .i64 o.b, .sl 1 (o.keep.map boA), .sl 2 (o.tears.map trA)]
def opS (o : Opv) : AV := .agg (opC o)
theorem opC_ids (o : Opv) {n : Nat} : IdsLtL n (opC o) := ⟨trivial, u8_ids' _, u8_ids' _, trivial, trivial, trivial, bo_ids' _, tr_ids _, trivial⟩
theorem text_s (X : Nat → Prop) (s l : List UInt8) (hs : s.length ≤ 1073741824) (h : textP s = some l) : ACalls (E0 X) 31 [.str s] [] (fun r H' => r = .sl 1 (l.map u8A) ∧ H' = []) :=
  (text_yes X s l hs h).wkR fun _ _ ⟨e1, e2⟩ => ⟨_, ⟨rfl, e2⟩, by rw [e1]; exact wk_bA l⟩
theorem bits_s (X : Nat → Prop) (s : List UInt8) (l : List Bool) (hs : s.length ≤ 1073741824) (h : bitsP s = some l) : ACalls (E0 X) 33 [.str s] [] (fun r H' => r = .sl 1 (l.map boA) ∧ H' = []) :=
  (bits_yes X s l hs h).wkR fun _ _ ⟨e1, e2⟩ => ⟨_, ⟨rfl, e2⟩, by rw [e1]; exact wk_boL l⟩
theorem tears_s (X : Nat → Prop) (l : List (List UInt8)) (ts : List Tr) (hl : l.length ≤ 1000000) (hs : ∀ s ∈ l, s.length ≤ 1073741824) (h : tearsP l = some ts) : ACalls (E0 X) 34 [.sl 1 (l.map strA)] [] (fun r H' => r = .sl 2 (ts.map trA) ∧ H' = []) :=
  (tears_yes X l ts hl hs h).wkR fun _ _ ⟨e1, e2⟩ => ⟨_, ⟨rfl, e2⟩, by rw [e1]; exact wk_trL ts⟩
theorem tears_noP (X : Nat → Prop) (l : List (List UInt8)) (hl : l.length ≤ 1000000) (hs : ∀ s ∈ l, s.length ≤ 1073741824) (h : tearsP l = none) (H : Hp) : APanics (E0 X) 34 [.sl 1 (l.map strA)] H (fun _ => True) := by
  have h1 : ∀ Y, APanics ((E0 X).wX Y) 34 [.sl 1 (l.map strA)] [] (fun _ => True) := fun Y => tears_no Y l hl hs h
  have h2 := apanics_pure (E := E0 X) h1 ⟨ids_str l, trivial⟩ H
  exact h2.mono fun _ _ => trivial
end Go.Abs
namespace Go.Abs
def hexC (i : Nat) : UInt8 := hexS.getD i 0
def hexW (b : List UInt8) : List UInt8 := b.flatMap fun x => [hexC (x.toNat / 16), hexC (x.toNat % 16)]
def txtW (b : List UInt8) : List UInt8 := if b = [] then [45] else hexW b
def bitC (b : Bool) : UInt8 := if b then 49 else 48
def chW (l : List Bool) : List UInt8 := if l = [] then [45] else l.map bitC
def tearW (t : Tr) : List UInt8 := Lib.itoa t.k ++ [58] ++ Lib.itoa t.n
/-- The words of an operation. -/
def wordsO (o : Opv) : List (List UInt8) :=
  if o.kind = 1 then [[103, 101, 116], txtW o.key]
  else if o.kind = 3 then [[100, 101, 108, 101, 116, 101], txtW o.key]
  else if o.kind = 2 then [[115, 101, 116], txtW o.key, txtW o.val, Lib.itoa o.n]
  else if o.kind = 6 then [[116, 105, 99, 107], Lib.itoa o.n]
  else if o.kind = 11 then [[102, 117, 115, 101], Lib.itoa o.n]
  else if o.kind = 7 then [[114, 101, 115, 105, 122, 101], Lib.itoa o.a, Lib.itoa o.b]
  else if o.kind = 12 then [99, 114, 97, 115, 104] :: chW o.keep :: o.tears.map tearW
  else if o.kind = 4 ∨ o.kind = 5 ∨ o.kind = 8 ∨ o.kind = 9 ∨ o.kind = 10 then [plainL.getD o.kind.toNat []]
  else []
def lineO (o : Opv) : List UInt8 := Lib.join (wordsO o) [32]
/-- The operation that a line denotes. -/
def parseP (s : List UInt8) : Option Opv := if 1000 < s.length then none else match wordsB 32 s with
  | w :: l => cmdP w l
  | [] => none
theorem hexC_dig : ∀ a x : UInt8, digV a = some x → hexC x.toNat = a := fun a x h => by
  have key : ((List.range 256).all fun n => match digV (UInt8.ofNat n) with
    | some x => hexC x.toNat == UInt8.ofNat n
    | none => true) = true := by kernel_rfl
  have h1 := List.all_eq_true.1 key a.toNat (List.mem_range.2 a.toNat_lt)
  rw [UInt8.ofNat_toNat, h] at h1
  simpa using h1
theorem hexJ_nat {x y : UInt8} (hx : x.toNat < 16) (hy : y.toNat < 16) : (hexJ x y).toNat = 16 * x.toNat + y.toNat := by
  rw [hexJ, UInt8.toNat_ofNat']; omega
theorem pairs_hex : ∀ (s l : List UInt8), pairs s = some l → hexW l = s
  | [], l, h => by simp [pairs] at h; subst h; rfl
  | [_], l, h => by simp [pairs] at h
  | a :: b :: s, l, h => by
    unfold pairs at h
    cases hx : digV a with
    | none => rw [hx] at h; simp at h
    | some x =>
      cases hy : digV b with
      | none => rw [hx, hy] at h; simp at h
      | some y =>
        rw [hx, hy] at h
        simp only [Option.map_eq_some_iff] at h
        obtain ⟨l', h1, rfl⟩ := h
        have ih := pairs_hex s l' h1
        have hx16 := digV_lt hx
        have hy16 := digV_lt hy
        have e := hexJ_nat hx16 hy16
        have e1 : (hexJ x y).toNat / 16 = x.toNat := by omega
        have e2 : (hexJ x y).toNat % 16 = y.toNat := by omega
        unfold hexW at ih ⊢
        rw [List.flatMap_cons, e1, e2, hexC_dig a x hx, hexC_dig b y hy, ih]
        rfl
theorem textP_txt {s k : List UInt8} (h : textP s = some k) : txtW k = s := by
  unfold textP at h
  split at h
  · rename_i e; cases h; rw [e]; rfl
  · split at h
    · cases h
    · rename_i h1 h2
      have hne : k ≠ [] := fun e => by
        subst e
        have := pairs_len s [] h
        exact h2 (.inl (List.eq_nil_of_length_eq_zero (by simpa using this)))
      rw [txtW, if_neg hne, pairs_hex s k h]
theorem bitsP_ch {s : List UInt8} {l : List Bool} (h : bitsP s = some l) : chW l = s := by
  unfold bitsP at h
  split at h
  · rename_i e; cases h; rw [e]; rfl
  · split at h
    · cases h
    · rename_i h1 h2
      cases h
      have hne : s.map (· == 49) ≠ [] := fun e => h2 (.inl (by simpa using e))
      have hb : s.all bit1 = true := by
        cases hc : s.all bit1 with
        | true => rfl
        | false => exact absurd (.inr hc) h2
      rw [chW, if_neg hne, List.map_map]
      have : ∀ b ∈ s, (bitC ∘ (· == 49)) b = b := fun b hbm => by
        have h3 := List.all_eq_true.1 hb b hbm
        unfold bit1 at h3
        simp only [Bool.or_eq_true, beq_iff_eq] at h3
        rcases h3 with rfl | rfl <;> rfl
      rw [List.map_congr_left this, List.map_id']
theorem digs_app : ∀ (s : List UInt8) (c : UInt8) (a : Nat), digs (s ++ [c]) a = match digs s a with
    | some m => if isDig c then some (10 * m + (c.toNat - 48)) else none
    | none => none
  | [], c, a => by simp [digs_cons]
  | b :: s, c, a => by
    rw [List.cons_append, digs_cons, digs_cons]
    split
    · exact digs_app s c _
    · rfl
theorem digs_ge : ∀ (s : List UInt8) (a n : Nat), digs s a = some n → a ≤ n
  | [], a, n, h => by simp at h; omega
  | b :: s, a, n, h => by
    rw [digs_cons] at h
    split at h
    · have := digs_ge s _ n h; omega
    · cases h
theorem dig_ofNat {c : UInt8} (h : isDig c) : UInt8.ofNat (48 + (c.toNat - 48)) = c := by
  have : 48 + (c.toNat - 48) = c.toNat := by have := h.1; omega
  rw [this, UInt8.ofNat_toNat]
theorem dig_mod {m : Nat} {c : UInt8} (h : isDig c) : (10 * m + (c.toNat - 48)) / 10 = m ∧ (10 * m + (c.toNat - 48)) % 10 = c.toNat - 48 := by
  have := h.1; have := h.2; omega
theorem digs_dec : ∀ (k : Nat) (s : List UInt8) (n : Nat), s.length = k → s ≠ [] → (s[0]? = some 48 → s.length = 1) → digs s 0 = some n → Lib.decDigits n = s
  | 0, s, n, hk, hne, _, _ => absurd (List.eq_nil_of_length_eq_zero hk) hne
  | k + 1, s, n, hk, hne, h0, h => by
    obtain ⟨t, c, rfl⟩ : ∃ t c, s = t ++ [c] := ⟨s.dropLast, s.getLast hne, (List.dropLast_concat_getLast hne).symm⟩
    rw [digs_app] at h
    by_cases ht : t = []
    · subst ht
      simp only [digs_nil] at h
      split at h
      · rename_i hc
        cases h
        have := hc.1; have := hc.2
        rw [Lib.decDigits, dif_pos (by omega), Nat.mul_zero, Nat.zero_add, dig_ofNat hc]; rfl
      · cases h
    · cases hd : digs t 0 with
      | none => rw [hd] at h; cases h
      | some m =>
        rw [hd] at h
        simp only at h
        split at h
        · rename_i hc
          cases h
          have hlen : t.length = k := by simpa using hk
          obtain ⟨b, t', rfl⟩ := List.exists_cons_of_ne_nil ht
          have hb : b ≠ 48 := fun e => by
            subst e
            have := h0 (by simp)
            simp at this
          have hm : 1 ≤ m := by
            rw [digs_cons] at hd
            split at hd
            · rename_i hbd
              have h1 := digs_ge t' _ m hd
              have h2 : b.toNat ≠ 48 := fun e => hb (UInt8.toNat_inj.1 (by rw [e]; rfl))
              have := hbd.1
              omega
            · cases hd
          have hmd := @dig_mod m c hc
          have hc1 := hc.1
          have ih := digs_dec k (b :: t') m hlen ht (fun e => by simp at e; exact absurd e hb) hd
          rw [Lib.decDigits, dif_neg (by omega), hmd.1, hmd.2, dig_ofNat hc, ih]
        · cases h
theorem numP_dec {s : List UInt8} {n : Nat} (h : numP s = some n) : Lib.itoa (n : Int) = s := by
  have hb : ¬ badHead s := fun hb => by rw [numP, if_pos hb] at h; cases h
  rw [numP, if_neg hb] at h
  rw [Lib.itoa, if_neg (by omega)]
  refine digs_dec s.length s _ rfl (fun e => hb (.inl e)) (fun e => ?_) h
  have h1 : s.length ≠ 0 := fun e => hb (.inl (List.eq_nil_of_length_eq_zero e))
  have h2 : ¬ 1 < s.length := fun h2 => hb (.inr (.inr ⟨e, h2⟩))
  omega
theorem cut_join {s : List UInt8} {c : UInt8} (h : (cutB s c).2.1 ≠ []) : (cutB s c).1 ++ [c] ++ (cutB s c).2.1 = s := by
  unfold cutB at h ⊢
  split
  · rename_i h0
    have hl := idxB_lt c s
    have hlt : (idxB s c).toNat < s.length := by omega
    have hat : ∀ (s : List UInt8) (i : Nat), idxB s c = (i : Int) → s[i]? = some c := by
      intro s
      induction s with
      | nil => intro i hi; rw [idxB_nil] at hi; omega
      | cons b s ih =>
        intro i hi
        rw [idxB_cons] at hi
        by_cases hb : (b == c) = true
        · rw [if_pos hb] at hi
          have : i = 0 := by omega
          subst this
          simpa using hb
        · rw [if_neg hb] at hi
          split at hi
          · omega
          · rename_i h2
            have hge := idxB_ge s c
            have h3 : idxB s c ≠ -1 := by simpa using h2
            have h4 := ih (i - 1) (by omega)
            have : i = (i - 1) + 1 := by omega
            rw [this, List.getElem?_cons_succ]; exact h4
    have h1 := hat s (idxB s c).toNat (by omega)
    show s.take _ ++ [c] ++ s.drop _ = s
    rw [List.append_assoc, List.singleton_append, ← drop_at h1, List.take_append_drop]
  · rename_i h0
    rw [if_neg h0] at h
    exact absurd rfl h
theorem tearP_w {s : List UInt8} {t : Tr} (h : tearP s = some t) : tearW t = s := by
  unfold tearP at h
  cases ha : numP (cutB s 58).1 with
  | none => rw [ha] at h; cases h
  | some a =>
    cases hb : numP (cutB s 58).2.1 with
    | none => rw [ha, hb] at h; cases h
    | some b =>
      rw [ha, hb] at h
      cases h
      show Lib.itoa (a : Int) ++ [58] ++ Lib.itoa (b : Int) = s
      rw [numP_dec ha, numP_dec hb]
      refine cut_join fun e => ?_
      rw [e] at hb
      cases hb
theorem tearsP_w : ∀ (l : List (List UInt8)) (ts : List Tr), tearsP l = some ts → ts.map tearW = l
  | [], ts, h => by simp [tearsP] at h; subst h; rfl
  | s :: l, ts, h => by
    unfold tearsP at h
    cases ht : tearP s with
    | none => rw [ht] at h; cases h
    | some t =>
      rw [ht] at h
      simp only [Option.map_eq_some_iff] at h
      obtain ⟨ts', h1, rfl⟩ := h
      rw [List.map_cons, tearP_w ht, tearsP_w l ts' h1]
theorem len1 {α : Type} {l : List α} {d : α} (h : l.length = 1) : l = [l.getD 0 d] := by
  match l, h with
  | [a], _ => rfl
theorem len2 {α : Type} {l : List α} {d : α} (h : l.length = 2) : l = [l.getD 0 d, l.getD 1 d] := by
  match l, h with
  | [a, b], _ => rfl
theorem len3 {α : Type} {l : List α} {d : α} (h : l.length = 3) : l = [l.getD 0 d, l.getD 1 d, l.getD 2 d] := by
  match l, h with
  | [a, b, c], _ => rfl
theorem idx_plain {w : List UInt8} (h : 0 < idxS plainL w 0) : (idxS plainL w 0 = 4 ∧ w = [102, 108, 117, 115, 104]) ∨ (idxS plainL w 0 = 5 ∧ w = [115, 121, 110, 99]) ∨ (idxS plainL w 0 = 8 ∧ w = [117, 112, 103, 114, 97, 100, 101]) ∨ (idxS plainL w 0 = 9 ∧ w = [115, 116, 101, 112]) ∨ (idxS plainL w 0 = 10 ∧ w = [97, 98, 111, 114, 116]) := by
  simp only [plainL, idxS] at h ⊢
  by_cases h0 : w = []
  · rw [if_pos h0] at h; omega
  · simp only [if_neg h0] at h ⊢
    by_cases h1 : w = [102, 108, 117, 115, 104]
    · rw [if_pos h1] at h ⊢; exact .inl ⟨by omega, h1⟩
    · rw [if_neg h1] at h ⊢
      by_cases h2 : w = [115, 121, 110, 99]
      · rw [if_pos h2] at h ⊢; exact .inr (.inl ⟨by omega, h2⟩)
      · rw [if_neg h2] at h ⊢
        by_cases h3 : w = [117, 112, 103, 114, 97, 100, 101]
        · rw [if_pos h3] at h ⊢; exact .inr (.inr (.inl ⟨by omega, h3⟩))
        · rw [if_neg h3] at h ⊢
          by_cases h4 : w = [115, 116, 101, 112]
          · rw [if_pos h4] at h ⊢; exact .inr (.inr (.inr (.inl ⟨by omega, h4⟩)))
          · rw [if_neg h4] at h ⊢
            by_cases h5 : w = [97, 98, 111, 114, 116]
            · rw [if_pos h5] at h ⊢; exact .inr (.inr (.inr (.inr ⟨by omega, h5⟩)))
            · rw [if_neg h5] at h; omega
/-- The words of what words denote are these words. -/
theorem cmdP_words {w : List UInt8} {l : List (List UInt8)} {o : Opv} (h : cmdP w l = some o) : wordsO o = w :: l := by
  unfold cmdP at h
  split at h
  · rename_i h1
    cases h
    rw [h1.2]
    rcases idx_plain h1.1 with ⟨e, rfl⟩ | ⟨e, rfl⟩ | ⟨e, rfl⟩ | ⟨e, rfl⟩ | ⟨e, rfl⟩ <;> rw [e] <;> rfl
  split at h
  · rename_i h1
    simp only [Option.map_eq_some_iff] at h
    obtain ⟨k, h2, rfl⟩ := h
    rw [len1 (d := []) h1.2, h1.1, ← textP_txt h2]; rfl
  split at h
  · rename_i h1
    simp only [Option.map_eq_some_iff] at h
    obtain ⟨k, h2, rfl⟩ := h
    rw [len1 (d := []) h1.2, h1.1, ← textP_txt h2]; rfl
  split at h
  · rename_i h1
    split at h
    · rename_i k v n e1 e2 e3
      cases h
      rw [len3 (d := []) h1.2, h1.1, ← textP_txt e1, ← textP_txt e2, ← numP_dec e3]; rfl
    · cases h
  split at h
  · rename_i h1
    simp only [Option.map_eq_some_iff] at h
    obtain ⟨k, h2, rfl⟩ := h
    rw [len1 (d := []) h1.2, h1.1, ← numP_dec h2]; rfl
  split at h
  · rename_i h1
    simp only [Option.map_eq_some_iff] at h
    obtain ⟨k, h2, rfl⟩ := h
    rw [len1 (d := []) h1.2, h1.1, ← numP_dec h2]; rfl
  split at h
  · rename_i h1
    split at h
    · rename_i a b e1 e2
      cases h
      rw [len2 (d := []) h1.2, h1.1, ← numP_dec e1, ← numP_dec e2]; rfl
    · cases h
  split at h
  · rename_i h1
    split at h
    · rename_i k t e1 e2
      cases h
      obtain ⟨x, l', rfl⟩ : ∃ x l', l = x :: l' := List.exists_cons_of_length_pos h1.2
      have e3 := bitsP_ch e1
      have e4 := tearsP_w _ _ e2
      rw [h1.1]
      show [99, 114, 97, 115, 104] :: chW k :: t.map tearW = _
      rw [e3, e4]; rfl
    · cases h
  cases h
theorem join_words (c : UInt8) : ∀ s, Lib.join (wordsB c s) [c] = s
  | [] => by rw [show wordsB c [] = [[]] from rfl, Lib.join_one]
  | b :: s => by
    have ih := join_words c s
    rw [wordsB_cons]
    obtain ⟨x, xs, hx⟩ := List.exists_cons_of_ne_nil (wordsB_ne c s)
    rw [hx, Lib.join_cons] at ih
    split
    · rename_i e
      subst e
      rw [hx, Lib.join_cons]
      show [] ++ Lib.joinTail [b] (x :: xs) = b :: s
      rw [← ih]
      simp [Lib.joinTail]
    · rw [hx]
      show Lib.join ((b :: x) :: xs) [c] = _
      rw [Lib.join_cons, List.cons_append, ih]
/-- The line of what a line denotes is the line. -/
theorem parseP_line {s : List UInt8} {o : Opv} (h : parseP s = some o) : lineO o = s := by
  unfold parseP at h
  split at h
  · cases h
  · split at h
    · rename_i w l hw
      rw [lineO, cmdP_words h, ← hw, join_words]
    · cases h
end Go.Abs
namespace Go.Abs
attribute [local irreducible] AStep aops AWp Nx awM APanic
def cel0 : List AV := [.int .i64 0, .nils, .nils, .int .i64 0, .int .i64 0, .int .i64 0, .nils, .nils]
theorem hok_c0 : HOk 1 [some (.cells cel0 26)] := fun j o ho => by
  match j, ho with
  | 0, ho => cases ho; exact ⟨trivial, trivial, trivial, trivial, trivial, trivial, trivial, trivial, trivial⟩
theorem dec_b {p q : Prop} {_ : Decidable p} {_ : Decidable q} (h : p ↔ q) : AV.bool (decide p) = .bool (decide q) := congrArg AV.bool (decide_eq_decide.2 h)
theorem dec_f {q : Prop} {_ : Decidable q} (h : ¬ q) : AV.bool false = .bool (decide q) := by simp [h]
theorem len_1 {α β : Type} {f : α → β} {w : α} {l : List α} : ((((w :: l).map f).length : Nat) : Int) = 1 ↔ l = [] := by
  cases l with
  | nil => simp
  | cons a l => simp; omega
theorem len_k {α β : Type} {f : α → β} {l : List α} {k : Nat} : (((l.map f).length : Nat) : Int) = (k : Int) ↔ l.length = k := by simp; omega
theorem len_p {α β : Type} {f : α → β} {l : List α} : (((l.map f).length : Nat) : Int) > 0 ↔ 0 < l.length := by simp
theorem bnd_lenS {ρ : Operand → AV} {α : Type} {f : α → AV} {w : α} {l : List α} : Bnd ρ none ((w :: l).map f).length (l.length + 1) := by simp [Bnd]
theorem wkC {xs ys : List AV} (h : WkL xs ys) : Wk (.agg xs) (.agg ys) := wk_agg h
set_option maxHeartbeats 0 in
theorem cmd_ends (X : Nat → Prop) (w : List UInt8) (l : List (List UInt8)) (hl : l.length ≤ 100000) (hs : ∀ s ∈ l, s.length ≤ 1073741824) :
    AEnds (E0 X) 18 [.sl 1 ((w :: l).map strA)] [] (fun r _ => ∃ o, cmdP w l = some o ∧ Wk r (opS o)) (cmdP w l = none) := by
  refine aends_of Proofs.Tryd.func18 rfl Proofs.Tryd.ntmps18 (by kernel_rfl) rfl ?_
  repeat' (first | ((refine Qa rfl ?_); (refine QJ rfl rfl ?_); (refine QX rfl rfl ?_)) | refine Qh ?_ | refine Ql ?_ | refine Qo rfl ?_)
  refine awp_region_auto2 [] [] (by exact rfl) (by kernel_rfl) ?_
  apply ds rfl rfl rfl rfl
  · refine st_call (fun _ => rfl) rfl ?_
    refine ACalls.mono (acalls_pure (E := E0 X) (fun X => plain_c X) (by simp [IdsLtL]) _) ?_
    rintro r H' ⟨rfl, rfl⟩
    first
    | exact nx rfl rfl ⟨rfl, rfl⟩
    | exact nx0 ⟨rfl, rfl⟩
  repeat' ((apply Qd rfl rfl rfl rfl); (refine Q0 ?_); (exact QX rfl rfl ⟨rfl, rfl⟩))
  apply ds rfl rfl rfl rfl
  · refine st_ixm (show (w :: l)[0]? = some w from rfl) rfl rfl rfl rfl rfl rfl rfl (by first | rfl | omega) rfl ?_
    first | exact nx rfl rfl ⟨rfl, rfl⟩ | exact nx0 ⟨rfl, rfl⟩
  repeat' ((apply Qd rfl rfl rfl rfl); (refine Q3 rfl rfl rfl ?_); (exact QX rfl rfl ⟨rfl, rfl⟩))
  apply ds rfl rfl rfl rfl
  · refine st_call (fun _ => rfl) rfl ?_
    refine ACalls.mono (acalls_pure (E := E0 X) (fun X => index_c X plainL w (by decide)) ⟨ids_str _, trivial, trivial⟩ _) ?_
    rintro r H' ⟨rfl, rfl⟩
    first
    | exact nx rfl rfl ⟨rfl, rfl⟩
    | exact nx0 ⟨rfl, rfl⟩
  repeat' (first | ((apply Qd rfl rfl rfl rfl); (refine Q1 ?_); (exact QX rfl rfl ⟨rfl, rfl⟩)) | refine Qk ?_ | refine Qs ?_)
  refine Ql ?_
  refine awp_mid (s1 := ⟨[(17, .bool (decide (0 < idxS plainL w 0 ∧ l = []))), (3, .int .i64 (idxS plainL w 0)), (0, .sl 1 ((w :: l).map strA)), (2, .ptr 0 0)], [some (.cells cel0 26)]⟩) ?_ ?_
  · repeat' (first | ((refine Qa rfl ?_); (first | refine Q0 ?_ | refine Q2 rfl ?_ | refine Q5 rfl ?_ | refine Q7 rfl rfl rfl ?_); (refine QX rfl rfl ?_)) | refine Qh ?_ | refine Qi rfl ?_ | refine Qo rfl ?_ | ((fail_if_success refine QV rfl ?_); refine Qy rfl rfl (fun _ => ?_) (fun _ => ?_)))
    all_goals refine ⟨rfl, imp_cutk 1 (Nat.zero_le _) hok_c0 rfl (by simp) ?_⟩
    all_goals (refine fa_cons ⟨?_, trivial⟩ (fa_cons ⟨rfl, trivial⟩ (fa_cons ⟨rfl, ids_str _⟩ (fa_cons ⟨rfl, Nat.zero_lt_one⟩ fa_nil))))
    · rename_i h1
      exact dec_b (by rw [len_1]; exact ⟨fun h => ⟨h1, h⟩, fun h => h.2⟩)
    · rename_i h1
      exact dec_f fun h => h1 h.1
  refine awp_cond_dec rfl (fun h1 => ?_) (fun h1 => ?_)
  · repeat' (first | ((refine Qa rfl ?_); (first | refine Q0 ?_ | refine QP rfl rfl rfl rfl rfl rfl ?_); (refine QX rfl rfl ?_)) | (refine Qb rfl ?_; try (refine QS rfl rfl rfl rfl rfl rfl rfl ?_; (refine QX rfl rfl ?_))) | refine Qh ?_ | refine Ql ?_ | refine Qo rfl ?_ | refine Qs ?_)
    refine awp_ret ?_
    refine ⟨_, rfl, op0 (idxS plainL w 0), ?_, wkC ?_⟩
    · rw [cmdP, if_pos h1]
    · exact wkL_cons (Wk.refl _) (wkL_cons wk_nil (wkL_cons wk_nil (wkL_cons (Wk.refl _) (wkL_cons (Wk.refl _) (wkL_cons (Wk.refl _) (wkL_cons wk_nil (wkL_cons wk_nil wkL_nil)))))))
  repeat' (first | refine Qm ?_ | refine Qs ?_)
  refine Ql ?_
  repeat' (refine Ql ?_)
  refine awp_region_auto2 [] [] (by exact rfl) (by kernel_rfl) ?_
  repeat' ((apply Qd rfl rfl rfl rfl); (refine Q0 ?_); (exact QX rfl rfl ⟨rfl, rfl⟩))
  apply ds rfl rfl rfl rfl
  · refine st_ixm (show (w :: l)[0]? = some w from rfl) rfl rfl rfl rfl rfl rfl rfl (by first | rfl | omega) rfl ?_
    first | exact nx rfl rfl ⟨rfl, rfl⟩ | exact nx0 ⟨rfl, rfl⟩
  repeat' ((apply Qd rfl rfl rfl rfl); (first | refine Q0 ?_ | refine Q3 rfl rfl rfl ?_); (exact QX rfl rfl ⟨rfl, rfl⟩))
  apply ds rfl rfl rfl rfl
  · refine st_sls (l := 1) (h := l.length + 1) (ys := l) (bnd_some rfl rfl) (bnd_lenS) (by omega) (by simp) (by simp) rfl rfl rfl rfl rfl ?_
    first | exact nx rfl rfl ⟨rfl, rfl⟩ | exact nx0 ⟨rfl, rfl⟩
  repeat' (first | ((apply Qd rfl rfl rfl rfl); (refine Q1 ?_); (exact QX rfl rfl ⟨rfl, rfl⟩)) | refine Qk ?_ | refine Qs ?_)
  refine Qn ?_
  refine Ql ?_
  refine awp_mid (s1 := ⟨[(25, .bool (decide (w = [103, 101, 116] ∧ l.length = 1))), (4, .str w), (5, .sl 1 (l.map strA)), (2, .ptr 0 0)], [some (.cells cel0 26)]⟩) ?_ ?_
  · repeat' (first | ((refine Qa rfl ?_); (first | refine Q0 ?_ | refine Q1 ?_ | refine Q2 rfl ?_ | refine Q5 rfl ?_ | refine Q7 rfl rfl rfl ?_); (refine QX rfl rfl ?_)) | refine Qh ?_ | refine Qi rfl ?_ | refine Qo rfl ?_ | ((fail_if_success refine QV rfl ?_); refine Qy rfl rfl (fun _ => ?_) (fun _ => ?_)))
    all_goals refine ⟨rfl, imp_cutk 1 (Nat.zero_le _) hok_c0 rfl (by simp) ?_⟩
    all_goals (refine fa_cons ⟨?_, trivial⟩ (fa_cons ⟨rfl, trivial⟩ (fa_cons ⟨rfl, ids_str _⟩ (fa_cons ⟨rfl, Nat.zero_lt_one⟩ fa_nil))))
    · rename_i h
      exact dec_b ((len_k (k := 1)).trans ⟨fun h2 => ⟨h, h2⟩, fun h2 => h2.2⟩)
    · rename_i h
      exact dec_f fun h2 => h h2.1
  refine awp_cond_dec rfl (fun h_get => ?_) (fun h_get => ?_)
  · obtain ⟨s, rfl⟩ : ∃ s, l = [s] := ⟨_, len1 (d := []) h_get.2⟩
    have hsl := hs s (by simp)
    have hP : cmdP w [s] = (textP s).map fun v => { op0 1 with key := v } := by rw [cmdP, if_neg h1, if_pos h_get]; rfl
    rw [hP]
    cases hv : textP s with
    | none =>
      repeat' (refine Ql ?_)
      refine awp_region_panicK 3 rfl rfl (by exact rfl) ?_
      repeat' (first | ((refine Qa rfl ?_); (refine Q0 ?_); (refine QX rfl rfl ?_)) | refine Qa rfl ?_)
      refine st_ixm (show ([s] : List (List UInt8))[0]? = some s from rfl) rfl rfl rfl rfl rfl rfl rfl (by first | rfl | omega) rfl ?_
      first | refine nx rfl rfl ?_ | refine nx0 ?_
      repeat' (first | ((refine Qa rfl ?_); (refine Q3 rfl rfl rfl ?_); (refine QX rfl rfl ?_)) | refine Qh ?_)
      refine ⟨rfl, ?_⟩
      refine pn_call (fun _ => rfl) rfl ?_
      exact (text_noP X s hsl hv _).mono fun _ _ ch hch => ⟨hch, rfl⟩
    | some v =>
      repeat' (first | ((refine Qa rfl ?_); (refine Q0 ?_); (refine QX rfl rfl ?_)) | refine Qa rfl ?_ | refine Ql ?_ | refine Qo rfl ?_)
      refine st_ixm (show ([s] : List (List UInt8))[0]? = some s from rfl) rfl rfl rfl rfl rfl rfl rfl (by first | rfl | omega) rfl ?_
      first | refine nx rfl rfl ?_ | refine nx0 ?_
      repeat' (first | ((refine Qa rfl ?_); (refine Q3 rfl rfl rfl ?_); (refine QX rfl rfl ?_)) | refine Qa rfl ?_)
      refine st_call (fun _ => rfl) rfl ?_
      refine ACalls.mono (acalls_pure (E := E0 X) (fun X => text_s X s v hsl hv) (by simp [IdsLtL, IdsLt]) _) ?_
      rintro r H' ⟨rfl, rfl⟩
      first | refine nx rfl rfl ?_ | refine nx0 ?_
      repeat' (first | ((refine Qa rfl ?_); (refine QP rfl rfl rfl rfl rfl rfl ?_); (refine QX rfl rfl ?_)) | (refine Qb rfl ?_; try (refine QS rfl rfl rfl rfl rfl rfl rfl ?_; (refine QX rfl rfl ?_))) | refine Qh ?_ | refine Qs ?_)
      refine awp_ret ?_
      exact ⟨_, rfl, { op0 1 with key := v }, rfl, wkC (wkL_cons (Wk.refl _) (wkL_cons (Wk.refl _) (wkL_cons wk_nil (wkL_cons (Wk.refl _) (wkL_cons (Wk.refl _) (wkL_cons (Wk.refl _) (wkL_cons wk_nil (wkL_cons wk_nil (wkL_nil)))))))))⟩
  refine Ql ?_
  refine awp_mid (s1 := ⟨[(38, .bool (decide (w = [100, 101, 108, 101, 116, 101] ∧ l.length = 1))), (4, .str w), (5, .sl 1 (l.map strA)), (2, .ptr 0 0)], [some (.cells cel0 26)]⟩) ?_ ?_
  · repeat' (first | ((refine Qa rfl ?_); (first | refine Q0 ?_ | refine Q1 ?_ | refine Q2 rfl ?_ | refine Q5 rfl ?_ | refine Q7 rfl rfl rfl ?_); (refine QX rfl rfl ?_)) | refine Qh ?_ | refine Qi rfl ?_ | refine Qo rfl ?_ | ((fail_if_success refine QV rfl ?_); refine Qy rfl rfl (fun _ => ?_) (fun _ => ?_)))
    all_goals refine ⟨rfl, imp_cutk 1 (Nat.zero_le _) hok_c0 rfl (by simp) ?_⟩
    all_goals (refine fa_cons ⟨?_, trivial⟩ (fa_cons ⟨rfl, trivial⟩ (fa_cons ⟨rfl, ids_str _⟩ (fa_cons ⟨rfl, Nat.zero_lt_one⟩ fa_nil))))
    · rename_i h
      exact dec_b ((len_k (k := 1)).trans ⟨fun h2 => ⟨h, h2⟩, fun h2 => h2.2⟩)
    · rename_i h
      exact dec_f fun h2 => h h2.1
  refine awp_cond_dec rfl (fun h_delete => ?_) (fun h_delete => ?_)
  · obtain ⟨s, rfl⟩ : ∃ s, l = [s] := ⟨_, len1 (d := []) h_delete.2⟩
    have hsl := hs s (by simp)
    have hP : cmdP w [s] = (textP s).map fun v => { op0 3 with key := v } := by rw [cmdP, if_neg h1, if_neg h_get, if_pos h_delete]; rfl
    rw [hP]
    cases hv : textP s with
    | none =>
      repeat' (refine Ql ?_)
      refine awp_region_panicK 3 rfl rfl (by exact rfl) ?_
      repeat' (first | ((refine Qa rfl ?_); (refine Q0 ?_); (refine QX rfl rfl ?_)) | refine Qa rfl ?_)
      refine st_ixm (show ([s] : List (List UInt8))[0]? = some s from rfl) rfl rfl rfl rfl rfl rfl rfl (by first | rfl | omega) rfl ?_
      first | refine nx rfl rfl ?_ | refine nx0 ?_
      repeat' (first | ((refine Qa rfl ?_); (refine Q3 rfl rfl rfl ?_); (refine QX rfl rfl ?_)) | refine Qh ?_)
      refine ⟨rfl, ?_⟩
      refine pn_call (fun _ => rfl) rfl ?_
      exact (text_noP X s hsl hv _).mono fun _ _ ch hch => ⟨hch, rfl⟩
    | some v =>
      repeat' (first | ((refine Qa rfl ?_); (refine Q0 ?_); (refine QX rfl rfl ?_)) | refine Qa rfl ?_ | refine Ql ?_ | refine Qo rfl ?_)
      refine st_ixm (show ([s] : List (List UInt8))[0]? = some s from rfl) rfl rfl rfl rfl rfl rfl rfl (by first | rfl | omega) rfl ?_
      first | refine nx rfl rfl ?_ | refine nx0 ?_
      repeat' (first | ((refine Qa rfl ?_); (refine Q3 rfl rfl rfl ?_); (refine QX rfl rfl ?_)) | refine Qa rfl ?_)
      refine st_call (fun _ => rfl) rfl ?_
      refine ACalls.mono (acalls_pure (E := E0 X) (fun X => text_s X s v hsl hv) (by simp [IdsLtL, IdsLt]) _) ?_
      rintro r H' ⟨rfl, rfl⟩
      first | refine nx rfl rfl ?_ | refine nx0 ?_
      repeat' (first | ((refine Qa rfl ?_); (refine QP rfl rfl rfl rfl rfl rfl ?_); (refine QX rfl rfl ?_)) | (refine Qb rfl ?_; try (refine QS rfl rfl rfl rfl rfl rfl rfl ?_; (refine QX rfl rfl ?_))) | refine Qh ?_ | refine Qs ?_)
      refine awp_ret ?_
      exact ⟨_, rfl, { op0 3 with key := v }, rfl, wkC (wkL_cons (Wk.refl _) (wkL_cons (Wk.refl _) (wkL_cons wk_nil (wkL_cons (Wk.refl _) (wkL_cons (Wk.refl _) (wkL_cons (Wk.refl _) (wkL_cons wk_nil (wkL_cons wk_nil (wkL_nil)))))))))⟩
  refine Ql ?_
  refine awp_mid (s1 := ⟨[(51, .bool (decide (w = [115, 101, 116] ∧ l.length = 3))), (4, .str w), (5, .sl 1 (l.map strA)), (2, .ptr 0 0)], [some (.cells cel0 26)]⟩) ?_ ?_
  · repeat' (first | ((refine Qa rfl ?_); (first | refine Q0 ?_ | refine Q1 ?_ | refine Q2 rfl ?_ | refine Q5 rfl ?_ | refine Q7 rfl rfl rfl ?_); (refine QX rfl rfl ?_)) | refine Qh ?_ | refine Qi rfl ?_ | refine Qo rfl ?_ | ((fail_if_success refine QV rfl ?_); refine Qy rfl rfl (fun _ => ?_) (fun _ => ?_)))
    all_goals refine ⟨rfl, imp_cutk 1 (Nat.zero_le _) hok_c0 rfl (by simp) ?_⟩
    all_goals (refine fa_cons ⟨?_, trivial⟩ (fa_cons ⟨rfl, trivial⟩ (fa_cons ⟨rfl, ids_str _⟩ (fa_cons ⟨rfl, Nat.zero_lt_one⟩ fa_nil))))
    · rename_i h
      exact dec_b ((len_k (k := 3)).trans ⟨fun h2 => ⟨h, h2⟩, fun h2 => h2.2⟩)
    · rename_i h
      exact dec_f fun h2 => h h2.1
  refine awp_cond_dec rfl (fun h_set => ?_) (fun h_set => ?_)
  · obtain ⟨a, b, c, rfl⟩ : ∃ a b c, l = [a, b, c] := ⟨_, _, _, len3 (d := []) h_set.2⟩
    have ha := hs a (by simp)
    have hb := hs b (by simp)
    have hP : cmdP w [a, b, c] = match textP a, textP b, numP c with | some k, some v, some n => some { op0 2 with key := k, val := v, n := (n : Int) } | _, _, _ => none := by rw [cmdP, if_neg h1, if_neg h_get, if_neg h_delete, if_pos h_set]; rfl
    rw [hP]
    cases hv0 : textP a with
    | none =>
      cases hv1 : textP b with
      | none =>
        cases hv2 : numP c with
        | none =>
          repeat' (refine Ql ?_)
          refine awp_region_panicD [0, 1, 2, 4, 5, 6, 8, 9, 10] [3, 7, 11] 3 [(59, .sl 1 ([a, b, c].map strA)), (60, .fp [.str a]), (61, .str a), (63, .sl 1 ([a, b, c].map strA)), (64, .fp [.str b]), (65, .str b), (67, .sl 1 ([a, b, c].map strA)), (68, .fp [.str c]), (69, .str c)] (K := fun _ => True) (by exact rfl) (by kernel_rfl) ?_ ?_ ?_
          · refine okL_cons rfl ?_ ?_
            · first | refine st_move ?_ | refine st_assign ?_ | refine st_bin rfl ?_ | refine st_shl rfl rfl (by decide) ?_ | refine st_load rfl rfl rfl ?_
              exact ⟨fun d hd => by cases hd; rfl, rfl⟩
            refine okL_cons rfl ?_ ?_
            · refine st_ixm (show ([a, b, c] : List (List UInt8))[0]? = some a from rfl) rfl rfl rfl rfl rfl rfl rfl (by first | rfl | omega) rfl ?_
              exact ⟨fun d hd => by cases hd; rfl, rfl⟩
            refine okL_cons rfl ?_ ?_
            · first | refine st_move ?_ | refine st_assign ?_ | refine st_bin rfl ?_ | refine st_shl rfl rfl (by decide) ?_ | refine st_load rfl rfl rfl ?_
              exact ⟨fun d hd => by cases hd; rfl, rfl⟩
            refine okL_cons rfl ?_ ?_
            · first | refine st_move ?_ | refine st_assign ?_ | refine st_bin rfl ?_ | refine st_shl rfl rfl (by decide) ?_ | refine st_load rfl rfl rfl ?_
              exact ⟨fun d hd => by cases hd; rfl, rfl⟩
            refine okL_cons rfl ?_ ?_
            · refine st_ixm (show ([a, b, c] : List (List UInt8))[1]? = some b from rfl) rfl rfl rfl rfl rfl rfl rfl (by first | rfl | omega) rfl ?_
              exact ⟨fun d hd => by cases hd; rfl, rfl⟩
            refine okL_cons rfl ?_ ?_
            · first | refine st_move ?_ | refine st_assign ?_ | refine st_bin rfl ?_ | refine st_shl rfl rfl (by decide) ?_ | refine st_load rfl rfl rfl ?_
              exact ⟨fun d hd => by cases hd; rfl, rfl⟩
            refine okL_cons rfl ?_ ?_
            · first | refine st_move ?_ | refine st_assign ?_ | refine st_bin rfl ?_ | refine st_shl rfl rfl (by decide) ?_ | refine st_load rfl rfl rfl ?_
              exact ⟨fun d hd => by cases hd; rfl, rfl⟩
            refine okL_cons rfl ?_ ?_
            · refine st_ixm (show ([a, b, c] : List (List UInt8))[2]? = some c from rfl) rfl rfl rfl rfl rfl rfl rfl (by first | rfl | omega) rfl ?_
              exact ⟨fun d hd => by cases hd; rfl, rfl⟩
            refine okL_cons rfl ?_ ?_
            · first | refine st_move ?_ | refine st_assign ?_ | refine st_bin rfl ?_ | refine st_shl rfl rfl (by decide) ?_ | refine st_load rfl rfl rfl ?_
              exact ⟨fun d hd => by cases hd; rfl, rfl⟩
            exact okL_nil
          · refine pnL_cons rfl ?_ ?_
            · refine pn_call (fun _ => rfl) rfl ?_
              exact text_noP X a ha hv0 _
            refine pnL_cons rfl ?_ ?_
            · refine pn_call (fun _ => rfl) rfl ?_
              exact text_noP X b hb hv1 _
            refine pnL_cons rfl ?_ ?_
            · refine pn_call (fun _ => rfl) rfl ?_
              exact number_noP X c hv2 _
            exact pnL_nil
          · intro ch H2 hch _
            exact ⟨hch, rfl⟩
        | some v2 =>
          repeat' (refine Ql ?_)
          refine awp_region_panicD [0, 1, 2, 4, 5, 6, 8, 9, 10, 11] [3, 7] 3 [(59, .sl 1 ([a, b, c].map strA)), (60, .fp [.str a]), (61, .str a), (63, .sl 1 ([a, b, c].map strA)), (64, .fp [.str b]), (65, .str b), (67, .sl 1 ([a, b, c].map strA)), (68, .fp [.str c]), (69, .str c), (70, .int .i64 (v2 : Int))] (K := fun _ => True) (by exact rfl) (by kernel_rfl) ?_ ?_ ?_
          · refine okL_cons rfl ?_ ?_
            · first | refine st_move ?_ | refine st_assign ?_ | refine st_bin rfl ?_ | refine st_shl rfl rfl (by decide) ?_ | refine st_load rfl rfl rfl ?_
              exact ⟨fun d hd => by cases hd; rfl, rfl⟩
            refine okL_cons rfl ?_ ?_
            · refine st_ixm (show ([a, b, c] : List (List UInt8))[0]? = some a from rfl) rfl rfl rfl rfl rfl rfl rfl (by first | rfl | omega) rfl ?_
              exact ⟨fun d hd => by cases hd; rfl, rfl⟩
            refine okL_cons rfl ?_ ?_
            · first | refine st_move ?_ | refine st_assign ?_ | refine st_bin rfl ?_ | refine st_shl rfl rfl (by decide) ?_ | refine st_load rfl rfl rfl ?_
              exact ⟨fun d hd => by cases hd; rfl, rfl⟩
            refine okL_cons rfl ?_ ?_
            · first | refine st_move ?_ | refine st_assign ?_ | refine st_bin rfl ?_ | refine st_shl rfl rfl (by decide) ?_ | refine st_load rfl rfl rfl ?_
              exact ⟨fun d hd => by cases hd; rfl, rfl⟩
            refine okL_cons rfl ?_ ?_
            · refine st_ixm (show ([a, b, c] : List (List UInt8))[1]? = some b from rfl) rfl rfl rfl rfl rfl rfl rfl (by first | rfl | omega) rfl ?_
              exact ⟨fun d hd => by cases hd; rfl, rfl⟩
            refine okL_cons rfl ?_ ?_
            · first | refine st_move ?_ | refine st_assign ?_ | refine st_bin rfl ?_ | refine st_shl rfl rfl (by decide) ?_ | refine st_load rfl rfl rfl ?_
              exact ⟨fun d hd => by cases hd; rfl, rfl⟩
            refine okL_cons rfl ?_ ?_
            · first | refine st_move ?_ | refine st_assign ?_ | refine st_bin rfl ?_ | refine st_shl rfl rfl (by decide) ?_ | refine st_load rfl rfl rfl ?_
              exact ⟨fun d hd => by cases hd; rfl, rfl⟩
            refine okL_cons rfl ?_ ?_
            · refine st_ixm (show ([a, b, c] : List (List UInt8))[2]? = some c from rfl) rfl rfl rfl rfl rfl rfl rfl (by first | rfl | omega) rfl ?_
              exact ⟨fun d hd => by cases hd; rfl, rfl⟩
            refine okL_cons rfl ?_ ?_
            · first | refine st_move ?_ | refine st_assign ?_ | refine st_bin rfl ?_ | refine st_shl rfl rfl (by decide) ?_ | refine st_load rfl rfl rfl ?_
              exact ⟨fun d hd => by cases hd; rfl, rfl⟩
            refine okL_cons rfl ?_ ?_
            · refine st_call (fun _ => rfl) rfl ?_
              refine ACalls.mono (acalls_pure (E := E0 X) (fun X => number_go X c v2 hv2) (by simp [IdsLtL, IdsLt]) _) ?_
              rintro r H' ⟨rfl, rfl⟩
              exact ⟨fun d hd => by cases hd; rfl, rfl⟩
            exact okL_nil
          · refine pnL_cons rfl ?_ ?_
            · refine pn_call (fun _ => rfl) rfl ?_
              exact text_noP X a ha hv0 _
            refine pnL_cons rfl ?_ ?_
            · refine pn_call (fun _ => rfl) rfl ?_
              exact text_noP X b hb hv1 _
            exact pnL_nil
          · intro ch H2 hch _
            exact ⟨hch, rfl⟩
      | some v1 =>
        cases hv2 : numP c with
        | none =>
          repeat' (refine Ql ?_)
          refine awp_region_panicD [0, 1, 2, 4, 5, 6, 7, 8, 9, 10] [3, 11] 3 [(59, .sl 1 ([a, b, c].map strA)), (60, .fp [.str a]), (61, .str a), (63, .sl 1 ([a, b, c].map strA)), (64, .fp [.str b]), (65, .str b), (66, .sl 1 (v1.map u8A)), (67, .sl 1 ([a, b, c].map strA)), (68, .fp [.str c]), (69, .str c)] (K := fun _ => True) (by exact rfl) (by kernel_rfl) ?_ ?_ ?_
          · refine okL_cons rfl ?_ ?_
            · first | refine st_move ?_ | refine st_assign ?_ | refine st_bin rfl ?_ | refine st_shl rfl rfl (by decide) ?_ | refine st_load rfl rfl rfl ?_
              exact ⟨fun d hd => by cases hd; rfl, rfl⟩
            refine okL_cons rfl ?_ ?_
            · refine st_ixm (show ([a, b, c] : List (List UInt8))[0]? = some a from rfl) rfl rfl rfl rfl rfl rfl rfl (by first | rfl | omega) rfl ?_
              exact ⟨fun d hd => by cases hd; rfl, rfl⟩
            refine okL_cons rfl ?_ ?_
            · first | refine st_move ?_ | refine st_assign ?_ | refine st_bin rfl ?_ | refine st_shl rfl rfl (by decide) ?_ | refine st_load rfl rfl rfl ?_
              exact ⟨fun d hd => by cases hd; rfl, rfl⟩
            refine okL_cons rfl ?_ ?_
            · first | refine st_move ?_ | refine st_assign ?_ | refine st_bin rfl ?_ | refine st_shl rfl rfl (by decide) ?_ | refine st_load rfl rfl rfl ?_
              exact ⟨fun d hd => by cases hd; rfl, rfl⟩
            refine okL_cons rfl ?_ ?_
            · refine st_ixm (show ([a, b, c] : List (List UInt8))[1]? = some b from rfl) rfl rfl rfl rfl rfl rfl rfl (by first | rfl | omega) rfl ?_
              exact ⟨fun d hd => by cases hd; rfl, rfl⟩
            refine okL_cons rfl ?_ ?_
            · first | refine st_move ?_ | refine st_assign ?_ | refine st_bin rfl ?_ | refine st_shl rfl rfl (by decide) ?_ | refine st_load rfl rfl rfl ?_
              exact ⟨fun d hd => by cases hd; rfl, rfl⟩
            refine okL_cons rfl ?_ ?_
            · refine st_call (fun _ => rfl) rfl ?_
              refine ACalls.mono (acalls_pure (E := E0 X) (fun X => text_s X b v1 hb hv1) (by simp [IdsLtL, IdsLt]) _) ?_
              rintro r H' ⟨rfl, rfl⟩
              exact ⟨fun d hd => by cases hd; rfl, rfl⟩
            refine okL_cons rfl ?_ ?_
            · first | refine st_move ?_ | refine st_assign ?_ | refine st_bin rfl ?_ | refine st_shl rfl rfl (by decide) ?_ | refine st_load rfl rfl rfl ?_
              exact ⟨fun d hd => by cases hd; rfl, rfl⟩
            refine okL_cons rfl ?_ ?_
            · refine st_ixm (show ([a, b, c] : List (List UInt8))[2]? = some c from rfl) rfl rfl rfl rfl rfl rfl rfl (by first | rfl | omega) rfl ?_
              exact ⟨fun d hd => by cases hd; rfl, rfl⟩
            refine okL_cons rfl ?_ ?_
            · first | refine st_move ?_ | refine st_assign ?_ | refine st_bin rfl ?_ | refine st_shl rfl rfl (by decide) ?_ | refine st_load rfl rfl rfl ?_
              exact ⟨fun d hd => by cases hd; rfl, rfl⟩
            exact okL_nil
          · refine pnL_cons rfl ?_ ?_
            · refine pn_call (fun _ => rfl) rfl ?_
              exact text_noP X a ha hv0 _
            refine pnL_cons rfl ?_ ?_
            · refine pn_call (fun _ => rfl) rfl ?_
              exact number_noP X c hv2 _
            exact pnL_nil
          · intro ch H2 hch _
            exact ⟨hch, rfl⟩
        | some v2 =>
          repeat' (refine Ql ?_)
          refine awp_region_panicD [0, 1, 2, 4, 5, 6, 7, 8, 9, 10, 11] [3] 3 [(59, .sl 1 ([a, b, c].map strA)), (60, .fp [.str a]), (61, .str a), (63, .sl 1 ([a, b, c].map strA)), (64, .fp [.str b]), (65, .str b), (66, .sl 1 (v1.map u8A)), (67, .sl 1 ([a, b, c].map strA)), (68, .fp [.str c]), (69, .str c), (70, .int .i64 (v2 : Int))] (K := fun _ => True) (by exact rfl) (by kernel_rfl) ?_ ?_ ?_
          · refine okL_cons rfl ?_ ?_
            · first | refine st_move ?_ | refine st_assign ?_ | refine st_bin rfl ?_ | refine st_shl rfl rfl (by decide) ?_ | refine st_load rfl rfl rfl ?_
              exact ⟨fun d hd => by cases hd; rfl, rfl⟩
            refine okL_cons rfl ?_ ?_
            · refine st_ixm (show ([a, b, c] : List (List UInt8))[0]? = some a from rfl) rfl rfl rfl rfl rfl rfl rfl (by first | rfl | omega) rfl ?_
              exact ⟨fun d hd => by cases hd; rfl, rfl⟩
            refine okL_cons rfl ?_ ?_
            · first | refine st_move ?_ | refine st_assign ?_ | refine st_bin rfl ?_ | refine st_shl rfl rfl (by decide) ?_ | refine st_load rfl rfl rfl ?_
              exact ⟨fun d hd => by cases hd; rfl, rfl⟩
            refine okL_cons rfl ?_ ?_
            · first | refine st_move ?_ | refine st_assign ?_ | refine st_bin rfl ?_ | refine st_shl rfl rfl (by decide) ?_ | refine st_load rfl rfl rfl ?_
              exact ⟨fun d hd => by cases hd; rfl, rfl⟩
            refine okL_cons rfl ?_ ?_
            · refine st_ixm (show ([a, b, c] : List (List UInt8))[1]? = some b from rfl) rfl rfl rfl rfl rfl rfl rfl (by first | rfl | omega) rfl ?_
              exact ⟨fun d hd => by cases hd; rfl, rfl⟩
            refine okL_cons rfl ?_ ?_
            · first | refine st_move ?_ | refine st_assign ?_ | refine st_bin rfl ?_ | refine st_shl rfl rfl (by decide) ?_ | refine st_load rfl rfl rfl ?_
              exact ⟨fun d hd => by cases hd; rfl, rfl⟩
            refine okL_cons rfl ?_ ?_
            · refine st_call (fun _ => rfl) rfl ?_
              refine ACalls.mono (acalls_pure (E := E0 X) (fun X => text_s X b v1 hb hv1) (by simp [IdsLtL, IdsLt]) _) ?_
              rintro r H' ⟨rfl, rfl⟩
              exact ⟨fun d hd => by cases hd; rfl, rfl⟩
            refine okL_cons rfl ?_ ?_
            · first | refine st_move ?_ | refine st_assign ?_ | refine st_bin rfl ?_ | refine st_shl rfl rfl (by decide) ?_ | refine st_load rfl rfl rfl ?_
              exact ⟨fun d hd => by cases hd; rfl, rfl⟩
            refine okL_cons rfl ?_ ?_
            · refine st_ixm (show ([a, b, c] : List (List UInt8))[2]? = some c from rfl) rfl rfl rfl rfl rfl rfl rfl (by first | rfl | omega) rfl ?_
              exact ⟨fun d hd => by cases hd; rfl, rfl⟩
            refine okL_cons rfl ?_ ?_
            · first | refine st_move ?_ | refine st_assign ?_ | refine st_bin rfl ?_ | refine st_shl rfl rfl (by decide) ?_ | refine st_load rfl rfl rfl ?_
              exact ⟨fun d hd => by cases hd; rfl, rfl⟩
            refine okL_cons rfl ?_ ?_
            · refine st_call (fun _ => rfl) rfl ?_
              refine ACalls.mono (acalls_pure (E := E0 X) (fun X => number_go X c v2 hv2) (by simp [IdsLtL, IdsLt]) _) ?_
              rintro r H' ⟨rfl, rfl⟩
              exact ⟨fun d hd => by cases hd; rfl, rfl⟩
            exact okL_nil
          · refine pnL_cons rfl ?_ ?_
            · refine pn_call (fun _ => rfl) rfl ?_
              exact text_noP X a ha hv0 _
            exact pnL_nil
          · intro ch H2 hch _
            exact ⟨hch, rfl⟩
    | some v0 =>
      cases hv1 : textP b with
      | none =>
        cases hv2 : numP c with
        | none =>
          repeat' (refine Ql ?_)
          refine awp_region_panicD [0, 1, 2, 3, 4, 5, 6, 8, 9, 10] [7, 11] 7 [(59, .sl 1 ([a, b, c].map strA)), (60, .fp [.str a]), (61, .str a), (62, .sl 1 (v0.map u8A)), (63, .sl 1 ([a, b, c].map strA)), (64, .fp [.str b]), (65, .str b), (67, .sl 1 ([a, b, c].map strA)), (68, .fp [.str c]), (69, .str c)] (K := fun _ => True) (by exact rfl) (by kernel_rfl) ?_ ?_ ?_
          · refine okL_cons rfl ?_ ?_
            · first | refine st_move ?_ | refine st_assign ?_ | refine st_bin rfl ?_ | refine st_shl rfl rfl (by decide) ?_ | refine st_load rfl rfl rfl ?_
              exact ⟨fun d hd => by cases hd; rfl, rfl⟩
            refine okL_cons rfl ?_ ?_
            · refine st_ixm (show ([a, b, c] : List (List UInt8))[0]? = some a from rfl) rfl rfl rfl rfl rfl rfl rfl (by first | rfl | omega) rfl ?_
              exact ⟨fun d hd => by cases hd; rfl, rfl⟩
            refine okL_cons rfl ?_ ?_
            · first | refine st_move ?_ | refine st_assign ?_ | refine st_bin rfl ?_ | refine st_shl rfl rfl (by decide) ?_ | refine st_load rfl rfl rfl ?_
              exact ⟨fun d hd => by cases hd; rfl, rfl⟩
            refine okL_cons rfl ?_ ?_
            · refine st_call (fun _ => rfl) rfl ?_
              refine ACalls.mono (acalls_pure (E := E0 X) (fun X => text_s X a v0 ha hv0) (by simp [IdsLtL, IdsLt]) _) ?_
              rintro r H' ⟨rfl, rfl⟩
              exact ⟨fun d hd => by cases hd; rfl, rfl⟩
            refine okL_cons rfl ?_ ?_
            · first | refine st_move ?_ | refine st_assign ?_ | refine st_bin rfl ?_ | refine st_shl rfl rfl (by decide) ?_ | refine st_load rfl rfl rfl ?_
              exact ⟨fun d hd => by cases hd; rfl, rfl⟩
            refine okL_cons rfl ?_ ?_
            · refine st_ixm (show ([a, b, c] : List (List UInt8))[1]? = some b from rfl) rfl rfl rfl rfl rfl rfl rfl (by first | rfl | omega) rfl ?_
              exact ⟨fun d hd => by cases hd; rfl, rfl⟩
            refine okL_cons rfl ?_ ?_
            · first | refine st_move ?_ | refine st_assign ?_ | refine st_bin rfl ?_ | refine st_shl rfl rfl (by decide) ?_ | refine st_load rfl rfl rfl ?_
              exact ⟨fun d hd => by cases hd; rfl, rfl⟩
            refine okL_cons rfl ?_ ?_
            · first | refine st_move ?_ | refine st_assign ?_ | refine st_bin rfl ?_ | refine st_shl rfl rfl (by decide) ?_ | refine st_load rfl rfl rfl ?_
              exact ⟨fun d hd => by cases hd; rfl, rfl⟩
            refine okL_cons rfl ?_ ?_
            · refine st_ixm (show ([a, b, c] : List (List UInt8))[2]? = some c from rfl) rfl rfl rfl rfl rfl rfl rfl (by first | rfl | omega) rfl ?_
              exact ⟨fun d hd => by cases hd; rfl, rfl⟩
            refine okL_cons rfl ?_ ?_
            · first | refine st_move ?_ | refine st_assign ?_ | refine st_bin rfl ?_ | refine st_shl rfl rfl (by decide) ?_ | refine st_load rfl rfl rfl ?_
              exact ⟨fun d hd => by cases hd; rfl, rfl⟩
            exact okL_nil
          · refine pnL_cons rfl ?_ ?_
            · refine pn_call (fun _ => rfl) rfl ?_
              exact text_noP X b hb hv1 _
            refine pnL_cons rfl ?_ ?_
            · refine pn_call (fun _ => rfl) rfl ?_
              exact number_noP X c hv2 _
            exact pnL_nil
          · intro ch H2 hch _
            exact ⟨hch, rfl⟩
        | some v2 =>
          repeat' (refine Ql ?_)
          refine awp_region_panicD [0, 1, 2, 3, 4, 5, 6, 8, 9, 10, 11] [7] 7 [(59, .sl 1 ([a, b, c].map strA)), (60, .fp [.str a]), (61, .str a), (62, .sl 1 (v0.map u8A)), (63, .sl 1 ([a, b, c].map strA)), (64, .fp [.str b]), (65, .str b), (67, .sl 1 ([a, b, c].map strA)), (68, .fp [.str c]), (69, .str c), (70, .int .i64 (v2 : Int))] (K := fun _ => True) (by exact rfl) (by kernel_rfl) ?_ ?_ ?_
          · refine okL_cons rfl ?_ ?_
            · first | refine st_move ?_ | refine st_assign ?_ | refine st_bin rfl ?_ | refine st_shl rfl rfl (by decide) ?_ | refine st_load rfl rfl rfl ?_
              exact ⟨fun d hd => by cases hd; rfl, rfl⟩
            refine okL_cons rfl ?_ ?_
            · refine st_ixm (show ([a, b, c] : List (List UInt8))[0]? = some a from rfl) rfl rfl rfl rfl rfl rfl rfl (by first | rfl | omega) rfl ?_
              exact ⟨fun d hd => by cases hd; rfl, rfl⟩
            refine okL_cons rfl ?_ ?_
            · first | refine st_move ?_ | refine st_assign ?_ | refine st_bin rfl ?_ | refine st_shl rfl rfl (by decide) ?_ | refine st_load rfl rfl rfl ?_
              exact ⟨fun d hd => by cases hd; rfl, rfl⟩
            refine okL_cons rfl ?_ ?_
            · refine st_call (fun _ => rfl) rfl ?_
              refine ACalls.mono (acalls_pure (E := E0 X) (fun X => text_s X a v0 ha hv0) (by simp [IdsLtL, IdsLt]) _) ?_
              rintro r H' ⟨rfl, rfl⟩
              exact ⟨fun d hd => by cases hd; rfl, rfl⟩
            refine okL_cons rfl ?_ ?_
            · first | refine st_move ?_ | refine st_assign ?_ | refine st_bin rfl ?_ | refine st_shl rfl rfl (by decide) ?_ | refine st_load rfl rfl rfl ?_
              exact ⟨fun d hd => by cases hd; rfl, rfl⟩
            refine okL_cons rfl ?_ ?_
            · refine st_ixm (show ([a, b, c] : List (List UInt8))[1]? = some b from rfl) rfl rfl rfl rfl rfl rfl rfl (by first | rfl | omega) rfl ?_
              exact ⟨fun d hd => by cases hd; rfl, rfl⟩
            refine okL_cons rfl ?_ ?_
            · first | refine st_move ?_ | refine st_assign ?_ | refine st_bin rfl ?_ | refine st_shl rfl rfl (by decide) ?_ | refine st_load rfl rfl rfl ?_
              exact ⟨fun d hd => by cases hd; rfl, rfl⟩
            refine okL_cons rfl ?_ ?_
            · first | refine st_move ?_ | refine st_assign ?_ | refine st_bin rfl ?_ | refine st_shl rfl rfl (by decide) ?_ | refine st_load rfl rfl rfl ?_
              exact ⟨fun d hd => by cases hd; rfl, rfl⟩
            refine okL_cons rfl ?_ ?_
            · refine st_ixm (show ([a, b, c] : List (List UInt8))[2]? = some c from rfl) rfl rfl rfl rfl rfl rfl rfl (by first | rfl | omega) rfl ?_
              exact ⟨fun d hd => by cases hd; rfl, rfl⟩
            refine okL_cons rfl ?_ ?_
            · first | refine st_move ?_ | refine st_assign ?_ | refine st_bin rfl ?_ | refine st_shl rfl rfl (by decide) ?_ | refine st_load rfl rfl rfl ?_
              exact ⟨fun d hd => by cases hd; rfl, rfl⟩
            refine okL_cons rfl ?_ ?_
            · refine st_call (fun _ => rfl) rfl ?_
              refine ACalls.mono (acalls_pure (E := E0 X) (fun X => number_go X c v2 hv2) (by simp [IdsLtL, IdsLt]) _) ?_
              rintro r H' ⟨rfl, rfl⟩
              exact ⟨fun d hd => by cases hd; rfl, rfl⟩
            exact okL_nil
          · refine pnL_cons rfl ?_ ?_
            · refine pn_call (fun _ => rfl) rfl ?_
              exact text_noP X b hb hv1 _
            exact pnL_nil
          · intro ch H2 hch _
            exact ⟨hch, rfl⟩
      | some v1 =>
        cases hv2 : numP c with
        | none =>
          repeat' (refine Ql ?_)
          refine awp_region_panicD [0, 1, 2, 3, 4, 5, 6, 7, 8, 9, 10] [11] 11 [(59, .sl 1 ([a, b, c].map strA)), (60, .fp [.str a]), (61, .str a), (62, .sl 1 (v0.map u8A)), (63, .sl 1 ([a, b, c].map strA)), (64, .fp [.str b]), (65, .str b), (66, .sl 1 (v1.map u8A)), (67, .sl 1 ([a, b, c].map strA)), (68, .fp [.str c]), (69, .str c)] (K := fun _ => True) (by exact rfl) (by kernel_rfl) ?_ ?_ ?_
          · refine okL_cons rfl ?_ ?_
            · first | refine st_move ?_ | refine st_assign ?_ | refine st_bin rfl ?_ | refine st_shl rfl rfl (by decide) ?_ | refine st_load rfl rfl rfl ?_
              exact ⟨fun d hd => by cases hd; rfl, rfl⟩
            refine okL_cons rfl ?_ ?_
            · refine st_ixm (show ([a, b, c] : List (List UInt8))[0]? = some a from rfl) rfl rfl rfl rfl rfl rfl rfl (by first | rfl | omega) rfl ?_
              exact ⟨fun d hd => by cases hd; rfl, rfl⟩
            refine okL_cons rfl ?_ ?_
            · first | refine st_move ?_ | refine st_assign ?_ | refine st_bin rfl ?_ | refine st_shl rfl rfl (by decide) ?_ | refine st_load rfl rfl rfl ?_
              exact ⟨fun d hd => by cases hd; rfl, rfl⟩
            refine okL_cons rfl ?_ ?_
            · refine st_call (fun _ => rfl) rfl ?_
              refine ACalls.mono (acalls_pure (E := E0 X) (fun X => text_s X a v0 ha hv0) (by simp [IdsLtL, IdsLt]) _) ?_
              rintro r H' ⟨rfl, rfl⟩
              exact ⟨fun d hd => by cases hd; rfl, rfl⟩
            refine okL_cons rfl ?_ ?_
            · first | refine st_move ?_ | refine st_assign ?_ | refine st_bin rfl ?_ | refine st_shl rfl rfl (by decide) ?_ | refine st_load rfl rfl rfl ?_
              exact ⟨fun d hd => by cases hd; rfl, rfl⟩
            refine okL_cons rfl ?_ ?_
            · refine st_ixm (show ([a, b, c] : List (List UInt8))[1]? = some b from rfl) rfl rfl rfl rfl rfl rfl rfl (by first | rfl | omega) rfl ?_
              exact ⟨fun d hd => by cases hd; rfl, rfl⟩
            refine okL_cons rfl ?_ ?_
            · first | refine st_move ?_ | refine st_assign ?_ | refine st_bin rfl ?_ | refine st_shl rfl rfl (by decide) ?_ | refine st_load rfl rfl rfl ?_
              exact ⟨fun d hd => by cases hd; rfl, rfl⟩
            refine okL_cons rfl ?_ ?_
            · refine st_call (fun _ => rfl) rfl ?_
              refine ACalls.mono (acalls_pure (E := E0 X) (fun X => text_s X b v1 hb hv1) (by simp [IdsLtL, IdsLt]) _) ?_
              rintro r H' ⟨rfl, rfl⟩
              exact ⟨fun d hd => by cases hd; rfl, rfl⟩
            refine okL_cons rfl ?_ ?_
            · first | refine st_move ?_ | refine st_assign ?_ | refine st_bin rfl ?_ | refine st_shl rfl rfl (by decide) ?_ | refine st_load rfl rfl rfl ?_
              exact ⟨fun d hd => by cases hd; rfl, rfl⟩
            refine okL_cons rfl ?_ ?_
            · refine st_ixm (show ([a, b, c] : List (List UInt8))[2]? = some c from rfl) rfl rfl rfl rfl rfl rfl rfl (by first | rfl | omega) rfl ?_
              exact ⟨fun d hd => by cases hd; rfl, rfl⟩
            refine okL_cons rfl ?_ ?_
            · first | refine st_move ?_ | refine st_assign ?_ | refine st_bin rfl ?_ | refine st_shl rfl rfl (by decide) ?_ | refine st_load rfl rfl rfl ?_
              exact ⟨fun d hd => by cases hd; rfl, rfl⟩
            exact okL_nil
          · refine pnL_cons rfl ?_ ?_
            · refine pn_call (fun _ => rfl) rfl ?_
              exact number_noP X c hv2 _
            exact pnL_nil
          · intro ch H2 hch _
            exact ⟨hch, rfl⟩
        | some v2 =>
          repeat' (refine Ql ?_)
          refine awp_region_any [13] [14] (by exact rfl) ?_
          refine any_lin (fuel := 0) [0, 1, 2, 3, 4, 5, 6, 7, 8, 9, 10, 11, 12, 13] (by exact rfl) (by kernel_rfl) (by kernel_rfl) ?_
          repeat' ((apply Qd rfl rfl rfl rfl); (refine Q0 ?_); (exact QX rfl rfl ⟨rfl, rfl⟩))
          apply ds rfl rfl rfl rfl
          · refine st_ixm (show ([a, b, c] : List (List UInt8))[0]? = some a from rfl) rfl rfl rfl rfl rfl rfl rfl (by first | rfl | omega) rfl ?_
            first | exact nx rfl rfl ⟨rfl, rfl⟩ | exact nx0 ⟨rfl, rfl⟩
          repeat' ((apply Qd rfl rfl rfl rfl); (refine Q3 rfl rfl rfl ?_); (exact QX rfl rfl ⟨rfl, rfl⟩))
          apply ds rfl rfl rfl rfl
          · refine st_call (fun _ => rfl) rfl ?_
            refine ACalls.mono (acalls_pure (E := E0 X) (fun X => text_s X a v0 ha hv0) (by simp [IdsLtL, IdsLt]) _) ?_
            rintro r H' ⟨rfl, rfl⟩
            first
            | exact nx rfl rfl ⟨rfl, rfl⟩
            | exact nx0 ⟨rfl, rfl⟩
          repeat' ((apply Qd rfl rfl rfl rfl); (refine Q0 ?_); (exact QX rfl rfl ⟨rfl, rfl⟩))
          apply ds rfl rfl rfl rfl
          · refine st_ixm (show ([a, b, c] : List (List UInt8))[1]? = some b from rfl) rfl rfl rfl rfl rfl rfl rfl (by first | rfl | omega) rfl ?_
            first | exact nx rfl rfl ⟨rfl, rfl⟩ | exact nx0 ⟨rfl, rfl⟩
          repeat' ((apply Qd rfl rfl rfl rfl); (refine Q3 rfl rfl rfl ?_); (exact QX rfl rfl ⟨rfl, rfl⟩))
          apply ds rfl rfl rfl rfl
          · refine st_call (fun _ => rfl) rfl ?_
            refine ACalls.mono (acalls_pure (E := E0 X) (fun X => text_s X b v1 hb hv1) (by simp [IdsLtL, IdsLt]) _) ?_
            rintro r H' ⟨rfl, rfl⟩
            first
            | exact nx rfl rfl ⟨rfl, rfl⟩
            | exact nx0 ⟨rfl, rfl⟩
          repeat' ((apply Qd rfl rfl rfl rfl); (refine Q0 ?_); (exact QX rfl rfl ⟨rfl, rfl⟩))
          apply ds rfl rfl rfl rfl
          · refine st_ixm (show ([a, b, c] : List (List UInt8))[2]? = some c from rfl) rfl rfl rfl rfl rfl rfl rfl (by first | rfl | omega) rfl ?_
            first | exact nx rfl rfl ⟨rfl, rfl⟩ | exact nx0 ⟨rfl, rfl⟩
          repeat' ((apply Qd rfl rfl rfl rfl); (refine Q3 rfl rfl rfl ?_); (exact QX rfl rfl ⟨rfl, rfl⟩))
          apply ds rfl rfl rfl rfl
          · refine st_call (fun _ => rfl) rfl ?_
            refine ACalls.mono (acalls_pure (E := E0 X) (fun X => number_go X c v2 hv2) (by simp [IdsLtL, IdsLt]) _) ?_
            rintro r H' ⟨rfl, rfl⟩
            first
            | exact nx rfl rfl ⟨rfl, rfl⟩
            | exact nx0 ⟨rfl, rfl⟩
          repeat' (first | ((apply Qd rfl rfl rfl rfl); (refine QP rfl rfl rfl rfl rfl rfl ?_); (exact QX rfl rfl ⟨rfl, rfl⟩)) | (refine Qf rfl rfl rfl ?_; refine QS rfl rfl rfl rfl rfl rfl rfl ?_; (refine QX rfl rfl ?_)) | refine Qk ?_ | refine Qs ?_ | refine Qw (by kernel_rfl) ?_)
          refine awp_ret ?_
          exact ⟨_, rfl, { op0 2 with key := v0, val := v1, n := (v2 : Int) }, rfl, wkC (wkL_cons (Wk.refl _) (wkL_cons (Wk.refl _) (wkL_cons (Wk.refl _) (wkL_cons (Wk.refl _) (wkL_cons (Wk.refl _) (wkL_cons (Wk.refl _) (wkL_cons wk_nil (wkL_cons wk_nil (wkL_nil)))))))))⟩
  refine Ql ?_
  refine awp_mid (s1 := ⟨[(72, .bool (decide (w = [116, 105, 99, 107] ∧ l.length = 1))), (4, .str w), (5, .sl 1 (l.map strA)), (2, .ptr 0 0)], [some (.cells cel0 26)]⟩) ?_ ?_
  · repeat' (first | ((refine Qa rfl ?_); (first | refine Q0 ?_ | refine Q1 ?_ | refine Q2 rfl ?_ | refine Q5 rfl ?_ | refine Q7 rfl rfl rfl ?_); (refine QX rfl rfl ?_)) | refine Qh ?_ | refine Qi rfl ?_ | refine Qo rfl ?_ | ((fail_if_success refine QV rfl ?_); refine Qy rfl rfl (fun _ => ?_) (fun _ => ?_)))
    all_goals refine ⟨rfl, imp_cutk 1 (Nat.zero_le _) hok_c0 rfl (by simp) ?_⟩
    all_goals (refine fa_cons ⟨?_, trivial⟩ (fa_cons ⟨rfl, trivial⟩ (fa_cons ⟨rfl, ids_str _⟩ (fa_cons ⟨rfl, Nat.zero_lt_one⟩ fa_nil))))
    · rename_i h
      exact dec_b ((len_k (k := 1)).trans ⟨fun h2 => ⟨h, h2⟩, fun h2 => h2.2⟩)
    · rename_i h
      exact dec_f fun h2 => h h2.1
  refine awp_cond_dec rfl (fun h_tick => ?_) (fun h_tick => ?_)
  · obtain ⟨s, rfl⟩ : ∃ s, l = [s] := ⟨_, len1 (d := []) h_tick.2⟩
    have hsl := hs s (by simp)
    have hP : cmdP w [s] = (numP s).map fun v => { op0 6 with n := (v : Int) } := by rw [cmdP, if_neg h1, if_neg h_get, if_neg h_delete, if_neg h_set, if_pos h_tick]; rfl
    rw [hP]
    cases hv : numP s with
    | none =>
      repeat' (refine Ql ?_)
      refine awp_region_panicK 3 rfl rfl (by exact rfl) ?_
      repeat' (first | ((refine Qa rfl ?_); (refine Q0 ?_); (refine QX rfl rfl ?_)) | refine Qa rfl ?_)
      refine st_ixm (show ([s] : List (List UInt8))[0]? = some s from rfl) rfl rfl rfl rfl rfl rfl rfl (by first | rfl | omega) rfl ?_
      first | refine nx rfl rfl ?_ | refine nx0 ?_
      repeat' (first | ((refine Qa rfl ?_); (refine Q3 rfl rfl rfl ?_); (refine QX rfl rfl ?_)) | refine Qh ?_)
      refine ⟨rfl, ?_⟩
      refine pn_call (fun _ => rfl) rfl ?_
      exact (number_noP X s hv _).mono fun _ _ ch hch => ⟨hch, rfl⟩
    | some v =>
      repeat' (first | ((refine Qa rfl ?_); (refine Q0 ?_); (refine QX rfl rfl ?_)) | refine Qa rfl ?_ | refine Ql ?_ | refine Qo rfl ?_)
      refine st_ixm (show ([s] : List (List UInt8))[0]? = some s from rfl) rfl rfl rfl rfl rfl rfl rfl (by first | rfl | omega) rfl ?_
      first | refine nx rfl rfl ?_ | refine nx0 ?_
      repeat' (first | ((refine Qa rfl ?_); (refine Q3 rfl rfl rfl ?_); (refine QX rfl rfl ?_)) | refine Qa rfl ?_)
      refine st_call (fun _ => rfl) rfl ?_
      refine ACalls.mono (acalls_pure (E := E0 X) (fun X => number_go X s v hv) (by simp [IdsLtL, IdsLt]) _) ?_
      rintro r H' ⟨rfl, rfl⟩
      first | refine nx rfl rfl ?_ | refine nx0 ?_
      repeat' (first | ((refine Qa rfl ?_); (refine QP rfl rfl rfl rfl rfl rfl ?_); (refine QX rfl rfl ?_)) | (refine Qb rfl ?_; try (refine QS rfl rfl rfl rfl rfl rfl rfl ?_; (refine QX rfl rfl ?_))) | refine Qh ?_ | refine Qs ?_)
      refine awp_ret ?_
      exact ⟨_, rfl, { op0 6 with n := (v : Int) }, rfl, wkC (wkL_cons (Wk.refl _) (wkL_cons wk_nil (wkL_cons wk_nil (wkL_cons (Wk.refl _) (wkL_cons (Wk.refl _) (wkL_cons (Wk.refl _) (wkL_cons wk_nil (wkL_cons wk_nil (wkL_nil)))))))))⟩
  refine Ql ?_
  refine awp_mid (s1 := ⟨[(85, .bool (decide (w = [102, 117, 115, 101] ∧ l.length = 1))), (4, .str w), (5, .sl 1 (l.map strA)), (2, .ptr 0 0)], [some (.cells cel0 26)]⟩) ?_ ?_
  · repeat' (first | ((refine Qa rfl ?_); (first | refine Q0 ?_ | refine Q1 ?_ | refine Q2 rfl ?_ | refine Q5 rfl ?_ | refine Q7 rfl rfl rfl ?_); (refine QX rfl rfl ?_)) | refine Qh ?_ | refine Qi rfl ?_ | refine Qo rfl ?_ | ((fail_if_success refine QV rfl ?_); refine Qy rfl rfl (fun _ => ?_) (fun _ => ?_)))
    all_goals refine ⟨rfl, imp_cutk 1 (Nat.zero_le _) hok_c0 rfl (by simp) ?_⟩
    all_goals (refine fa_cons ⟨?_, trivial⟩ (fa_cons ⟨rfl, trivial⟩ (fa_cons ⟨rfl, ids_str _⟩ (fa_cons ⟨rfl, Nat.zero_lt_one⟩ fa_nil))))
    · rename_i h
      exact dec_b ((len_k (k := 1)).trans ⟨fun h2 => ⟨h, h2⟩, fun h2 => h2.2⟩)
    · rename_i h
      exact dec_f fun h2 => h h2.1
  refine awp_cond_dec rfl (fun h_fuse => ?_) (fun h_fuse => ?_)
  · obtain ⟨s, rfl⟩ : ∃ s, l = [s] := ⟨_, len1 (d := []) h_fuse.2⟩
    have hsl := hs s (by simp)
    have hP : cmdP w [s] = (numP s).map fun v => { op0 11 with n := (v : Int) } := by rw [cmdP, if_neg h1, if_neg h_get, if_neg h_delete, if_neg h_set, if_neg h_tick, if_pos h_fuse]; rfl
    rw [hP]
    cases hv : numP s with
    | none =>
      repeat' (refine Ql ?_)
      refine awp_region_panicK 3 rfl rfl (by exact rfl) ?_
      repeat' (first | ((refine Qa rfl ?_); (refine Q0 ?_); (refine QX rfl rfl ?_)) | refine Qa rfl ?_)
      refine st_ixm (show ([s] : List (List UInt8))[0]? = some s from rfl) rfl rfl rfl rfl rfl rfl rfl (by first | rfl | omega) rfl ?_
      first | refine nx rfl rfl ?_ | refine nx0 ?_
      repeat' (first | ((refine Qa rfl ?_); (refine Q3 rfl rfl rfl ?_); (refine QX rfl rfl ?_)) | refine Qh ?_)
      refine ⟨rfl, ?_⟩
      refine pn_call (fun _ => rfl) rfl ?_
      exact (number_noP X s hv _).mono fun _ _ ch hch => ⟨hch, rfl⟩
    | some v =>
      repeat' (first | ((refine Qa rfl ?_); (refine Q0 ?_); (refine QX rfl rfl ?_)) | refine Qa rfl ?_ | refine Ql ?_ | refine Qo rfl ?_)
      refine st_ixm (show ([s] : List (List UInt8))[0]? = some s from rfl) rfl rfl rfl rfl rfl rfl rfl (by first | rfl | omega) rfl ?_
      first | refine nx rfl rfl ?_ | refine nx0 ?_
      repeat' (first | ((refine Qa rfl ?_); (refine Q3 rfl rfl rfl ?_); (refine QX rfl rfl ?_)) | refine Qa rfl ?_)
      refine st_call (fun _ => rfl) rfl ?_
      refine ACalls.mono (acalls_pure (E := E0 X) (fun X => number_go X s v hv) (by simp [IdsLtL, IdsLt]) _) ?_
      rintro r H' ⟨rfl, rfl⟩
      first | refine nx rfl rfl ?_ | refine nx0 ?_
      repeat' (first | ((refine Qa rfl ?_); (refine QP rfl rfl rfl rfl rfl rfl ?_); (refine QX rfl rfl ?_)) | (refine Qb rfl ?_; try (refine QS rfl rfl rfl rfl rfl rfl rfl ?_; (refine QX rfl rfl ?_))) | refine Qh ?_ | refine Qs ?_)
      refine awp_ret ?_
      exact ⟨_, rfl, { op0 11 with n := (v : Int) }, rfl, wkC (wkL_cons (Wk.refl _) (wkL_cons wk_nil (wkL_cons wk_nil (wkL_cons (Wk.refl _) (wkL_cons (Wk.refl _) (wkL_cons (Wk.refl _) (wkL_cons wk_nil (wkL_cons wk_nil (wkL_nil)))))))))⟩
  refine Ql ?_
  refine awp_mid (s1 := ⟨[(98, .bool (decide (w = [114, 101, 115, 105, 122, 101] ∧ l.length = 2))), (4, .str w), (5, .sl 1 (l.map strA)), (2, .ptr 0 0)], [some (.cells cel0 26)]⟩) ?_ ?_
  · repeat' (first | ((refine Qa rfl ?_); (first | refine Q0 ?_ | refine Q1 ?_ | refine Q2 rfl ?_ | refine Q5 rfl ?_ | refine Q7 rfl rfl rfl ?_); (refine QX rfl rfl ?_)) | refine Qh ?_ | refine Qi rfl ?_ | refine Qo rfl ?_ | ((fail_if_success refine QV rfl ?_); refine Qy rfl rfl (fun _ => ?_) (fun _ => ?_)))
    all_goals refine ⟨rfl, imp_cutk 1 (Nat.zero_le _) hok_c0 rfl (by simp) ?_⟩
    all_goals (refine fa_cons ⟨?_, trivial⟩ (fa_cons ⟨rfl, trivial⟩ (fa_cons ⟨rfl, ids_str _⟩ (fa_cons ⟨rfl, Nat.zero_lt_one⟩ fa_nil))))
    · rename_i h
      exact dec_b ((len_k (k := 2)).trans ⟨fun h2 => ⟨h, h2⟩, fun h2 => h2.2⟩)
    · rename_i h
      exact dec_f fun h2 => h h2.1
  refine awp_cond_dec rfl (fun h_resize => ?_) (fun h_resize => ?_)
  · obtain ⟨a, b, rfl⟩ : ∃ a b, l = [a, b] := ⟨_, _, len2 (d := []) h_resize.2⟩
    have hP : cmdP w [a, b] = match numP a, numP b with | some a, some b => some { op0 7 with a := (a : Int), b := (b : Int) } | _, _ => none := by rw [cmdP, if_neg h1, if_neg h_get, if_neg h_delete, if_neg h_set, if_neg h_tick, if_neg h_fuse, if_pos h_resize]; rfl
    rw [hP]
    cases hv0 : numP a with
    | none =>
      cases hv1 : numP b with
      | none =>
        repeat' (refine Ql ?_)
        refine awp_region_panicD [0, 1, 2, 4, 5, 6] [3, 7] 3 [(106, .sl 1 ([a, b].map strA)), (107, .fp [.str a]), (108, .str a), (110, .sl 1 ([a, b].map strA)), (111, .fp [.str b]), (112, .str b)] (K := fun _ => True) (by exact rfl) (by kernel_rfl) ?_ ?_ ?_
        · refine okL_cons rfl ?_ ?_
          · first | refine st_move ?_ | refine st_assign ?_ | refine st_bin rfl ?_ | refine st_shl rfl rfl (by decide) ?_ | refine st_load rfl rfl rfl ?_
            exact ⟨fun d hd => by cases hd; rfl, rfl⟩
          refine okL_cons rfl ?_ ?_
          · refine st_ixm (show ([a, b] : List (List UInt8))[0]? = some a from rfl) rfl rfl rfl rfl rfl rfl rfl (by first | rfl | omega) rfl ?_
            exact ⟨fun d hd => by cases hd; rfl, rfl⟩
          refine okL_cons rfl ?_ ?_
          · first | refine st_move ?_ | refine st_assign ?_ | refine st_bin rfl ?_ | refine st_shl rfl rfl (by decide) ?_ | refine st_load rfl rfl rfl ?_
            exact ⟨fun d hd => by cases hd; rfl, rfl⟩
          refine okL_cons rfl ?_ ?_
          · first | refine st_move ?_ | refine st_assign ?_ | refine st_bin rfl ?_ | refine st_shl rfl rfl (by decide) ?_ | refine st_load rfl rfl rfl ?_
            exact ⟨fun d hd => by cases hd; rfl, rfl⟩
          refine okL_cons rfl ?_ ?_
          · refine st_ixm (show ([a, b] : List (List UInt8))[1]? = some b from rfl) rfl rfl rfl rfl rfl rfl rfl (by first | rfl | omega) rfl ?_
            exact ⟨fun d hd => by cases hd; rfl, rfl⟩
          refine okL_cons rfl ?_ ?_
          · first | refine st_move ?_ | refine st_assign ?_ | refine st_bin rfl ?_ | refine st_shl rfl rfl (by decide) ?_ | refine st_load rfl rfl rfl ?_
            exact ⟨fun d hd => by cases hd; rfl, rfl⟩
          exact okL_nil
        · refine pnL_cons rfl ?_ ?_
          · refine pn_call (fun _ => rfl) rfl ?_
            exact number_noP X a hv0 _
          refine pnL_cons rfl ?_ ?_
          · refine pn_call (fun _ => rfl) rfl ?_
            exact number_noP X b hv1 _
          exact pnL_nil
        · intro ch H2 hch _
          exact ⟨hch, rfl⟩
      | some v1 =>
        repeat' (refine Ql ?_)
        refine awp_region_panicD [0, 1, 2, 4, 5, 6, 7] [3] 3 [(106, .sl 1 ([a, b].map strA)), (107, .fp [.str a]), (108, .str a), (110, .sl 1 ([a, b].map strA)), (111, .fp [.str b]), (112, .str b), (113, .int .i64 (v1 : Int))] (K := fun _ => True) (by exact rfl) (by kernel_rfl) ?_ ?_ ?_
        · refine okL_cons rfl ?_ ?_
          · first | refine st_move ?_ | refine st_assign ?_ | refine st_bin rfl ?_ | refine st_shl rfl rfl (by decide) ?_ | refine st_load rfl rfl rfl ?_
            exact ⟨fun d hd => by cases hd; rfl, rfl⟩
          refine okL_cons rfl ?_ ?_
          · refine st_ixm (show ([a, b] : List (List UInt8))[0]? = some a from rfl) rfl rfl rfl rfl rfl rfl rfl (by first | rfl | omega) rfl ?_
            exact ⟨fun d hd => by cases hd; rfl, rfl⟩
          refine okL_cons rfl ?_ ?_
          · first | refine st_move ?_ | refine st_assign ?_ | refine st_bin rfl ?_ | refine st_shl rfl rfl (by decide) ?_ | refine st_load rfl rfl rfl ?_
            exact ⟨fun d hd => by cases hd; rfl, rfl⟩
          refine okL_cons rfl ?_ ?_
          · first | refine st_move ?_ | refine st_assign ?_ | refine st_bin rfl ?_ | refine st_shl rfl rfl (by decide) ?_ | refine st_load rfl rfl rfl ?_
            exact ⟨fun d hd => by cases hd; rfl, rfl⟩
          refine okL_cons rfl ?_ ?_
          · refine st_ixm (show ([a, b] : List (List UInt8))[1]? = some b from rfl) rfl rfl rfl rfl rfl rfl rfl (by first | rfl | omega) rfl ?_
            exact ⟨fun d hd => by cases hd; rfl, rfl⟩
          refine okL_cons rfl ?_ ?_
          · first | refine st_move ?_ | refine st_assign ?_ | refine st_bin rfl ?_ | refine st_shl rfl rfl (by decide) ?_ | refine st_load rfl rfl rfl ?_
            exact ⟨fun d hd => by cases hd; rfl, rfl⟩
          refine okL_cons rfl ?_ ?_
          · refine st_call (fun _ => rfl) rfl ?_
            refine ACalls.mono (acalls_pure (E := E0 X) (fun X => number_go X b v1 hv1) (by simp [IdsLtL, IdsLt]) _) ?_
            rintro r H' ⟨rfl, rfl⟩
            exact ⟨fun d hd => by cases hd; rfl, rfl⟩
          exact okL_nil
        · refine pnL_cons rfl ?_ ?_
          · refine pn_call (fun _ => rfl) rfl ?_
            exact number_noP X a hv0 _
          exact pnL_nil
        · intro ch H2 hch _
          exact ⟨hch, rfl⟩
    | some v0 =>
      cases hv1 : numP b with
      | none =>
        repeat' (refine Ql ?_)
        refine awp_region_panicD [0, 1, 2, 3, 4, 5, 6] [7] 7 [(106, .sl 1 ([a, b].map strA)), (107, .fp [.str a]), (108, .str a), (109, .int .i64 (v0 : Int)), (110, .sl 1 ([a, b].map strA)), (111, .fp [.str b]), (112, .str b)] (K := fun _ => True) (by exact rfl) (by kernel_rfl) ?_ ?_ ?_
        · refine okL_cons rfl ?_ ?_
          · first | refine st_move ?_ | refine st_assign ?_ | refine st_bin rfl ?_ | refine st_shl rfl rfl (by decide) ?_ | refine st_load rfl rfl rfl ?_
            exact ⟨fun d hd => by cases hd; rfl, rfl⟩
          refine okL_cons rfl ?_ ?_
          · refine st_ixm (show ([a, b] : List (List UInt8))[0]? = some a from rfl) rfl rfl rfl rfl rfl rfl rfl (by first | rfl | omega) rfl ?_
            exact ⟨fun d hd => by cases hd; rfl, rfl⟩
          refine okL_cons rfl ?_ ?_
          · first | refine st_move ?_ | refine st_assign ?_ | refine st_bin rfl ?_ | refine st_shl rfl rfl (by decide) ?_ | refine st_load rfl rfl rfl ?_
            exact ⟨fun d hd => by cases hd; rfl, rfl⟩
          refine okL_cons rfl ?_ ?_
          · refine st_call (fun _ => rfl) rfl ?_
            refine ACalls.mono (acalls_pure (E := E0 X) (fun X => number_go X a v0 hv0) (by simp [IdsLtL, IdsLt]) _) ?_
            rintro r H' ⟨rfl, rfl⟩
            exact ⟨fun d hd => by cases hd; rfl, rfl⟩
          refine okL_cons rfl ?_ ?_
          · first | refine st_move ?_ | refine st_assign ?_ | refine st_bin rfl ?_ | refine st_shl rfl rfl (by decide) ?_ | refine st_load rfl rfl rfl ?_
            exact ⟨fun d hd => by cases hd; rfl, rfl⟩
          refine okL_cons rfl ?_ ?_
          · refine st_ixm (show ([a, b] : List (List UInt8))[1]? = some b from rfl) rfl rfl rfl rfl rfl rfl rfl (by first | rfl | omega) rfl ?_
            exact ⟨fun d hd => by cases hd; rfl, rfl⟩
          refine okL_cons rfl ?_ ?_
          · first | refine st_move ?_ | refine st_assign ?_ | refine st_bin rfl ?_ | refine st_shl rfl rfl (by decide) ?_ | refine st_load rfl rfl rfl ?_
            exact ⟨fun d hd => by cases hd; rfl, rfl⟩
          exact okL_nil
        · refine pnL_cons rfl ?_ ?_
          · refine pn_call (fun _ => rfl) rfl ?_
            exact number_noP X b hv1 _
          exact pnL_nil
        · intro ch H2 hch _
          exact ⟨hch, rfl⟩
      | some v1 =>
        repeat' (refine Ql ?_)
        refine awp_region_any [9] [10] (by exact rfl) ?_
        refine any_lin (fuel := 0) [0, 1, 2, 3, 4, 5, 6, 7, 8, 9] (by exact rfl) (by kernel_rfl) (by kernel_rfl) ?_
        repeat' ((apply Qd rfl rfl rfl rfl); (refine Q0 ?_); (exact QX rfl rfl ⟨rfl, rfl⟩))
        apply ds rfl rfl rfl rfl
        · refine st_ixm (show ([a, b] : List (List UInt8))[0]? = some a from rfl) rfl rfl rfl rfl rfl rfl rfl (by first | rfl | omega) rfl ?_
          first | exact nx rfl rfl ⟨rfl, rfl⟩ | exact nx0 ⟨rfl, rfl⟩
        repeat' ((apply Qd rfl rfl rfl rfl); (refine Q3 rfl rfl rfl ?_); (exact QX rfl rfl ⟨rfl, rfl⟩))
        apply ds rfl rfl rfl rfl
        · refine st_call (fun _ => rfl) rfl ?_
          refine ACalls.mono (acalls_pure (E := E0 X) (fun X => number_go X a v0 hv0) (by simp [IdsLtL, IdsLt]) _) ?_
          rintro r H' ⟨rfl, rfl⟩
          first
          | exact nx rfl rfl ⟨rfl, rfl⟩
          | exact nx0 ⟨rfl, rfl⟩
        repeat' ((apply Qd rfl rfl rfl rfl); (refine Q0 ?_); (exact QX rfl rfl ⟨rfl, rfl⟩))
        apply ds rfl rfl rfl rfl
        · refine st_ixm (show ([a, b] : List (List UInt8))[1]? = some b from rfl) rfl rfl rfl rfl rfl rfl rfl (by first | rfl | omega) rfl ?_
          first | exact nx rfl rfl ⟨rfl, rfl⟩ | exact nx0 ⟨rfl, rfl⟩
        repeat' ((apply Qd rfl rfl rfl rfl); (refine Q3 rfl rfl rfl ?_); (exact QX rfl rfl ⟨rfl, rfl⟩))
        apply ds rfl rfl rfl rfl
        · refine st_call (fun _ => rfl) rfl ?_
          refine ACalls.mono (acalls_pure (E := E0 X) (fun X => number_go X b v1 hv1) (by simp [IdsLtL, IdsLt]) _) ?_
          rintro r H' ⟨rfl, rfl⟩
          first
          | exact nx rfl rfl ⟨rfl, rfl⟩
          | exact nx0 ⟨rfl, rfl⟩
        repeat' (first | ((apply Qd rfl rfl rfl rfl); (refine QP rfl rfl rfl rfl rfl rfl ?_); (exact QX rfl rfl ⟨rfl, rfl⟩)) | (refine Qf rfl rfl rfl ?_; refine QS rfl rfl rfl rfl rfl rfl rfl ?_; (refine QX rfl rfl ?_)) | refine Qk ?_ | refine Qs ?_ | refine Qw (by kernel_rfl) ?_)
        refine awp_ret ?_
        exact ⟨_, rfl, { op0 7 with a := (v0 : Int), b := (v1 : Int) }, rfl, wkC (wkL_cons (Wk.refl _) (wkL_cons wk_nil (wkL_cons wk_nil (wkL_cons (Wk.refl _) (wkL_cons (Wk.refl _) (wkL_cons (Wk.refl _) (wkL_cons wk_nil (wkL_cons wk_nil (wkL_nil)))))))))⟩
  refine Ql ?_
  refine awp_mid (s1 := ⟨[(115, .bool (decide (w = [99, 114, 97, 115, 104] ∧ 0 < l.length))), (4, .str w), (5, .sl 1 (l.map strA)), (2, .ptr 0 0)], [some (.cells cel0 26)]⟩) ?_ ?_
  · repeat' (first | ((refine Qa rfl ?_); (first | refine Q0 ?_ | refine Q1 ?_ | refine Q2 rfl ?_ | refine Q5 rfl ?_ | refine Q7 rfl rfl rfl ?_); (refine QX rfl rfl ?_)) | refine Qh ?_ | refine Qi rfl ?_ | refine Qo rfl ?_ | ((fail_if_success refine QV rfl ?_); refine Qy rfl rfl (fun _ => ?_) (fun _ => ?_)))
    all_goals refine ⟨rfl, imp_cutk 1 (Nat.zero_le _) hok_c0 rfl (by simp) ?_⟩
    all_goals (refine fa_cons ⟨?_, trivial⟩ (fa_cons ⟨rfl, trivial⟩ (fa_cons ⟨rfl, ids_str _⟩ (fa_cons ⟨rfl, Nat.zero_lt_one⟩ fa_nil))))
    · rename_i h
      exact dec_b (len_p.trans ⟨fun h2 => ⟨h, h2⟩, fun h2 => h2.2⟩)
    · rename_i h
      exact dec_f fun h2 => h h2.1
  refine awp_cond_dec rfl (fun h_crash => ?_) (fun h_crash => ?_)
  · obtain ⟨a, t, rfl⟩ : ∃ a t, l = a :: t := List.exists_cons_of_length_pos h_crash.2
    have ha := hs a (by simp)
    have htl : t.length ≤ 1000000 := by simp at hl; omega
    have hts : ∀ s ∈ t, s.length ≤ 1073741824 := fun s h => hs s (List.mem_cons_of_mem _ h)
    have hP : cmdP w (a :: t) = match bitsP a, tearsP t with | some k, some t => some { op0 12 with keep := k, tears := t } | _, _ => none := by rw [cmdP, if_neg h1, if_neg h_get, if_neg h_delete, if_neg h_set, if_neg h_tick, if_neg h_fuse, if_neg h_resize, if_pos h_crash]; rfl
    rw [hP]
    cases hv0 : bitsP a with
    | none =>
      cases hv1 : tearsP t with
      | none =>
        repeat' (refine Ql ?_)
        refine awp_region_panicD [0, 1, 2, 4, 5] [3, 6] 3 [(123, .sl 1 ((a :: t).map strA)), (124, .fp [.str a]), (125, .str a), (127, .sl 1 ((a :: t).map strA)), (128, .sl 1 (t.map strA))] (K := fun _ => True) (by exact rfl) (by kernel_rfl) ?_ ?_ ?_
        · refine okL_cons rfl ?_ ?_
          · first | refine st_move ?_ | refine st_assign ?_ | refine st_bin rfl ?_ | refine st_shl rfl rfl (by decide) ?_ | refine st_load rfl rfl rfl ?_
            exact ⟨fun d hd => by cases hd; rfl, rfl⟩
          refine okL_cons rfl ?_ ?_
          · refine st_ixm (show ((a :: t) : List (List UInt8))[0]? = some a from rfl) rfl rfl rfl rfl rfl rfl rfl (by first | rfl | omega) rfl ?_
            exact ⟨fun d hd => by cases hd; rfl, rfl⟩
          refine okL_cons rfl ?_ ?_
          · first | refine st_move ?_ | refine st_assign ?_ | refine st_bin rfl ?_ | refine st_shl rfl rfl (by decide) ?_ | refine st_load rfl rfl rfl ?_
            exact ⟨fun d hd => by cases hd; rfl, rfl⟩
          refine okL_cons rfl ?_ ?_
          · first | refine st_move ?_ | refine st_assign ?_ | refine st_bin rfl ?_ | refine st_shl rfl rfl (by decide) ?_ | refine st_load rfl rfl rfl ?_
            exact ⟨fun d hd => by cases hd; rfl, rfl⟩
          refine okL_cons rfl ?_ ?_
          · refine st_sls (l := 1) (h := t.length + 1) (ys := t) (bnd_some rfl rfl) (bnd_lenS) (by omega) (by simp) (by simp) rfl rfl rfl rfl rfl ?_
            exact ⟨fun d hd => by cases hd; rfl, rfl⟩
          exact okL_nil
        · refine pnL_cons rfl ?_ ?_
          · refine pn_call (fun _ => rfl) rfl ?_
            exact bits_noP X a ha hv0 _
          refine pnL_cons rfl ?_ ?_
          · refine pn_call (fun _ => rfl) rfl ?_
            exact tears_noP X t htl hts hv1 _
          exact pnL_nil
        · intro ch H2 hch _
          exact ⟨hch, rfl⟩
      | some v1 =>
        repeat' (refine Ql ?_)
        refine awp_region_panicD [0, 1, 2, 4, 5, 6] [3] 3 [(123, .sl 1 ((a :: t).map strA)), (124, .fp [.str a]), (125, .str a), (127, .sl 1 ((a :: t).map strA)), (128, .sl 1 (t.map strA)), (129, .sl 2 (v1.map trA))] (K := fun _ => True) (by exact rfl) (by kernel_rfl) ?_ ?_ ?_
        · refine okL_cons rfl ?_ ?_
          · first | refine st_move ?_ | refine st_assign ?_ | refine st_bin rfl ?_ | refine st_shl rfl rfl (by decide) ?_ | refine st_load rfl rfl rfl ?_
            exact ⟨fun d hd => by cases hd; rfl, rfl⟩
          refine okL_cons rfl ?_ ?_
          · refine st_ixm (show ((a :: t) : List (List UInt8))[0]? = some a from rfl) rfl rfl rfl rfl rfl rfl rfl (by first | rfl | omega) rfl ?_
            exact ⟨fun d hd => by cases hd; rfl, rfl⟩
          refine okL_cons rfl ?_ ?_
          · first | refine st_move ?_ | refine st_assign ?_ | refine st_bin rfl ?_ | refine st_shl rfl rfl (by decide) ?_ | refine st_load rfl rfl rfl ?_
            exact ⟨fun d hd => by cases hd; rfl, rfl⟩
          refine okL_cons rfl ?_ ?_
          · first | refine st_move ?_ | refine st_assign ?_ | refine st_bin rfl ?_ | refine st_shl rfl rfl (by decide) ?_ | refine st_load rfl rfl rfl ?_
            exact ⟨fun d hd => by cases hd; rfl, rfl⟩
          refine okL_cons rfl ?_ ?_
          · refine st_sls (l := 1) (h := t.length + 1) (ys := t) (bnd_some rfl rfl) (bnd_lenS) (by omega) (by simp) (by simp) rfl rfl rfl rfl rfl ?_
            exact ⟨fun d hd => by cases hd; rfl, rfl⟩
          refine okL_cons rfl ?_ ?_
          · refine st_call (fun _ => rfl) rfl ?_
            refine ACalls.mono (acalls_pure (E := E0 X) (fun X => tears_s X t v1 htl hts hv1) (by simp [IdsLtL, IdsLt]) _) ?_
            rintro r H' ⟨rfl, rfl⟩
            exact ⟨fun d hd => by cases hd; rfl, rfl⟩
          exact okL_nil
        · refine pnL_cons rfl ?_ ?_
          · refine pn_call (fun _ => rfl) rfl ?_
            exact bits_noP X a ha hv0 _
          exact pnL_nil
        · intro ch H2 hch _
          exact ⟨hch, rfl⟩
    | some v0 =>
      cases hv1 : tearsP t with
      | none =>
        repeat' (refine Ql ?_)
        refine awp_region_panicD [0, 1, 2, 3, 4, 5] [6] 6 [(123, .sl 1 ((a :: t).map strA)), (124, .fp [.str a]), (125, .str a), (126, .sl 1 (v0.map boA)), (127, .sl 1 ((a :: t).map strA)), (128, .sl 1 (t.map strA))] (K := fun _ => True) (by exact rfl) (by kernel_rfl) ?_ ?_ ?_
        · refine okL_cons rfl ?_ ?_
          · first | refine st_move ?_ | refine st_assign ?_ | refine st_bin rfl ?_ | refine st_shl rfl rfl (by decide) ?_ | refine st_load rfl rfl rfl ?_
            exact ⟨fun d hd => by cases hd; rfl, rfl⟩
          refine okL_cons rfl ?_ ?_
          · refine st_ixm (show ((a :: t) : List (List UInt8))[0]? = some a from rfl) rfl rfl rfl rfl rfl rfl rfl (by first | rfl | omega) rfl ?_
            exact ⟨fun d hd => by cases hd; rfl, rfl⟩
          refine okL_cons rfl ?_ ?_
          · first | refine st_move ?_ | refine st_assign ?_ | refine st_bin rfl ?_ | refine st_shl rfl rfl (by decide) ?_ | refine st_load rfl rfl rfl ?_
            exact ⟨fun d hd => by cases hd; rfl, rfl⟩
          refine okL_cons rfl ?_ ?_
          · refine st_call (fun _ => rfl) rfl ?_
            refine ACalls.mono (acalls_pure (E := E0 X) (fun X => bits_s X a v0 ha hv0) (by simp [IdsLtL, IdsLt]) _) ?_
            rintro r H' ⟨rfl, rfl⟩
            exact ⟨fun d hd => by cases hd; rfl, rfl⟩
          refine okL_cons rfl ?_ ?_
          · first | refine st_move ?_ | refine st_assign ?_ | refine st_bin rfl ?_ | refine st_shl rfl rfl (by decide) ?_ | refine st_load rfl rfl rfl ?_
            exact ⟨fun d hd => by cases hd; rfl, rfl⟩
          refine okL_cons rfl ?_ ?_
          · refine st_sls (l := 1) (h := t.length + 1) (ys := t) (bnd_some rfl rfl) (bnd_lenS) (by omega) (by simp) (by simp) rfl rfl rfl rfl rfl ?_
            exact ⟨fun d hd => by cases hd; rfl, rfl⟩
          exact okL_nil
        · refine pnL_cons rfl ?_ ?_
          · refine pn_call (fun _ => rfl) rfl ?_
            exact tears_noP X t htl hts hv1 _
          exact pnL_nil
        · intro ch H2 hch _
          exact ⟨hch, rfl⟩
      | some v1 =>
        repeat' (refine Ql ?_)
        refine awp_region_any [8] [9] (by exact rfl) ?_
        refine any_lin (fuel := 0) [0, 1, 2, 3, 4, 5, 6, 7, 8] (by exact rfl) (by kernel_rfl) (by kernel_rfl) ?_
        repeat' ((apply Qd rfl rfl rfl rfl); (refine Q0 ?_); (exact QX rfl rfl ⟨rfl, rfl⟩))
        apply ds rfl rfl rfl rfl
        · refine st_ixm (show (a :: t)[0]? = some a from rfl) rfl rfl rfl rfl rfl rfl rfl (by first | rfl | omega) rfl ?_
          first | exact nx rfl rfl ⟨rfl, rfl⟩ | exact nx0 ⟨rfl, rfl⟩
        repeat' ((apply Qd rfl rfl rfl rfl); (refine Q3 rfl rfl rfl ?_); (exact QX rfl rfl ⟨rfl, rfl⟩))
        apply ds rfl rfl rfl rfl
        · refine st_call (fun _ => rfl) rfl ?_
          refine ACalls.mono (acalls_pure (E := E0 X) (fun X => bits_s X a v0 ha hv0) (by simp [IdsLtL, IdsLt]) _) ?_
          rintro r H' ⟨rfl, rfl⟩
          first
          | exact nx rfl rfl ⟨rfl, rfl⟩
          | exact nx0 ⟨rfl, rfl⟩
        repeat' ((apply Qd rfl rfl rfl rfl); (refine Q0 ?_); (exact QX rfl rfl ⟨rfl, rfl⟩))
        apply ds rfl rfl rfl rfl
        · refine st_sls (l := 1) (h := t.length + 1) (ys := t) (bnd_some rfl rfl) (bnd_lenS) (by omega) (by simp) (by simp) rfl rfl rfl rfl rfl ?_
          first | exact nx rfl rfl ⟨rfl, rfl⟩ | exact nx0 ⟨rfl, rfl⟩
        skip
        apply ds rfl rfl rfl rfl
        · refine st_call (fun _ => rfl) rfl ?_
          refine ACalls.mono (acalls_pure (E := E0 X) (fun X => tears_s X t v1 htl hts hv1) ⟨ids_str _, trivial⟩ _) ?_
          rintro r H' ⟨rfl, rfl⟩
          first
          | exact nx rfl rfl ⟨rfl, rfl⟩
          | exact nx0 ⟨rfl, rfl⟩
        repeat' (first | ((apply Qd rfl rfl rfl rfl); (refine QP rfl rfl rfl rfl rfl rfl ?_); (exact QX rfl rfl ⟨rfl, rfl⟩)) | (refine Qf rfl rfl rfl ?_; refine QS rfl rfl rfl rfl rfl rfl rfl ?_; (refine QX rfl rfl ?_)) | refine Qk ?_ | refine Qs ?_ | refine Qw (by kernel_rfl) ?_)
        refine awp_ret ?_
        exact ⟨_, rfl, { op0 12 with keep := v0, tears := v1 }, rfl, wkC (wkL_cons (Wk.refl _) (wkL_cons wk_nil (wkL_cons wk_nil (wkL_cons (Wk.refl _) (wkL_cons (Wk.refl _) (wkL_cons (Wk.refl _) (wkL_cons (Wk.refl _) (wkL_cons (Wk.refl _) (wkL_nil)))))))))⟩
  have hP : cmdP w l = none := by rw [cmdP, if_neg h1, if_neg h_get, if_neg h_delete, if_neg h_set, if_neg h_tick, if_neg h_fuse, if_neg h_resize, if_neg h_crash]
  rw [hP]
  repeat' (first | refine Qm ?_ | refine Qs ?_ | refine Qu ?_)
  refine boom_h (by kernel_rfl) fun ch sl hch => ?_
  exact ⟨hch, rfl⟩
end Go.Abs

