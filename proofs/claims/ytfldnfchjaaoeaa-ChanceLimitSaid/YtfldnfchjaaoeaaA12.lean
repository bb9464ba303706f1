/- Tidying a state: short forms of imp_gc and imp_freeze. -/
import Derived.Test.YtfldnfchjaaoeaaA11
namespace Go.Abs

theorem then_i {K : St → Prop} {Q : Exit → St → Prop} {s : St} (h : K s) : Then K Q .normal s := h
theorem then_x {K : St → Prop} {Q : Exit → St → Prop} {i : Nat} {s : St} (h : Q (.exit i) s) : Then K Q (.exit i) s := h
theorem blk_x {Q : Exit → St → Prop} {i : Nat} {s : St} (h : Q .normal s) : InBlk i Q (.exit i) s := by
  simpa [InBlk] using h
theorem ren_val2 {f : Nat → Option Nat} {v v' : AV} (h : v = v') (hi : IdsLt 0 v') : Ren f v v' := by
  subst h; exact ren_old 0 (fun i h => absurd h (Nat.not_lt_zero i)) hi
theorem renO_val2 {f : Nat → Option Nat} {v v' : AO} (h : v = v') (hi : IdsLtO 0 v') : RenO f v v' := by
  subst h; exact renO_old 0 (fun i h => absurd h (Nat.not_lt_zero i)) hi
theorem ren_val {f : Nat → Option Nat} {v v' : AV} (h : v = v') (hi : IdsLt 0 v) : Ren f v v' := by
  subst h; exact ren_old 0 (fun i h => absurd h (Nat.not_lt_zero i)) hi
theorem renO_val {f : Nat → Option Nat} {v v' : AO} (h : v = v') (hi : IdsLtO 0 v) : RenO f v v' := by
  subst h; exact renO_old 0 (fun i h => absurd h (Nat.not_lt_zero i)) hi
theorem fa_nil {P : Nat × AV → Prop} : ∀ p ∈ ([] : List (Nat × AV)), P p := fun _ h => absurd h (by simp)
theorem fa_cons {P : Nat × AV → Prop} {q : Nat × AV} {r : List (Nat × AV)} (h : P q) (t : ∀ p ∈ r, P p) : ∀ p ∈ q :: r, P p := fun p hp => by
  rcases List.mem_cons.1 hp with e | e
  · rw [e]; exact h
  · exact t p e
def OsOk (H : Hp) (f : Nat → Option Nat) (ids : List Nat) (os : List AO) : Prop :=
  ∀ (j i : Nat) (o' : AO), ids[j]? = some i → os[j]? = some o' → ∃ o, H[i]? = some (some o) ∧ RenO f o o'
theorem os_nil {H : Hp} {f : Nat → Option Nat} : OsOk H f [] [] := fun _ _ _ h => absurd h (by simp)
theorem os_cons {H : Hp} {f : Nat → Option Nat} {i : Nat} {ids : List Nat} {o o' : AO} {os : List AO} (h1 : H[i]? = some (some o)) (h2 : RenO f o o') (t : OsOk H f ids os) : OsOk H f (i :: ids) (o' :: os) := fun j i2 o2 hi ho => by
  cases j with
  | zero => simp at hi ho; subst hi ho; exact ⟨o, h1, h2⟩
  | succ j => exact t j i2 o2 (by simpa using hi) (by simpa using ho)
theorem imp_tidy {E : Env} {N : Nat} {sl : List (Nat × AV)} {hp : Hp} (ids : List Nat) {sl' : List (Nat × AV)} {os : List AO} (hnd : ids.Nodup)
    (hlen : os.length = ids.length) (hsl : ∀ p ∈ sl', Ren (gcF 0 ids) (get sl p.1) p.2) (hos : OsOk hp (gcF 0 ids) ids os) :
    Imp E N 0 ⟨sl, hp⟩ ⟨sl', os.map some⟩ := by
  have := imp_gc (E := E) (N := N) (n0 := 0) (s := ⟨sl, hp⟩) 0 ids sl' os (Nat.le_refl _) (Nat.zero_le _) hnd (fun _ _ => Nat.zero_le _) (fun _ _ h => by simp at h) hsl hlen hos
  simpa using this
theorem imp_tidy0 {E : Env} {N : Nat} {sl : List (Nat × AV)} {hp : Hp} {sl' : List (Nat × AV)} (hsl : ∀ p ∈ sl', Ren (gcF 0 []) (get sl p.1) p.2) :
    Imp E N 0 ⟨sl, hp⟩ ⟨sl', []⟩ := imp_tidy [] (os := []) (by simp) rfl hsl os_nil
theorem frz_own {id k n : Nat} {es : List AV} (h : n = es.length) : frz id k es (.own id 0 n) = .sl k es := by
  subst h; simp [frz]
theorem dst_own {H : Hp} {e : TypeId} {id n : Nat} {es : List AV} (h : H[id]? = some (some (.arr es e))) (hn : n = es.length) : dstA H e (.own id 0 n) = some (some id, es) := by
  simp only [dstA, h, hn, true_and, if_true]
def n2 : List AV → Option (List AV)
  | [] => some []
  | x :: xs => match nv x, n2 xs with
    | some y, some ys => some (y :: ys)
    | _, _ => none
theorem n2_eq : ∀ {x y : List AV}, n2 x = some y → x = y
  | [], _, h => by simp [n2] at h; exact h.symm
  | x :: xs, y, h => by
    simp only [n2] at h
    split at h
    · rename_i a b ha hb; cases h; rw [nv_eq ha, n2_eq hb]
    · cases h
theorem st_bsl {E : Env} {H : Hp} {K : AV → Hp → Prop} {ρ : Operand → AV} {d : Option Nat} {ty : TypeId} {pos : String} {after : Array Edge} {g : Option (Nat × Bool)}
    {t e : TypeId} {len k : Nat} {parts : Array (Nat × Operand)} {z cs es : List AV} (ht : Nat.blt t E.n = true) (hk : (E.ti t).k = .sl e) (he : Nat.blt e E.n = true) (hz : (E.ti e).z = some z)
    (hzl : Nat.beq z.length (E.ti e).sz = true) (hz0 : Nat.blt 0 (E.ti e).sz = true) (hlim : Nat.ble (len * (E.ti e).sz) 16777216 = true) (hag : (E.ti e).k.agg = true ∨ Nat.beq (E.ti e).sz 1 = true)
    (hf : fillA (slPlace (E.ti e).sz) ρ parts.toList (rep z len) = some cs) (hone : (E.ti e).k.agg = true ∨ cs.all oneA = true)
    (hsz : nn (E.ti e).sz = some k) (hav : n2 (avals (E.ti e).k.agg (E.ti e).sz len cs) = some es) (h : K (.sl k es) H) :
    AStep E ⟨d, .buildSlice t len parts, ty, pos, after, g⟩ ρ H K :=
  st_buildSlice ht hk he hz hzl hz0 hlim hag hf hone (by rw [n2_eq hav, nn_eq hsz]; exact h)
theorem st_bld {E : Env} {H : Hp} {K : AV → Hp → Prop} {ρ : Operand → AV} {d : Option Nat} {ty : TypeId} {pos : String} {after : Array Edge} {g : Option (Nat × Bool)}
    {t : TypeId} {fs : List (Nat × TypeId)} {parts : Array (Nat × Operand)} {z out es : List AV} (ht : Nat.blt t E.n = true) (hk : (E.ti t).k = .struct fs) (hz : (E.ti t).z = some z)
    (hall : (fs.all fun p => Nat.blt p.2 E.n) = true) (hf : fillA (placesOf E fs) ρ parts.toList z = some out) (he : n2 out = some es) (h : K (.agg es) H) : AStep E ⟨d, .build t parts, ty, pos, after, g⟩ ρ H K :=
  st_build ht hk hz hall hf (by rw [n2_eq he]; exact h)
theorem ids_map {α : Type} {f : α → AV} (h : ∀ x, IdsLt 0 (f x)) : ∀ l : List α, IdsLtL 0 (l.map f)
  | [] => trivial
  | x :: l => ⟨h x, ids_map h l⟩
end Go.Abs
