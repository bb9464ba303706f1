/- The borrow rule for functions that make objects: proved over frozen arguments and no objects, they may be handed slices that the caller owns; what they make lies behind the caller's objects. Joined texts, each with what its own name promises; no condition beyond those stated. -/
import Derived.Test.YtlndakkehobnpaaDoorMB
import Derived.Below
import Derived.Lib.AppendZeros
import Derived.Laws.BytesString
import Derived.Test.YtlndakkehobnpaaDoorProg
import Derived.KernelRfl
namespace Go.Abs
mutual
/-- Values without frozen memory. -/
def noFz : AV → Bool
  | .any | .int _ _ | .bool _ | .str _ | .nilp | .nils | .nilm | .nilf | .nili | .ptr _ _ | .pe _ _ _ | .own _ _ _ | .mp _ => true
  | .agg cs => noFzL cs
  | .tup cs => noFzL cs
  | _ => false
def noFzL : List AV → Bool
  | [] => true
  | x :: xs => noFz x && noFzL xs
end
def noFzO : AO → Bool
  | .cells cs _ => noFzL cs
  | .arr cs _ => noFzL cs
  | .map es => noFzL (es.map (·.1)) && noFzL (es.map (·.2))
def noFzH (h : Hp) : Bool := h.all fun o => match o with
  | none => true
  | some o => noFzO o
theorem noFz_map {α : Type} {f : α → AV} (h : ∀ x, noFz (f x) = true) : ∀ l : List α, noFzL (l.map f) = true
  | [] => rfl
  | x :: l => by simp [noFzL, h x, noFz_map h l]
section
variable {sz sz2 : Cx} {m m' : Mu} {w : World}
theorem app_get {k id : Nat} {x : MS} (hk : m.length = k) (_h : id < m'.length) (hx : (m ++ m')[id + k]? = some x) : m'[id]? = some x := by
  rw [List.getElem?_append_right (by omega)] at hx
  have : id + k - m.length = id := by omega
  rwa [this] at hx
theorem Own.shift {A : Option Addr} {c id lo k : Nat} (hz : sz2.sz = sz.sz) (hk : m.length = k) (h : Own sz m' w A c id lo) : Own sz2 (m ++ m') w A c (id + k) lo :=
  ⟨by simp; have := h.1; omega, fun hx => h.2.1 (app_get hk h.1 hx), fun b hb => by rw [hz]; exact h.2.2 b (app_get hk h.1 hb)⟩
theorem PtrE.shift {a : Addr} {id i off k : Nat} (hz : sz2.sz = sz.sz) (hk : m.length = k) (h : PtrE sz m' w a id i off) : PtrE sz2 (m ++ m') w a (id + k) i off :=
  ⟨by simp; have := h.1; omega, fun b hb => by rw [hz]; exact h.2 b (app_get hk h.1 hb)⟩
mutual
theorem Rel.shift {k : Nat} (hz : sz2.sz = sz.sz) (hk : m.length = k) : ∀ (x : AV) {v : Value}, noFz x = true → Rel sz m' w x v → Rel sz2 (m ++ m') w (rnA (· + k) x) v
  | .any, _, _, _ => by simp [rnA, Rel]
  | .int _ _, _, _, h | .bool _, _, _, h | .str _, _, _, h | .nilp, _, _, h | .nils, _, _, h | .nilm, _, _, h | .nilf, _, _, h | .nili, _, _, h => by simpa [Rel, rnA] using h
  | .ptr id off, _, _, h => by
    simp only [Rel, rnA] at h ⊢
    obtain ⟨a, h1, h2, h3⟩ := h
    exact ⟨a, h1, by simp; omega, fun b hb => h3 b (app_get hk h2 hb)⟩
  | .pe id i off, _, _, h => by
    simp only [Rel, rnA] at h ⊢
    obtain ⟨a, h1, h2⟩ := h
    exact ⟨a, h1, h2.shift hz hk⟩
  | .own id lo n, _, _, h => by
    simp only [Rel, rnA] at h ⊢
    obtain ⟨a, c, h1, h2, h3, h4⟩ := h
    exact ⟨a, c, h1, h2, h3, h4.shift hz hk⟩
  | .mp id, _, _, h => by
    simp only [Rel, rnA] at h ⊢
    obtain ⟨r, h1, h2, h3⟩ := h
    exact ⟨r, h1, by simp; omega, fun b hb => h3 b (app_get hk h2 hb)⟩
  | .agg cs, _, hs, h => by
    simp only [Rel, rnA] at h ⊢; simp only [noFz] at hs
    obtain ⟨us, h1, h2⟩ := h
    exact ⟨us, h1, RelL.shift hz hk cs hs h2⟩
  | .tup cs, _, hs, h => by
    simp only [Rel, rnA] at h ⊢; simp only [noFz] at hs
    obtain ⟨us, h1, h2⟩ := h
    exact ⟨us, h1, RelL.shift hz hk cs hs h2⟩
  | .fp _, _, hs, _ | .sl _ _, _, hs, _ | .clo _ _ _, _, hs, _ | .ifc _ _, _, hs, _ => by simp [noFz] at hs
theorem RelL.shift {k : Nat} (hz : sz2.sz = sz.sz) (hk : m.length = k) : ∀ (xs : List AV) {vs : List Value}, noFzL xs = true → RelL sz m' w xs vs → RelL sz2 (m ++ m') w (rnL (· + k) xs) vs
  | [], _, _, h => by simpa [RelL, rnL] using h
  | x :: xs, _, hs, h => by
    simp only [RelL, rnL] at h ⊢; simp only [noFzL, Bool.and_eq_true] at hs
    obtain ⟨u, r, h1, h2, h3⟩ := h
    exact ⟨u, r, h1, Rel.shift hz hk x hs.1 h2, RelL.shift hz hk xs hs.2 h3⟩
end
theorem OB.shift {k : Nat} (hz : sz2.sz = sz.sz) (hk : m.length = k) {o : AO} {x : MS} (hs : noFzO o = true) (h : OB sz m' w o x) : OB sz2 (m ++ m') w (rnO (· + k) o) x := by
  cases x with
  | dead => cases o <;> exact h.elim
  | nil =>
    cases o with
    | cells cs e => exact h.elim
    | map es => exact h.elim
    | arr es e =>
      simp only [OB] at h
      subst h
      rfl
  | blk b =>
    cases o with
    | cells cs e =>
      obtain ⟨us, h2, h3⟩ := h
      exact ⟨us, h2, RelL.shift hz hk _ hs h3⟩
    | arr es e =>
      obtain ⟨us, vs, h2, h3, h4, h5⟩ := h
      exact ⟨us, vs, h2, RelL.shift hz hk _ hs h3, by rw [hz]; exact h4, h5⟩
    | map es =>
      obtain ⟨us, clock, h3, h4, h5, h6, h7⟩ := h
      simp only [noFzO, Bool.and_eq_true] at hs
      refine ⟨us, clock, h3, h4, h5, ?_, ?_⟩
      · show RelL _ _ _ ((_ : List (AV × AV)).map (·.1)) _
        rw [rnO_fst]; exact RelL.shift hz hk _ hs.1 h6
      · show RelL _ _ _ ((_ : List (AV × AV)).map (·.2)) _
        rw [rnO_snd]; exact RelL.shift hz hk _ hs.2 h7
end
theorem acalls_make {E : Env} {f : FuncId} {args args' : List AV} {P : AV → Hp → Prop} {H : Hp} (h : ∀ X, ACalls (E.wX X) f args' [] P) (hs : ∀ r h', P r h' → noFz r = true ∧ noFzH h' = true) (hb : Bor E H args args') :
    ACalls E f args H (fun r H' => ∃ r0 h', P r0 h' ∧ r = rnA (· + H.length) r0 ∧ H' = H ++ mapH (· + H.length) h') := by
  refine ⟨(h E.X).1, fun m w vs hok hglob hargs hsim => ?_⟩
  have hc : Cmp (fun _ => none) E.cx (E.wX fun _ => False).cx m [] := ⟨rfl, fun _ _ h => absurd h (by simp), fun b hb => hb.elim (fun h => absurd h (by simp)) (fun h => h.elim)⟩
  have hsim0 : (E.wX fun _ => False).Sim [] w [] := ⟨rfl, fun _ _ h => by simp at h, fun _ h => by simp at h, fun _ _ _ h => by simp at h, fun b hb => hb.elim, fun b hb => absurd hb (by simp)⟩
  refine ((h fun _ => False).2 [] w vs hok (fun g => Rel.cmp hc (fun i h => absurd h (Nat.not_lt_zero _)) _ (hok.2.2 g) (hglob g)) (hb.rel hok hsim hargs) hsim0).mono ?_
  rintro e w' ⟨v, m', r', h', he, hext, hr, hs', hP⟩
  obtain ⟨hr0, hh0⟩ := hs _ _ hP
  have hlen := hsim.len
  have hnew : ∀ b, .blk b ∈ m' → w.heap.size ≤ b := fun b hb => by
    rcases Nat.lt_or_ge b w.heap.size with h1 | h1
    · exact absurd (hext.fresh b h1 hb) (by simp)
    · exact h1
  have hext2 : Ext m w (m ++ m') w' := ⟨hext.os, hext.tape, hext.output, hext.size, fun b hb _ => hext.keep b hb (by simp), fun b hb hm => by
      rcases List.mem_append.1 hm with h1 | h1
      · exact h1
      · exact absurd (hnew b h1) (by omega), by simp, fun id x hid _ hx => by rwa [List.getElem?_append_left hid] at hx, hext.shape⟩
  refine ⟨v, m ++ m', rnA (· + H.length) r', H ++ mapH (· + H.length) h', he, hext2, Rel.shift (sz := (E.wX fun _ => False).cx) (sz2 := E.cx) rfl hlen _ hr0 hr, ?_, r', h', hP, rfl, rfl⟩
  have hl' := hs'.len
  refine ⟨by simp [mapH, hlen, hl'], fun id o ho => ?_, fun id ho => ?_, fun i j b hi hj => ?_, fun b hb => Nat.lt_of_lt_of_le (hsim.xlt b hb) hext.size, fun b hb hX => ?_⟩
  · rcases Nat.lt_or_ge id H.length with hlt | hge
    · rw [List.getElem?_append_left hlt] at ho
      obtain ⟨x, h1, h2⟩ := hsim.live id o ho
      refine ⟨x, by rw [List.getElem?_append_left (by omega)]; exact h1, h2.ext hext2 fun b hb => hext.keep b ?_ (by simp)⟩
      subst hb
      exact hsim.lt (List.mem_of_getElem? h1)
    · rw [List.getElem?_append_right hge] at ho
      simp only [mapH, List.getElem?_map, Option.map_eq_some_iff] at ho
      obtain ⟨o1, ho1, ho2⟩ := ho
      cases o1 with
      | none => obtain ⟨_, h9, _⟩ := ho2; cases h9
      | some o1 =>
        obtain ⟨o2, h9, rfl⟩ := ho2
        cases h9
        obtain ⟨x, h1, h2⟩ := hs'.live _ o1 ho1
        refine ⟨x, by rw [List.getElem?_append_right (by omega), hlen]; exact h1, ?_⟩
        exact OB.shift (sz := (E.wX fun _ => False).cx) (sz2 := E.cx) rfl hlen (by
          have := List.all_eq_true.1 hh0 (some o1) (List.mem_of_getElem? ho1)
          simpa using this) h2
  · rcases Nat.lt_or_ge id H.length with hlt | hge
    · rw [List.getElem?_append_left hlt] at ho
      rw [List.getElem?_append_left (by omega)]
      exact hsim.dead id ho
    · rw [List.getElem?_append_right hge] at ho
      simp only [mapH, List.getElem?_map, Option.map_eq_some_iff] at ho
      obtain ⟨o1, ho1, ho2⟩ := ho
      cases o1 with
      | some o1 => simp at ho2
      | none =>
        rw [List.getElem?_append_right (by omega), hlen]
        exact hs'.dead _ ho1
  · rcases Nat.lt_or_ge i m.length with hi1 | hi1 <;> rcases Nat.lt_or_ge j m.length with hj1 | hj1
    · rw [List.getElem?_append_left hi1] at hi; rw [List.getElem?_append_left hj1] at hj
      exact hsim.inj i j b hi hj
    · rw [List.getElem?_append_left hi1] at hi; rw [List.getElem?_append_right hj1] at hj
      have h1 := hsim.lt (List.mem_of_getElem? hi)
      have h2 := hnew b (List.mem_of_getElem? hj)
      omega
    · rw [List.getElem?_append_right hi1] at hi; rw [List.getElem?_append_left hj1] at hj
      have h1 := hsim.lt (List.mem_of_getElem? hj)
      have h2 := hnew b (List.mem_of_getElem? hi)
      omega
    · rw [List.getElem?_append_right hi1] at hi; rw [List.getElem?_append_right hj1] at hj
      have := hs'.inj _ _ b hi hj
      omega
  · rcases List.mem_append.1 hb with h1 | h1
    · exact hsim.disj b h1 hX
    · have h2 := hsim.xlt b hX
      have h3 := hnew b h1
      omega
end Go.Abs
namespace Go.Abs
section
variable {E : Env} {ρ : Operand → AV} {H : Hp} {K : AV → Hp → Prop} {d : Option Nat} {ty : TypeId} {pos : String} {after : Array Edge} {g : Option (Nat × Bool)}
theorem st_slo {x : Operand} {lo hi : Option Operand} {t e e' : TypeId} {id o n : Nat} {es : List AV} {l h lo' n' : Nat} (hl : Bnd ρ lo 0 l) (hh : Bnd ρ hi n h) (hlh : l ≤ h) (hle : h ≤ n) (e1 : o + l = lo') (e2 : h - l = n')
    (ht : Nat.blt t E.n = true) (htk : (E.ti t).k = .sl e) (he : Nat.blt e E.n = true) (he' : Nat.blt e' E.n = true)
    (hx : ρ x = .own id o n) (ho : H[id]? = some (some (.arr es e'))) (hk : Nat.beq (E.ti e).sz (E.ti e').sz = true) (hK : K (.own id lo' n') H) :
    AStep E ⟨d, .slice t x lo hi none, ty, pos, after, g⟩ ρ H K := st_slice_own ht htk he he' hx ho hk hl hh hlh hle (by rw [e1, e2]; exact hK)
theorem st_sls {α : Type} {f : α → AV} {xs : List α} {x : Operand} {lo hi : Option Operand} {t e : TypeId} {k : Nat} {l h : Nat} {ys : List α} (hl : Bnd ρ lo 0 l) (hh : Bnd ρ hi (xs.map f).length h) (hlh : l ≤ h) (hle : h ≤ xs.length) (e1 : (xs.take h).drop l = ys)
    (ht : Nat.blt t E.n = true) (htk : (E.ti t).k = .sl e) (he : Nat.blt e E.n = true) (hx : ρ x = .sl k (xs.map f))
    (hk : Nat.beq (E.ti e).sz k = true) (hK : K (.sl k (ys.map f)) H) :
    AStep E ⟨d, .slice t x lo hi none, ty, pos, after, g⟩ ρ H K := st_slice_sl ht htk he hx hk hl hh hlh (by simpa using hle) (by rw [← List.map_take, ← List.map_drop, e1]; exact hK)
theorem st_ixo {x i : Operand} {t e e' : TypeId} {id lo len p : Nat} {es : List AV} {kk : IntKind} {n : Int} {j : Nat} (hn : n = (j : Int)) (hj : j < len) (e1 : lo + j = p) (ht : Nat.blt t E.n = true) (htk : (E.ti t).k = .sl e) (he : Nat.blt e E.n = true) (he' : Nat.blt e' E.n = true)
    (hx : ρ x = .own id lo len) (hi : ρ i = .int kk n) (ho : H[id]? = some (some (.arr es e'))) (hk : Nat.beq (E.ti e).sz (E.ti e').sz = true) (h : K (.pe id p 0) H) :
    AStep E ⟨d, .indexAddr t x i, ty, pos, after, g⟩ ρ H K := st_index_own ht htk he he' hx hi ho hk hn hj (by rw [e1]; exact h)
theorem st_cpy {t t' e e' : TypeId} {x y : Operand} {id lo n q : Nat} {es src out : List AV} (hle : lo + n ≤ es.length) (hs : srcA E H 1 (ρ y) = some src) (hone : OneEs src) (e1 : spl es lo (src.take (min n src.length)) = out) (e2 : min n src.length = q)
    (ht : Nat.blt t E.n = true) (hk : (E.ti t).k = .sl e) (he : Nat.blt e E.n = true) (hsz : Nat.beq (E.ti e).sz 1 = true)
    (he' : Nat.blt e' E.n = true) (hsz' : Nat.beq (E.ti e').sz 1 = true) (hx : ρ x = .own id lo n) (ho : H[id]? = some (some (.arr es e')))
    (h : K (.int .i64 q) (H.set id (some (.arr out e')))) :
    AStep E ⟨d, .call ⟨.builtin .copy, #[x, y], #[t, t']⟩, ty, pos, after, g⟩ ρ H K := st_copy ht hk he hsz he' hsz' hx ho hle hs hone (by rw [e1, e2]; exact h)
theorem st_app {t t' e : TypeId} {x y : Operand} {z es new out : List AV} {oid : Option Nat} {n : Nat} (hd : dstA H e (ρ x) = some (oid, es)) (hs : srcA E H (E.ti e).sz (ρ y) = some new) (hone : OneEs new) (e1 : es ++ new = out) (e2 : es.length + new.length = n)
    (hm : n ≤ maxLen) (hb : n * (E.ti e).bt ≤ 140737488355328) (ht : Nat.blt t E.n = true) (hk : (E.ti t).k = .sl e) (ht' : Nat.blt t' E.n = true) (hk' : (E.ti t').k = .sl e) (he : Nat.blt e E.n = true) (hz : (E.ti e).z = some z)
    (hzl : Nat.beq z.length (E.ti e).sz = true) (hz0 : Nat.blt 0 (E.ti e).sz = true) (h : K (.own H.length 0 n) (dropId H oid ++ [some (.arr out e)])) :
    AStep E ⟨d, .call ⟨.builtin .append, #[x, y], #[t, t']⟩, ty, pos, after, g⟩ ρ H K := st_append ht hk ht' hk' he hz hzl hz0 hd hs hone (by rw [e2]; exact hm) (by rw [e2]; exact hb) (by rw [e1, e2]; exact h)
end
end Go.Abs
namespace Go.Abs
theorem sim_join {E : Env} {m m' : Mu} {w w' : World} {H h' : Hp} (hsim : E.Sim m w H) (hext : Ext [] w m' w') (hs' : (E.wX fun _ => False).Sim m' w' h') (hh0 : noFzH h' = true) :
    Ext m w (m ++ m') w' ∧ E.Sim (m ++ m') w' (H ++ mapH (· + H.length) h') := by
  have hlen := hsim.len
  have hnew : ∀ b, .blk b ∈ m' → w.heap.size ≤ b := fun b hb => by
    rcases Nat.lt_or_ge b w.heap.size with h1 | h1
    · exact absurd (hext.fresh b h1 hb) (by simp)
    · exact h1
  have hext2 : Ext m w (m ++ m') w' := ⟨hext.os, hext.tape, hext.output, hext.size, fun b hb _ => hext.keep b hb (by simp), fun b hb hm => by
      rcases List.mem_append.1 hm with h1 | h1
      · exact h1
      · exact absurd (hnew b h1) (by omega), by simp, fun id x hid _ hx => by rwa [List.getElem?_append_left hid] at hx, hext.shape⟩
  refine ⟨hext2, ?_⟩
  have hl' := hs'.len
  refine ⟨by simp [mapH, hlen, hl'], fun id o ho => ?_, fun id ho => ?_, fun i j b hi hj => ?_, fun b hb => Nat.lt_of_lt_of_le (hsim.xlt b hb) hext.size, fun b hb hX => ?_⟩
  · rcases Nat.lt_or_ge id H.length with hlt | hge
    · rw [List.getElem?_append_left hlt] at ho
      obtain ⟨x, h1, h2⟩ := hsim.live id o ho
      refine ⟨x, by rw [List.getElem?_append_left (by omega)]; exact h1, h2.ext hext2 fun b hb => hext.keep b ?_ (by simp)⟩
      subst hb
      exact hsim.lt (List.mem_of_getElem? h1)
    · rw [List.getElem?_append_right hge] at ho
      simp only [mapH, List.getElem?_map, Option.map_eq_some_iff] at ho
      obtain ⟨o1, ho1, ho2⟩ := ho
      cases o1 with
      | none => obtain ⟨_, h9, _⟩ := ho2; cases h9
      | some o1 =>
        obtain ⟨o2, h9, rfl⟩ := ho2
        cases h9
        obtain ⟨x, h1, h2⟩ := hs'.live _ o1 ho1
        refine ⟨x, by rw [List.getElem?_append_right (by omega), hlen]; exact h1, ?_⟩
        exact OB.shift (sz := (E.wX fun _ => False).cx) (sz2 := E.cx) rfl hlen (by
          have := List.all_eq_true.1 hh0 (some o1) (List.mem_of_getElem? ho1)
          simpa using this) h2
  · rcases Nat.lt_or_ge id H.length with hlt | hge
    · rw [List.getElem?_append_left hlt] at ho
      rw [List.getElem?_append_left (by omega)]
      exact hsim.dead id ho
    · rw [List.getElem?_append_right hge] at ho
      simp only [mapH, List.getElem?_map, Option.map_eq_some_iff] at ho
      obtain ⟨o1, ho1, ho2⟩ := ho
      cases o1 with
      | some o1 => simp at ho2
      | none =>
        rw [List.getElem?_append_right (by omega), hlen]
        exact hs'.dead _ ho1
  · rcases Nat.lt_or_ge i m.length with hi1 | hi1 <;> rcases Nat.lt_or_ge j m.length with hj1 | hj1
    · rw [List.getElem?_append_left hi1] at hi; rw [List.getElem?_append_left hj1] at hj
      exact hsim.inj i j b hi hj
    · rw [List.getElem?_append_left hi1] at hi; rw [List.getElem?_append_right hj1] at hj
      have h1 := hsim.lt (List.mem_of_getElem? hi)
      have h2 := hnew b (List.mem_of_getElem? hj)
      omega
    · rw [List.getElem?_append_right hi1] at hi; rw [List.getElem?_append_left hj1] at hj
      have h1 := hsim.lt (List.mem_of_getElem? hj)
      have h2 := hnew b (List.mem_of_getElem? hi)
      omega
    · rw [List.getElem?_append_right hi1] at hi; rw [List.getElem?_append_right hj1] at hj
      have := hs'.inj _ _ b hi hj
      omega
  · rcases List.mem_append.1 hb with h1 | h1
    · exact hsim.disj b h1 hX
    · have h2 := hsim.xlt b hX
      have h3 := hnew b h1
      omega
end Go.Abs
namespace Go.Abs
open Go.RowKit
theorem ext_below {m' : Mu} {w w' : World} (hb : Below w.heap.size w w') (hm : ∀ b, MS.blk b ∈ m' → w.heap.size ≤ b) : Ext [] w m' w' where
  os := hb.os
  tape := hb.tape
  output := hb.output
  size := hb.size
  keep := fun b h _ => hb.block b h
  fresh := fun b h h1 => absurd (hm b h1) (by omega)
  len := Nat.zero_le _
  ids := fun id _ h => absurd h (Nat.not_lt_zero _)
  shape := fun b s h => by
    have hlt : b < w.heap.size := by
      rcases Nat.lt_or_ge b w.heap.size with h1 | h1
      · exact h1
      · simp only [World.shape?, Array.getElem?_eq_none h1] at h; cases h
    simp only [World.shape?] at h ⊢
    rw [hb.block b hlt]; exact h
theorem sim_one {E : Env} {w : World} {x : MS} {o : AO} (ho : OB (E.wX fun _ => False).cx [x] w o x) : (E.wX fun _ => False).Sim [x] w [some o] where
  len := rfl
  live := fun id o' h => by
    match id, h with
    | 0, h => simp at h; subst h; exact ⟨x, rfl, ho⟩
  dead := fun id h => by
    match id, h with
    | 0, h => simp at h
  inj := fun i j b hi hj => by
    have h1 : i = 0 := by
      match i, hi with
      | 0, _ => rfl
    have h2 : j = 0 := by
      match j, hj with
      | 0, _ => rfl
    omega
  xlt := fun _ h => h.elim
  disj := fun _ _ h => h.elim
theorem flat_ones {xs : List Value} (h : ∀ u ∈ xs, u.cells = #[u]) : flat xs = xs := by
  induction xs with
  | nil => rfl
  | cons x xs ih =>
    show x.cells.toList ++ flat xs = _
    rw [h x (by simp), ih fun u hu => h u (List.mem_cons_of_mem _ hu)]; rfl
theorem own_row {E : Env} {m : Mu} {w w' : World} {H : Hp} {e : TypeId} {v : Value} {n : Nat} {xs : List Value} {es : List AV} (hsim : E.Sim m w H) (hb : Below w.heap.size w w') (hrow : w'.ownsRow w.heap.size e 1 v n xs)
    (hsz : E.sz e = 1) (hxs : ∀ u ∈ xs, u.cells = #[u]) (hrel : ∀ cx m, Abs.RelL cx m w' es xs) (hnf : noFzL es = true) :
    ∃ m', Ext m w m' w' ∧ E.Rel m' w' (.own H.length 0 n) v ∧ E.Sim m' w' (H ++ [some (.arr es e)]) := by
  obtain ⟨hl, hrow⟩ := hrow
  have hel : es.length = xs.length := (RelL.length (hrel E.cx [])).symm
  have hlen := hsim.len
  have fin : ∀ x, OB (E.wX fun _ => False).cx [x] w' (.arr es e) x → (∀ b, x = .blk b → w.heap.size ≤ b) → (rnL (· + H.length) es = es) → Ext m w (m ++ [x]) w' ∧ E.Sim (m ++ [x]) w' (H ++ [some (.arr es e)]) := fun x hx hbx hrn => by
    have := sim_join hsim (ext_below hb (m' := [x]) fun b h => hbx b (by simp only [List.mem_singleton] at h; exact h.symm)) (sim_one hx) (by simp [noFzH, noFzO, hnf])
    simpa [mapH, rnO, hrn] using this
  have hrn : rnL (· + H.length) es = es := rnL_closed _ (by have := RelL.ids es (hrel E.cx []); simpa using this)
  rcases hrow with ⟨rfl, rfl⟩ | ⟨g, cap, cur, rfl, hg, hblk, hn, hcap, hcs, htk⟩
  · have hes : es = [] := List.eq_nil_of_length_eq_zero (by omega)
    obtain ⟨h1, h2⟩ := fin .nil (by subst hes; exact rfl) (fun b h => by cases h) hrn
    refine ⟨m ++ [.nil], h1, ?_, h2⟩
    show Abs.Rel E.cx _ _ (.own _ 0 0) _
    simp only [Abs.Rel]
    refine ⟨none, 0, rfl, Nat.le_refl _, Nat.zero_le _, by simp; omega, fun _ => ⟨rfl, rfl⟩, fun b h => ?_⟩
    rw [List.getElem?_append_right (by omega), hlen, Nat.sub_self] at h; cases h
  · have hfl := flat_ones hxs
    obtain ⟨h1, h2⟩ := fin (.blk g) ⟨cur, xs, hblk, hrel _ _, fun u hu => by rw [hxs u hu]; exact hsz.symm, by rw [hfl, hl]; exact htk⟩ (fun b h => by cases h; exact hg) hrn
    refine ⟨m ++ [.blk g], h1, ?_, h2⟩
    show Abs.Rel E.cx _ _ (.own _ 0 n) _
    simp only [Abs.Rel]
    refine ⟨some ⟨g, 0, none⟩, cap, rfl, hn, hcap, by simp; omega, fun h => ?_, fun b h => ?_⟩
    · rw [List.getElem?_append_right (by omega), hlen, Nat.sub_self] at h; cases h
    · rw [List.getElem?_append_right (by omega), hlen, Nat.sub_self] at h
      cases h
      refine ⟨e, cur.size, by simp [World.shape?, hblk], ?_, fun _ => by simp⟩
      show (0 + cap) * E.sz e = _
      rw [hsz, hcs]; omega
end Go.Abs
namespace Go.Abs
def frzP (id : Nat) (cs : List AV) : AV → AV
  | .ptr i off => if i = id ∧ off = 0 then .fp cs else .ptr i off
  | v => v
section
variable {E : Env} {N n0 : Nat} {s : St}
theorem imp_freezeP {id : Nat} {cs : List AV} {e : TypeId} (ho : s.hp[id]? = some (some (.cells cs e))) :
    Imp E N n0 s ⟨s.sl.map fun p => (p.1, frzP id cs p.2), s.hp.set id none⟩ := by
  intro m0 w0 hn m w a hext hs
  have hid : id < s.hp.length := (List.getElem?_eq_some_iff.1 ho).1
  have hidm : id < m.length := by rw [hs.sim.len]; exact hid
  have hget : ∀ (i : Nat) (x : MS), x ≠ .dead → (m.set id .dead)[i]? = some x → m[i]? = some x ∧ i ≠ id := fun i x hx h => by
    by_cases hi : id = i
    · subst hi; rw [List.getElem?_set_self hidm] at h; cases h; exact absurd rfl hx
    · rw [List.getElem?_set_ne hi] at h; exact ⟨h, Ne.symm hi⟩
  have hsub : ∀ b, MS.blk b ∈ m.set id .dead → MS.blk b ∈ m := fun b hb => by
    obtain ⟨i, hi, he⟩ := List.getElem_of_mem hb
    exact List.mem_of_getElem? (hget i _ (by simp) (by rw [List.getElem?_eq_getElem hi, he])).1
  have hc : Cmp some E.cx E.cx m (m.set id .dead) := ⟨rfl, fun i j hij hi => by
    cases hij
    exact ⟨by simpa using hi, fun x hx h => (hget _ x hx h).1⟩, fun b h => h.imp (hsub b) (fun h => h)⟩
  refine ⟨m.set id .dead, ⟨hext.os, hext.tape, hext.output, hext.size, hext.keep, fun b hb h => hext.fresh b hb (hsub b h), by simpa using hext.len, fun i x hi hx h => hext.ids i x hi hx (hget i x hx h).1, hext.shape⟩, ?_⟩
  obtain ⟨q, hq, hob⟩ := hs.sim.live id _ ho
  refine ⟨hs.ok, fun j => ?_, hs.size, hs.defers, ?_, fun g => Rel.cmp_all hc (hs.glob g)⟩
  · show Abs.Rel E.cx _ w (get (s.sl.map fun p => (p.1, frzP id cs p.2)) j) _
    rw [get_map _ rfl]
    have hj := hs.slots j
    generalize get s.sl j = v at hj ⊢
    generalize a.tmps.getD j undef = u at hj ⊢
    cases v with
    | ptr i off =>
      simp only [frzP]
      split
      · rename_i hcond
        obtain ⟨rfl, rfl⟩ := hcond
        simp only [Env.Rel, Abs.Rel] at hj ⊢
        obtain ⟨ad, h1, h2, h3⟩ := hj
        cases q with
        | dead => exact hob.elim
        | nil => exact hob.elim
        | blk b =>
          obtain ⟨us, h7, h8⟩ := hob
          have hA := h3 b hq
          subst hA
          refine ⟨_, us.toList, h1, RelL.cmp hc (n := m.length) (fun _ _ => rfl) _ (RelL.ids _ h8) h8, fun _ => ⟨_, rfl, (Array.getElem?_eq_some_iff.1 h7).1, fun hm => ?_, hs.sim.disj b (List.mem_of_getElem? hq), fun j u hu => ?_⟩⟩
          · obtain ⟨i2, hi2, he2⟩ := List.getElem_of_mem hm
            obtain ⟨h14, h15⟩ := hget i2 (.blk b) (by simp) (by rw [List.getElem?_eq_getElem hi2, he2])
            exact h15 (hs.sim.inj i2 i b h14 hq)
          · have hadd : (⟨b, 0, none⟩ : Addr).add j = ⟨b, 0 + j, none⟩ := by unfold Addr.add; split <;> simp_all
            rw [hadd, cell_of_row w b _ us e (0, 0) h7]
            simpa using hu
      · exact Rel.cmp_all hc hj
    | _ => exact Rel.cmp_all hc hj
  · refine ⟨by simp [hs.sim.len], fun i o hi => ?_, fun i hi => ?_, fun i j b hi hj => ?_, hs.sim.xlt, fun b hb => hs.sim.disj b (hsub b hb)⟩
    · by_cases h : id = i
      · subst h; rw [List.getElem?_set_self hid] at hi; cases hi
      · rw [List.getElem?_set_ne h] at hi
        obtain ⟨x, h1, h2⟩ := hs.sim.live i o hi
        exact ⟨x, by rw [List.getElem?_set_ne h]; exact h1, h2.cmp hc (n := m.length) (fun _ _ => rfl) h2.ids⟩
    · by_cases h : id = i
      · subst h; rw [List.getElem?_set_self hidm]
      · rw [List.getElem?_set_ne h] at hi ⊢
        exact hs.sim.dead i hi
    · exact hs.sim.inj i j b (hget i _ (by simp) hi).1 (hget j _ (by simp) hj).1

end
section
variable {E : Env} {ρ : Operand → AV} {H : Hp} {K : AV → Hp → Prop} {d : Option Nat} {ty : TypeId} {pos : String} {after : Array Edge} {g : Option (Nat × Bool)}
theorem st_slice_fp {x : Operand} {lo hi : Option Operand} {t e : TypeId} {n : Nat} {cs out : List AV} {l h : Nat} (hl : Bnd ρ lo 0 l) (hh : Bnd ρ hi n h) (hlh : l ≤ h) (hle : h ≤ n) (hn : cs.length = n) (hmax : n ≤ maxLen) (hone : cs.all oneA = true) (e1 : (cs.take h).drop l = out)
    (ht : Nat.blt t E.n = true) (htk : (E.ti t).k = .arr n e) (he : Nat.blt e E.n = true) (hk : Nat.beq (E.ti e).sz 1 = true) (hx : ρ x = .fp cs) (hK : K (.sl 1 out) H) :
    AStep E ⟨d, .slice t x lo hi none, ty, pos, after, g⟩ ρ H K := by
  subst e1
  refine step_same _ (fun m w a hok hr hsim => ?_) hK
  have h1 := hr x
  rw [hx] at h1
  simp only [Env.Rel, Abs.Rel] at h1
  obtain ⟨ad, us, h3, h4, h5⟩ := h1
  have hkk : (E.ti e).sz = 1 := Nat.eq_of_beq_eq_true hk
  have hb := run_bounds hr (lo := lo) (hi := hi) (len := n) (cap := n) false hl hh hlh hle (Nat.le_refl _)
  have hul := h4.length
  have h1c := one_relL h4 hone
  refine ⟨.slice (some (if n = l then ad else ad.add (l * 1))) (h - l) (n - l), ?_, ?_⟩
  · simp only [execOp, Instr.sliceAt, Sem.run_bind, run_underlying (tk_arr hok ht htk), Result.andThen_ok, h3, Option.map_none, hb, run_size hok he, hkk, Sem.run_pure, Instr.sureAddr]
  · show Abs.Rel _ _ _ _ _
    simp only [Abs.Rel]
    have hlen : ((cs.take h).drop l).length = h - l := by simp; omega
    have h1d : ∀ u ∈ (us.take h).drop l, u.oneCell' = true := fun u hu => h1c u (List.mem_of_mem_take (List.mem_of_mem_drop hu))
    refine ⟨_, n - l, (us.take h).drop l, by rw [hlen], by omega, by omega, (h4.take h).drop l, fun u hu => by rw [one_cells (h1d u hu)]; rfl, fun hne => ?_⟩
    have hfl : flat ((us.take h).drop l) = (us.take h).drop l := flat_one h1d
    rw [hfl] at hne ⊢
    have hpos : l < h := by
      rcases Nat.lt_or_ge l h with h0 | h0
      · exact h0
      · exact absurd (List.drop_of_length_le (by simp; omega)) hne
    have hus : us ≠ [] := fun h0 => by subst h0; simp at hul; omega
    obtain ⟨a2, ha2, h10, h11, hX, h12⟩ := h5 hus
    cases ha2
    rw [if_neg (by omega)]
    refine ⟨_, rfl, by rw [add_block]; exact h10, by rw [add_block]; exact h11, by rw [add_block]; exact hX, fun j u hu => ?_⟩
    rw [add_add]
    apply h12
    rw [List.getElem?_drop, List.getElem?_take] at hu
    split at hu
    · rw [Nat.mul_one]; exact hu
    · cases hu
end
end Go.Abs
namespace Go.Abs
theorem ACalls.imp {E : Env} {f : FuncId} {args : List AV} {H : Hp} {R R' : AV → Hp → Prop} (h : ACalls E f args H R)
    (k : ∀ r H', R r H' → ∃ r' H'', R' r' H'' ∧ Imp E 1 H.length ⟨[(0, r)], H'⟩ ⟨[(0, r')], H''⟩) : ACalls E f args H R' := by
  refine ⟨h.1, fun m w vs hok hglob hargs hsim => (h.2 m w vs hok hglob hargs hsim).mono ?_⟩
  rintro e w' ⟨v, m', r, H', rfl, hext, hr, hs, hR⟩
  obtain ⟨r', H'', hR', hi⟩ := k r H' hR
  obtain ⟨m2, h1, h2⟩ := hi m w hsim.len m' w' { tmps := #[v], defers := [] } hext ⟨hok, fun k => by
    rw [get_cons]
    split
    · rename_i hk; subst hk; exact hr
    · exact (by simp [get, Env.Rel, Abs.Rel]), rfl, rfl, hs, fun g => (hglob g).ext hext⟩
  refine ⟨v, m2, r', H'', rfl, h1, ?_, h2.sim, hR'⟩
  have := h2.slots 0
  rw [get_cons, if_pos rfl] at this
  exact this
theorem imp_froz {E : Env} {H : Hp} {es : List AV} {e : TypeId} {k n : Nat} (hn : n = es.length) (he : Nat.blt e E.n = true) (hk : Nat.beq (E.ti e).sz k = true) (hok : HOk H.length H) (hes : IdsLtL H.length es) :
    Imp E 1 H.length ⟨[(0, .own H.length 0 n)], H ++ [some (.arr es e)]⟩ ⟨[(0, .sl k es)], H⟩ := by
  subst hn
  refine (imp_freeze (id := H.length) (k := k) (es := es) (e := e) (by simp) he hk).trans ?_
  refine imp_cutk H.length (Nat.le_refl _) hok (by simp) (by simp) ?_
  refine fa_cons ⟨?_, ?_⟩ fa_nil
  · simp [get_cons, frz]
  · exact hes
/-- A new array that nobody writes: a value. -/
theorem ACalls.froz {E : Env} {f : FuncId} {args : List AV} {H : Hp} {es : List AV} {e : TypeId} {n : Nat} (k : Nat) (h : ACalls E f args H (fun r H' => r = .own H.length 0 n ∧ H' = H ++ [some (.arr es e)])) (hn : n = es.length) (he : Nat.blt e E.n = true)
    (hk : Nat.beq (E.ti e).sz k = true) (hok : HOk H.length H) (hes : IdsLtL H.length es) : ACalls E f args H (fun r H' => r = .sl k es ∧ H' = H) :=
  h.imp fun r H' ⟨h1, h2⟩ => by
    subst h1; subst h2
    exact ⟨_, _, ⟨rfl, rfl⟩, imp_froz hn he hk hok hes⟩
end Go.Abs
namespace Go.Abs
section
variable {E : Env} {ρ : Operand → AV} {H : Hp} {K : AV → Hp → Prop} {d : Option Nat} {ty : TypeId} {pos : String} {after : Array Edge} {g : Option (Nat × Bool)}
theorem freeze_other {w : World} {a : Addr} {n b : Nat} (h : b ≠ a.block) : (w.freeze a n).heap[b]? = w.heap[b]? := by
  unfold World.freeze
  split
  · rfl
  · simp only [Array.getElem?_modify]
    rw [if_neg (by omega)]
theorem freeze_self {w : World} {a : Addr} {us : Array Value} {e : TypeId} {lh : Nat × Nat} (h : w.heap[a.block]? = some (.cells us e lh)) (n : Nat) : ∃ lh', (w.freeze a n).heap[a.block]? = some (.cells us e lh') := by
  unfold World.freeze
  split
  · exact ⟨lh, h⟩
  · simp only [Array.getElem?_modify, if_true, h, Option.map_some]
    exact ⟨_, rfl⟩
theorem freeze_size {w : World} {a : Addr} {n : Nat} : (w.freeze a n).heap.size = w.heap.size := by
  unfold World.freeze
  split <;> simp
theorem freeze_rest {w : World} {a : Addr} {n : Nat} : (w.freeze a n).os = w.os ∧ (w.freeze a n).tape = w.tape ∧ (w.freeze a n).output = w.output := by
  unfold World.freeze
  split <;> exact ⟨rfl, rfl, rfl⟩
theorem st_conv_mark {x : Operand} {t e e' : TypeId} {id lo n k : Nat} {es out : List AV} (hle : lo + n ≤ es.length) (hn0 : 0 < n) (e1 : (es.drop lo).take n = out) (ht : Nat.blt t E.n = true) (hkt : (E.ti t).k = .sl e) (he : Nat.blt e E.n = true) (hke : (E.ti e).k = .int .u8) (hx : ρ x = .own id lo n)
    (ho : H[id]? = some (some (.arr es e'))) (he' : Nat.blt e' E.n = true) (hk : Nat.beq (E.ti e').sz k = true) (h : K (.sl k out) (H.set id none)) : AStep E ⟨d, .convert t t x, ty, pos, after, g⟩ ρ H K := by
  subst e1
  refine step_any (fun m w a hok hr hsim => ?_)
  have hkk := Nat.eq_of_beq_eq_true hk
  have hsz2 : E.cx.sz e' = (E.ti e').sz := by obtain ⟨_, _, _, _, _, _, _, _, _, h⟩ := tyOf_spec hok he'; exact h
  have h1 := hr x
  rw [hx] at h1
  simp only [Env.Rel, Abs.Rel] at h1
  obtain ⟨A, c, hv, h2, h3, h4, h5, h6⟩ := h1
  obtain ⟨q, hq, hob⟩ := hsim.live id _ ho
  cases q with
  | dead => exact hob.elim
  | nil => have : es = [] := hob; subst this; simp at hle; omega
  | blk b =>
    obtain ⟨us, vs, h7, h8, h9, h10⟩ := hob
    obtain ⟨e2, k2, h11, h12, h13⟩ := h6 b hq
    have hA := h13 (.inl (by omega))
    subst hA
    have hee : e2 = e' ∧ k2 = us.size := by
      unfold World.shape? at h11
      rw [h7] at h11
      simp at h11
      exact ⟨h11.1.symm, h11.2.symm⟩
    obtain ⟨rfl, rfl⟩ := hee
    let w' := w.freeze ⟨b, us.size, none⟩ 1
    obtain ⟨lh', hself⟩ := freeze_self (a := ⟨b, us.size, none⟩) h7 1
    have hself : w'.heap[b]? = some (.cells us e2 lh') := hself
    have hoth : ∀ c, c ≠ b → w'.heap[c]? = w.heap[c]? := fun c hc => freeze_other hc
    have hidm : id < m.length := (List.getElem?_eq_some_iff.1 hq).1
    have hget : ∀ (i : Nat) (x : MS), x ≠ .dead → (m.set id .dead)[i]? = some x → m[i]? = some x ∧ i ≠ id := fun i x hx h => by
      by_cases hi : id = i
      · subst hi; rw [List.getElem?_set_self hidm] at h; cases h; exact absurd rfl hx
      · rw [List.getElem?_set_ne hi] at h; exact ⟨h, Ne.symm hi⟩
    have hsub : ∀ c, MS.blk c ∈ m.set id .dead → MS.blk c ∈ m ∧ c ≠ b := fun c hc => by
      obtain ⟨i, hi, he⟩ := List.getElem_of_mem hc
      obtain ⟨h14, h15⟩ := hget i (.blk c) (by simp) (by rw [List.getElem?_eq_getElem hi, he])
      exact ⟨List.mem_of_getElem? h14, fun e => h15 (hsim.inj i id b (e ▸ h14) hq)⟩
    have hext : Ext m w (m.set id .dead) w' := ⟨freeze_rest.1, freeze_rest.2.1, freeze_rest.2.2, by rw [freeze_size]; exact Nat.le_refl _, fun c _ hc => hoth c fun e => hc (e ▸ List.mem_of_getElem? hq), fun c _ hc => (hsub c hc).1, by simp,
      fun i x hi hx h => (hget i x hx h).1, fun c s hs => by
        by_cases hcb : c = b
        · subst hcb; rw [h11] at hs; cases hs; simp [World.shape?, hself]
        · unfold World.shape? at hs ⊢; rw [hoth c hcb]; exact hs⟩
    have hrun : (execOp a.eval ⟨d, .convert t t x, ty, pos, after, g⟩).run E.P w = .ok (.value (a.eval x)) w' := by
      have hu := run_underlying (w := w) (tk_sl hok ht hkt)
      have hu2 := run_underlying (w := w) (tk_int hok he hke)
      simp only [execOp, hv, convert, Sem.run_bind, hu, Result.andThen_ok, beq_self_eq_true, hu2, markStringish, run_shape, h11, run_freeze, Sem.run_pure]
      rfl
    refine ⟨a.eval x, w', m.set id .dead, _, _, hrun, hext, ?_, ?_, h⟩
    · rw [hv]
      show Abs.Rel _ _ _ _ _
      simp only [Abs.Rel]
      have hlen : ((es.drop lo).take n).length = n := by simp; omega
      have hr8 := ((h8.drop lo).take n).ext hext
      have hk9 : ∀ u ∈ (vs.drop lo).take n, u.cells.size = k := fun u hu => by
        rw [h9 u (List.mem_of_mem_drop (List.mem_of_mem_take hu)), hsz2, hkk]
      refine ⟨_, c, (vs.drop lo).take n, by rw [hlen], by omega, h3, hr8, hk9, fun _ => ⟨_, rfl, ?_, fun hm => (hsub b hm).2 rfl, hsim.disj b (List.mem_of_getElem? hq), fun j u hu => ?_⟩⟩
      · rw [freeze_size]; exact (Array.getElem?_eq_some_iff.1 h7).1
      · have hadd : (⟨b, lo * E.cx.sz e2, none⟩ : Addr).add j = ⟨b, lo * E.cx.sz e2 + j, none⟩ := by unfold Addr.add; split <;> simp_all
        rw [hadd, cell_of_row w' b _ us e2 lh' hself]
        have h9d : ∀ u ∈ vs.drop lo, u.cells.size = E.cx.sz e2 := fun u hu => h9 u (List.mem_of_mem_drop hu)
        rw [flat_take h9d, flat_drop h9, List.getElem?_take, List.getElem?_drop] at hu
        split at hu
        · rw [← h10, List.getElem?_take] at hu
          split at hu
          · simpa using hu
          · cases hu
        · cases hu
    · have hid : id < H.length := (List.getElem?_eq_some_iff.1 ho).1
      refine ⟨by simp [hsim.len], fun i o hi => ?_, fun i hi => ?_, fun i j b hi hj => ?_, fun b hb => by rw [freeze_size]; exact hsim.xlt b hb, fun b hb => hsim.disj b (hsub b hb).1⟩
      · by_cases hii : id = i
        · subst hii; rw [List.getElem?_set_self hid] at hi; cases hi
        · rw [List.getElem?_set_ne hii] at hi
          obtain ⟨x, hx1, hx2⟩ := hsim.live i o hi
          refine ⟨x, by rw [List.getElem?_set_ne hii]; exact hx1, hx2.ext hext fun c hc => hoth c fun e => ?_⟩
          subst hc; subst e
          exact hii (hsim.inj id i c hq hx1)
      · by_cases hii : id = i
        · subst hii; rw [List.getElem?_set_self hidm]
        · rw [List.getElem?_set_ne hii] at hi ⊢
          exact hsim.dead i hi
      · exact hsim.inj i j b (hget i _ (by simp) hi).1 (hget j _ (by simp) hj).1
end
end Go.Abs
namespace Go.Abs
section
variable {E : Env} {ρ : Operand → AV} {H : Hp} {K : AV → Hp → Prop} {d : Option Nat} {ty : TypeId} {pos : String} {after : Array Edge} {g : Option (Nat × Bool)}
theorem foldl_push (l : List UInt8) : ∀ s : ByteArray, (l.map fun b => (b.toNat : Int)).foldl (fun r n => r.push (UInt8.ofNat n.toNat)) s = ⟨s.data ++ l.toArray⟩ := by
  induction l with
  | nil => intro s; simp
  | cons b l ih =>
    intro s
    simp only [List.map_cons, List.foldl_cons]
    rw [ih]
    have hb : UInt8.ofNat ((b.toNat : Int).toNat) = b := by simp
    rw [hb]
    simp [ByteArray.push]
theorem relL_u8v {sz : Cx} {m : Mu} {w : World} : ∀ {l : List UInt8} {vs : List Value}, RelL sz m w (l.map u8A) vs → vs = l.map fun b => Value.int .u8 b.toNat
  | [], vs, h => by simpa [RelL] using h
  | b :: l, vs, h => by
    obtain ⟨v, r, rfl, h1, h2⟩ := relL_cons.1 h
    simp only [u8A, Abs.Rel] at h1
    rw [h1, relL_u8v h2]; rfl
theorem st_bstr {x : Operand} {t u e : TypeId} {l : List UInt8} (hx : srcA E H 1 (ρ x) = some (l.map u8A)) (ht : Nat.blt t E.n = true) (hkt : (E.ti t).k = .sl e) (hu : Nat.blt u E.n = true) (hk : (E.ti u).k = .str) (he : Nat.blt e E.n = true) (hke : (E.ti e).k = .int .u8)
    (h : K (.str l) H) : AStep E ⟨d, .convert t u x, ty, pos, after, g⟩ ρ H K := by
  refine step_same _ (fun m w a hok hr hsim => ⟨.string ⟨l.toArray⟩, ?_, by simp [Env.Rel, Abs.Rel]⟩) h
  obtain ⟨A, c, vs, h1, h2, h3, h4, h5⟩ := src_spec hok hsim (hr x) hx
  have hvs := relL_u8v h3
  subst hvs
  rw [flat_one (u8_one l)] at h5
  have hu1 := run_underlying (w := w) (tk_sl hok ht hkt)
  have hu2 := run_underlying (w := w) (tk_str hok hu hk)
  have hu3 := run_underlying (w := w) (tk_int hok he hke)
  have hb : (Conv.bytesToString (a.eval x)).run E.P w = .ok (.string ⟨l.toArray⟩) w := by
    rw [h1, List.length_map]
    cases A with
    | none =>
      have hl : l = [] := by
        rcases l with _ | ⟨b, l⟩
        · rfl
        · obtain ⟨a, ha, _⟩ := h5 (by simp)
          cases ha
      subst hl
      simp [Conv.bytesToString, Sem.run_pure]
      rfl
    | some ad =>
      have hc : ∀ (j : Nat) (u : Value), (l.map fun b => Value.int .u8 b.toNat)[j]? = some u → w.cell? (ad.add j) = some u := fun j u hj => by
        obtain ⟨a, ha, hcell⟩ := h5 (by intro h0; rw [h0] at hj; simp at hj)
        cases ha
        exact hcell j u hj
      have hrun := run_cells (E := E) hc
      have h6 : (l.map fun b => Value.int .u8 b.toNat) = (l.map fun b => (b.toNat : Int)).map (Value.int .u8) := by simp
      rw [h6] at hrun
      simp only [List.length_map] at hrun
      have := run_bytesToString w ad l.length c (l.map fun b => (b.toNat : Int)) hrun
      rw [this, foldl_push]
      simp
  simp only [execOp, convert, Sem.run_bind, hu1, hu2, hu3, Result.andThen_ok, h1]
  rw [h1] at hb
  generalize hcc : c = c' at *
  cases A with
  | none => simp only [Result.andThen_ok, hb, Sem.run_pure]
  | some ad => simp only [Result.andThen_ok, hb, Sem.run_pure]
theorem st_index_fp {x i : Operand} {t e : TypeId} {N : Nat} {cs : List AV} {kk : IntKind} {n : Int} {j : Nat} {y : AV} (hn : n = (j : Int)) (hj : j < N) (hy : cs[j]? = some y) (ht : Nat.blt t E.n = true) (htk : (E.ti t).k = .arr N e) (he : Nat.blt e E.n = true)
    (hs1 : Nat.beq (E.ti e).sz 1 = true) (hx : ρ x = .fp cs) (hi : ρ i = .int kk n) (h : K (.fp [y]) H) : AStep E ⟨d, .indexAddr t x i, ty, pos, after, g⟩ ρ H K := by
  refine step_same _ (fun m w a hok hr hsim => ?_) h
  have h1 := hr x; have h2 := hr i
  rw [hx] at h1; rw [hi] at h2
  simp only [Env.Rel, Abs.Rel] at h1
  obtain ⟨ad, us, h3, h4, h5⟩ := h1
  have hs1' := Nat.eq_of_beq_eq_true hs1
  obtain ⟨u, hu, hru⟩ := h4.get j hy
  have hne : us ≠ [] := fun h0 => by subst h0; simp at hu
  obtain ⟨a2, ha2, h10, h11, hX, h12⟩ := h5 hne
  cases ha2
  subst hn
  have hin : (0 : Int) ≤ (j : Int) ∧ (j : Int) < (N : Int) := by omega
  refine ⟨.pointer (some (ad.add (j * 1))), ?_, ?_⟩
  · simp only [execOp, Instr.indexAt, Sem.run_bind, rel_int h2, asIntOf, Sem.run_pure, Result.andThen_ok, run_underlying (tk_arr hok ht htk), h3, Instr.sureAddr, hin.1, hin.2, and_self, if_true, run_size hok he, hs1', Int.toNat_natCast]
  · show Abs.Rel _ _ _ _ _
    simp only [Abs.Rel]
    refine ⟨_, [u], rfl, RelL.cons hru (by simp [Abs.RelL]), fun _ => ⟨_, rfl, by rw [add_block]; exact h10, by rw [add_block]; exact h11, by rw [add_block]; exact hX, fun q z hz => ?_⟩⟩
    rw [add_add, Nat.mul_one]
    match q, hz with
    | 0, hz =>
      simp at hz
      subst hz
      exact h12 _ _ (by simpa using hu)
    | q + 1, hz => simp at hz
/-- append(nil, make([]byte, n)...). -/
theorem st_append_z {t t' e : TypeId} {x y : Operand} {n : Nat} {kn kk : IntKind} {nn : Int} (hn : nn = (n : Int)) (h0 : 0 < n) (hm : n ≤ 1073741824) (ht : Nat.blt t E.n = true) (hk : (E.ti t).k = .sl e) (ht' : Nat.blt t' E.n = true) (hk' : (E.ti t').k = .int kn) (he : Nat.blt e E.n = true)
    (hz : (E.ti e).z = some [.int .u8 0]) (hs1 : Nat.beq (E.ti e).sz 1 = true) (hb1 : Nat.beq (E.ti e).bt 1 = true) (hx : ρ x = .nils) (hy : ρ y = .int kk nn) (h : K (.own H.length 0 n) (H ++ [some (.arr (List.replicate n (u8A 0)) e)])) :
    AStep E ⟨d, .call ⟨.builtin .append, #[x, y], #[t, t']⟩, ty, pos, after, g⟩ ρ H K := by
  refine step_any (fun m w a hok hr hsim => ?_)
  obtain ⟨v, _, h2, i, h3, h4, h5, h6⟩ := zero_spec hok he hz
  have hs1' := Nat.eq_of_beq_eq_true hs1
  have hb1' := Nat.eq_of_beq_eq_true hb1
  have hx' := hr x; have hy' := hr y
  rw [hx] at hx'; rw [hy] at hy'
  subst hn
  have hnil : a.eval x = .slice none 0 0 := by simpa [Env.Rel, Abs.Rel] using hx'
  have hcells : v.cells = #[.int .u8 0] := by
    have h7 : v.cells.size = 1 := by have := congrArg List.length h2; simpa using this
    have h8 : v.cells.toList.map ofV1 = [.int .u8 0] := h2
    obtain ⟨c, hc⟩ : ∃ c, v.cells.toList = [c] := by
      have h9 : v.cells.toList.length = 1 := by simpa using h7
      rcases hl : v.cells.toList with _ | ⟨c, _ | ⟨c2, r⟩⟩
      · rw [hl] at h9; cases h9
      · exact ⟨c, rfl⟩
      · rw [hl] at h9; simp at h9
    rw [hc] at h8
    have h10 : ofV1 c = .int .u8 0 := by simpa using h8
    have : c = .int .u8 0 := by
      unfold ofV1 at h10
      split at h10 <;> first | (cases h10; rfl) | contradiction | (cases h10)
    apply Array.ext'
    rw [hc, this]
  have hrun := Lib.run_append_nil_zeros (P := E.P) w t t' ty e i v kk kn (tk_sl hok ht hk) (tk_int hok ht' hk') h3 h4 n h0 (by rw [h5, hs1']; decide) (by omega) (by rw [h6, hb1']; omega)
  rw [hcells] at hrun
  have hzc : ∀ k, (Builtin.zeroCells #[Value.int .u8 0] k).toList = List.replicate k (Value.int .u8 0) := fun k => by
    apply List.ext_getElem
    · simp [Builtin.zeroCells]
    · intro j h1 h2; simp [Builtin.zeroCells, Nat.mod_one]
  have hge := grownCap_ge w n 0 e
  have hcm := grownCap_le_maxLen w n 0 e (by simp only [maxLen]; omega)
  have hsz2 : E.cx.sz e = (E.ti e).sz := by obtain ⟨_, _, _, _, _, _, _, _, _, h⟩ := tyOf_spec hok he; exact h
  have hrel : E.RelL m w.drew (List.replicate n (u8A 0)) (List.replicate n (Value.int .u8 0)) := by
    have h9 : List.replicate n (u8A 0) = (List.replicate n (0 : UInt8)).map u8A := by simp
    have h10 : List.replicate n (Value.int .u8 0) = (List.replicate n (0 : UInt8)).map fun b => Value.int .u8 b.toNat := by simp
    rw [h9, h10]; exact relL_u8 _
  have hone : ∀ u ∈ List.replicate n (Value.int .u8 0), u.oneCell' = true := fun u hu => by rw [List.eq_of_mem_replicate hu]; rfl
  obtain ⟨q1, q2, q3⟩ := own_new (e := e) (n := n) (c := grownCap w n 0 e) (k := 1) (w := w.drew) hsim.drew rfl hge hcm hrel (fun u hu => by rw [List.eq_of_mem_replicate hu]; rfl) (us := Builtin.zeroCells #[Value.int .u8 0] n ++ Builtin.zeroCells #[Value.int .u8 0] (grownCap w n 0 e - n)) (by
    rw [flat_one hone, Array.toList_append, hzc, hzc, List.length_replicate, List.take_left' (by simp)]) (by rw [hsz2, hs1']) (by simp [Builtin.zeroCells]; omega)
  refine ⟨_, _, _, _, _, ?_, (Ext.drew m w).trans q1, q2, q3, h⟩
  simp only [execOp, resolve, invoke, builtin, Sem.run_bind, Sem.run_pure, Result.andThen_ok, List.map_toArray, List.map_cons, List.map_nil, hnil, rel_int hy', hrun]
  rfl
theorem st_cap_nil {x : Operand} {t e : TypeId} (ht : Nat.blt t E.n = true) (hk : (E.ti t).k = .sl e) (hx : ρ x = .nils) (h : K (.int .i64 0) H) : AStep E ⟨d, .call ⟨.builtin .cap, #[x], #[t]⟩, ty, pos, after, g⟩ ρ H K := by
  refine step_same _ (fun m w a hok hr hsim => ⟨.int .i64 0, ?_, mk_int⟩) h
  have h1 := hr x
  rw [hx] at h1
  have h2 : a.eval x = .slice none 0 0 := by simpa [Env.Rel, Abs.Rel] using h1
  simp [execOp, resolve, invoke, builtin, Builtin.cap_, run_underlying (tk_sl hok ht hk), h2, goInt]
end
section
variable {E : Env} {N n0 : Nat} {sl : List (Nat × AV)} {hp : Hp}
/-- An array object may be known by a prefix alone. -/
theorem imp_shrink {id n : Nat} {es : List AV} {e : TypeId} (ho : hp[id]? = some (some (.arr es e))) : Imp E N n0 ⟨sl, hp⟩ ⟨sl, hp.set id (some (.arr (es.take n) e))⟩ := by
  intro m0 w0 hn m w a hext hs
  refine ⟨m, hext, hs.ok, hs.slots, hs.size, hs.defers, ?_, hs.glob⟩
  have hid : id < hp.length := (List.getElem?_eq_some_iff.1 ho).1
  refine ⟨by simp [hs.sim.len], fun i o hi => ?_, fun i hi => ?_, hs.sim.inj, hs.sim.xlt, hs.sim.disj⟩
  · by_cases h : id = i
    · subst h
      rw [List.getElem?_set_self hid] at hi
      simp only [Option.some.injEq] at hi
      subst hi
      obtain ⟨x, h1, h2⟩ := hs.sim.live id _ ho
      refine ⟨x, h1, ?_⟩
      cases x with
      | dead => exact h2.elim
      | nil =>
        have : es = [] := h2
        subst this
        show List.take n [] = []
        simp
      | blk b =>
        obtain ⟨us, vs, h3, h4, h5, h6⟩ := h2
        refine ⟨us, vs.take n, h3, h4.take n, fun u hu => h5 u (List.mem_of_mem_take hu), ?_⟩
        have h7 := flat_take h5 n
        rw [h7, List.length_take]
        conv => rhs; rw [← h6, List.take_take]
    · rw [List.getElem?_set_ne h] at hi
      exact hs.sim.live i o hi
  · by_cases h : id = i
    · subst h; rw [List.getElem?_set_self hid] at hi; cases hi
    · rw [List.getElem?_set_ne h] at hi
      exact hs.sim.dead i hi
end
end Go.Abs
namespace Go.Abs

def ti0 (t : Nat) : Ty := cond (Nat.blt t 8)
 (cond (Nat.blt t 4)
 (cond (Nat.blt t 2)
 (cond (Nat.blt t 1)
 (⟨1, 0, .other, (some [.any]), false⟩)
 (⟨1, 8, .fn, (some [.nilf]), false⟩))
 (cond (Nat.blt t 3)
 (⟨1, 8, (.int .i64), (some [.int .i64 0]), false⟩)
 (⟨1, 8, (.int .i64), (some [.int .i64 0]), false⟩)))
 (cond (Nat.blt t 6)
 (cond (Nat.blt t 5)
 (⟨1, 1, .bool, (some [.bool false]), false⟩)
 (⟨1, 1, (.int .u8), (some [.int .u8 0]), false⟩))
 (cond (Nat.blt t 7)
 (⟨1, 1, (.int .u8), (some [.int .u8 0]), false⟩)
 (⟨4, 24, (.struct [(0, 2), (1, 3), (2, 4), (3, 6)]), (some [.int .i64 0, .int .i64 0, .bool false, .int .u8 0]), true⟩))))
 (cond (Nat.blt t 12)
 (cond (Nat.blt t 10)
 (cond (Nat.blt t 9)
 (⟨4, 24, (.struct [(0, 2), (1, 3), (2, 4), (3, 6)]), (some [.int .i64 0, .int .i64 0, .bool false, .int .u8 0]), true⟩)
 (⟨1, 16, .str, (some [.str []]), false⟩))
 (cond (Nat.blt t 11)
 (⟨1, 16, .str, (some [.str []]), false⟩)
 (⟨1, 16, .str, (some [.str []]), false⟩)))
 (cond (Nat.blt t 14)
 (cond (Nat.blt t 13)
 (⟨1, 8, (.int .u64), (some [.int .u64 0]), false⟩)
 (⟨2, 24, (.struct [(0, 9), (1, 12)]), (some [.str [], .int .u64 0]), false⟩))
 (cond (Nat.blt t 15)
 (⟨2, 24, (.struct [(0, 9), (1, 12)]), (some [.str [], .int .u64 0]), false⟩)
 (⟨1, 8, (.ptr 225), (some [.nilp]), false⟩))))
def ti1 (t : Nat) : Ty := cond (Nat.blt t 24)
 (cond (Nat.blt t 20)
 (cond (Nat.blt t 18)
 (cond (Nat.blt t 17)
 (⟨1, 8, (.ptr 228), (some [.nilp]), false⟩)
 (⟨1, 8, (.ptr 236), (some [.nilp]), false⟩))
 (cond (Nat.blt t 19)
 (⟨1, 8, (.struct [(0, 17)]), (some [.nilp]), false⟩)
 (⟨1, 8, (.struct [(0, 17)]), (some [.nilp]), false⟩)))
 (cond (Nat.blt t 22)
 (cond (Nat.blt t 21)
 (⟨1, 16, .ifc, (some [.nili]), false⟩)
 (⟨1, 4, (.int .i32), (some [.int .i32 0]), false⟩))
 (cond (Nat.blt t 23)
 (⟨1, 8, .fn, (some [.nilf]), false⟩)
 (⟨1, 8, .fn, (some [.nilf]), false⟩))))
 (cond (Nat.blt t 28)
 (cond (Nat.blt t 26)
 (cond (Nat.blt t 25)
 (⟨1, 8, .fn, (some [.nilf]), false⟩)
 (⟨1, 8, (.ptr 118), (some [.nilp]), false⟩))
 (cond (Nat.blt t 27)
 (⟨1, 8, .fn, (some [.nilf]), false⟩)
 (⟨1, 24, (.sl 3), (some [.nils]), false⟩)))
 (cond (Nat.blt t 30)
 (cond (Nat.blt t 29)
 (⟨4, 32, (.struct [(0, 3), (1, 3), (2, 3), (3, 3)]), (some [.int .i64 0, .int .i64 0, .int .i64 0, .int .i64 0]), true⟩)
 (⟨4, 32, (.struct [(0, 3), (1, 3), (2, 3), (3, 3)]), (some [.int .i64 0, .int .i64 0, .int .i64 0, .int .i64 0]), true⟩))
 (cond (Nat.blt t 31)
 (⟨1, 8, .fn, (some [.nilf]), false⟩)
 (⟨8, 64, (.struct [(0, 3), (1, 3), (2, 3), (3, 3), (4, 29)]), (some [.int .i64 0, .int .i64 0, .int .i64 0, .int .i64 0, .int .i64 0, .int .i64 0, .int .i64 0, .int .i64 0]), true⟩))))
def ti2 (t : Nat) : Ty := cond (Nat.blt t 40)
 (cond (Nat.blt t 36)
 (cond (Nat.blt t 34)
 (cond (Nat.blt t 33)
 (⟨8, 64, (.struct [(0, 3), (1, 3), (2, 3), (3, 3), (4, 29)]), (some [.int .i64 0, .int .i64 0, .int .i64 0, .int .i64 0, .int .i64 0, .int .i64 0, .int .i64 0, .int .i64 0]), true⟩)
 (⟨1, 8, (.int .i64), (some [.int .i64 0]), false⟩))
 (cond (Nat.blt t 35)
 (⟨1, 8, .fn, (some [.nilf]), false⟩)
 (⟨1, 24, (.sl 32), (some [.nils]), false⟩)))
 (cond (Nat.blt t 38)
 (cond (Nat.blt t 37)
 (⟨1, 8, .fn, (some [.nilf]), false⟩)
 (⟨1, 8, .fn, (some [.nilf]), false⟩))
 (cond (Nat.blt t 39)
 (⟨1, 24, (.sl 5), (some [.nils]), false⟩)
 (⟨1, 8, .fn, (some [.nilf]), false⟩))))
 (cond (Nat.blt t 44)
 (cond (Nat.blt t 42)
 (cond (Nat.blt t 41)
 (⟨1, 8, .fn, (some [.nilf]), false⟩)
 (⟨1, 8, .fn, (some [.nilf]), false⟩))
 (cond (Nat.blt t 43)
 (⟨1, 8, .fn, (some [.nilf]), false⟩)
 (⟨1, 8, .fn, (some [.nilf]), false⟩)))
 (cond (Nat.blt t 46)
 (cond (Nat.blt t 45)
 (⟨1, 8, .fn, (some [.nilf]), false⟩)
 (⟨1, 8, .fn, (some [.nilf]), false⟩))
 (cond (Nat.blt t 47)
 (⟨1, 8, .fn, (some [.nilf]), false⟩)
 (⟨1, 8, .fn, (some [.nilf]), false⟩))))
def ti3 (t : Nat) : Ty := cond (Nat.blt t 56)
 (cond (Nat.blt t 52)
 (cond (Nat.blt t 50)
 (cond (Nat.blt t 49)
 (⟨1, 24, (.sl 29), (some [.nils]), false⟩)
 (⟨14, 128, (.struct [(0, 3), (1, 3), (2, 3), (3, 3), (4, 3), (5, 29), (9, 29), (13, 48)]), (some [.int .i64 0, .int .i64 0, .int .i64 0, .int .i64 0, .int .i64 0, .int .i64 0, .int .i64 0, .int .i64 0, .int .i64 0, .int .i64 0, .int .i64 0, .int .i64 0, .int .i64 0, .nils]), true⟩))
 (cond (Nat.blt t 51)
 (⟨14, 128, (.struct [(0, 3), (1, 3), (2, 3), (3, 3), (4, 3), (5, 29), (9, 29), (13, 48)]), (some [.int .i64 0, .int .i64 0, .int .i64 0, .int .i64 0, .int .i64 0, .int .i64 0, .int .i64 0, .int .i64 0, .int .i64 0, .int .i64 0, .int .i64 0, .int .i64 0, .int .i64 0, .nils]), true⟩)
 (⟨1, 0, .other, (some [.any]), false⟩)))
 (cond (Nat.blt t 54)
 (cond (Nat.blt t 53)
 (⟨1, 8, .fn, (some [.nilf]), false⟩)
 (⟨1, 8, .fn, (some [.nilf]), false⟩))
 (cond (Nat.blt t 55)
 (⟨1, 8, .fn, (some [.nilf]), false⟩)
 (⟨1, 8, .fn, (some [.nilf]), false⟩))))
 (cond (Nat.blt t 60)
 (cond (Nat.blt t 58)
 (cond (Nat.blt t 57)
 (⟨1, 8, .fn, (some [.nilf]), false⟩)
 (⟨1, 8, .fn, (some [.nilf]), false⟩))
 (cond (Nat.blt t 59)
 (⟨1, 8, .fn, (some [.nilf]), false⟩)
 (⟨1, 8, .fn, (some [.nilf]), false⟩)))
 (cond (Nat.blt t 62)
 (cond (Nat.blt t 61)
 (⟨1, 8, .fn, (some [.nilf]), false⟩)
 (⟨1, 24, (.sl 83), (some [.nils]), false⟩))
 (cond (Nat.blt t 63)
 (⟨1, 24, (.sl 4), (some [.nils]), false⟩)
 (⟨1, 24, (.sl 131), (some [.nils]), false⟩))))
def ti4 (t : Nat) : Ty := cond (Nat.blt t 72)
 (cond (Nat.blt t 68)
 (cond (Nat.blt t 66)
 (cond (Nat.blt t 65)
 (⟨6, 96, (.struct [(0, 3), (1, 3), (2, 61), (3, 62), (4, 63), (5, 3)]), (some [.int .i64 0, .int .i64 0, .nils, .nils, .nils, .int .i64 0]), true⟩)
 (⟨6, 96, (.struct [(0, 3), (1, 3), (2, 61), (3, 62), (4, 63), (5, 3)]), (some [.int .i64 0, .int .i64 0, .nils, .nils, .nils, .int .i64 0]), true⟩))
 (cond (Nat.blt t 67)
 (⟨1, 0, .other, (some [.any]), false⟩)
 (⟨1, 8, .fn, (some [.nilf]), false⟩)))
 (cond (Nat.blt t 70)
 (cond (Nat.blt t 69)
 (⟨6, 48, (.struct [(0, 3), (1, 3), (2, 3), (3, 3), (4, 3), (5, 3)]), (some [.int .i64 0, .int .i64 0, .int .i64 0, .int .i64 0, .int .i64 0, .int .i64 0]), true⟩)
 (⟨6, 48, (.struct [(0, 3), (1, 3), (2, 3), (3, 3), (4, 3), (5, 3)]), (some [.int .i64 0, .int .i64 0, .int .i64 0, .int .i64 0, .int .i64 0, .int .i64 0]), true⟩))
 (cond (Nat.blt t 71)
 (⟨1, 0, .other, (some [.any]), false⟩)
 (⟨1, 8, .fn, (some [.nilf]), false⟩))))
 (cond (Nat.blt t 76)
 (cond (Nat.blt t 74)
 (cond (Nat.blt t 73)
 (⟨1, 8, .fn, (some [.nilf]), false⟩)
 (⟨1, 8, .fn, (some [.nilf]), false⟩))
 (cond (Nat.blt t 75)
 (⟨1, 24, (.sl 88), (some [.nils]), false⟩)
 (⟨1, 8, .fn, (some [.nilf]), false⟩)))
 (cond (Nat.blt t 78)
 (cond (Nat.blt t 77)
 (⟨1, 8, .fn, (some [.nilf]), false⟩)
 (⟨1, 8, .fn, (some [.nilf]), false⟩))
 (cond (Nat.blt t 79)
 (⟨1, 8, .fn, (some [.nilf]), false⟩)
 (⟨1, 8, (.ptr 151), (some [.nilp]), false⟩))))
def ti5 (t : Nat) : Ty := cond (Nat.blt t 88)
 (cond (Nat.blt t 84)
 (cond (Nat.blt t 82)
 (cond (Nat.blt t 81)
 (⟨1, 0, .other, (some [.any]), false⟩)
 (⟨1, 8, .fn, (some [.nilf]), false⟩))
 (cond (Nat.blt t 83)
 (⟨4, 64, (.struct [(0, 3), (1, 38), (2, 38), (3, 3)]), (some [.int .i64 0, .nils, .nils, .int .i64 0]), true⟩)
 (⟨4, 64, (.struct [(0, 3), (1, 38), (2, 38), (3, 3)]), (some [.int .i64 0, .nils, .nils, .int .i64 0]), true⟩)))
 (cond (Nat.blt t 86)
 (cond (Nat.blt t 85)
 (⟨1, 8, .fn, (some [.nilf]), false⟩)
 (⟨1, 0, .other, (some [.any]), false⟩))
 (cond (Nat.blt t 87)
 (⟨1, 8, .fn, (some [.nilf]), false⟩)
 (⟨6, 80, (.struct [(0, 3), (1, 3), (2, 83)]), (some [.int .i64 0, .int .i64 0, .int .i64 0, .nils, .nils, .int .i64 0]), true⟩))))
 (cond (Nat.blt t 92)
 (cond (Nat.blt t 90)
 (cond (Nat.blt t 89)
 (⟨6, 80, (.struct [(0, 3), (1, 3), (2, 83)]), (some [.int .i64 0, .int .i64 0, .int .i64 0, .nils, .nils, .int .i64 0]), true⟩)
 (⟨1, 8, .fn, (some [.nilf]), false⟩))
 (cond (Nat.blt t 91)
 (⟨1, 8, .fn, (some [.nilf]), false⟩)
 (⟨4, 32, (.struct [(0, 3), (1, 3), (2, 3), (3, 4)]), (some [.int .i64 0, .int .i64 0, .int .i64 0, .bool false]), true⟩)))
 (cond (Nat.blt t 94)
 (cond (Nat.blt t 93)
 (⟨4, 32, (.struct [(0, 3), (1, 3), (2, 3), (3, 4)]), (some [.int .i64 0, .int .i64 0, .int .i64 0, .bool false]), true⟩)
 (⟨1, 8, .fn, (some [.nilf]), false⟩))
 (cond (Nat.blt t 95)
 (⟨1, 8, .fn, (some [.nilf]), false⟩)
 (⟨1, 8, .fn, (some [.nilf]), false⟩))))
def ti6 (t : Nat) : Ty := cond (Nat.blt t 104)
 (cond (Nat.blt t 100)
 (cond (Nat.blt t 98)
 (cond (Nat.blt t 97)
 (⟨30, 272, (.struct [(0, 50), (14, 50), (28, 3), (29, 4)]), (some [.int .i64 0, .int .i64 0, .int .i64 0, .int .i64 0, .int .i64 0, .int .i64 0, .int .i64 0, .int .i64 0, .int .i64 0, .int .i64 0, .int .i64 0, .int .i64 0, .int .i64 0, .nils, .int .i64 0, .int .i64 0, .int .i64 0, .int .i64 0, .int .i64 0, .int .i64 0, .int .i64 0, .int .i64 0, .int .i64 0, .int .i64 0, .int .i64 0, .int .i64 0, .int .i64 0, .nils, .int .i64 0, .bool false]), true⟩)
 (⟨30, 272, (.struct [(0, 50), (14, 50), (28, 3), (29, 4)]), (some [.int .i64 0, .int .i64 0, .int .i64 0, .int .i64 0, .int .i64 0, .int .i64 0, .int .i64 0, .int .i64 0, .int .i64 0, .int .i64 0, .int .i64 0, .int .i64 0, .int .i64 0, .nils, .int .i64 0, .int .i64 0, .int .i64 0, .int .i64 0, .int .i64 0, .int .i64 0, .int .i64 0, .int .i64 0, .int .i64 0, .int .i64 0, .int .i64 0, .int .i64 0, .int .i64 0, .nils, .int .i64 0, .bool false]), true⟩))
 (cond (Nat.blt t 99)
 (⟨1, 8, .fn, (some [.nilf]), false⟩)
 (⟨2, 16, (.struct [(0, 3), (1, 3)]), (some [.int .i64 0, .int .i64 0]), true⟩)))
 (cond (Nat.blt t 102)
 (cond (Nat.blt t 101)
 (⟨2, 16, (.struct [(0, 3), (1, 3)]), (some [.int .i64 0, .int .i64 0]), true⟩)
 (⟨1, 24, (.sl 100), (some [.nils]), false⟩))
 (cond (Nat.blt t 103)
 (⟨1, 8, .fn, (some [.nilf]), false⟩)
 (⟨1, 8, .fn, (some [.nilf]), false⟩))))
 (cond (Nat.blt t 108)
 (cond (Nat.blt t 106)
 (cond (Nat.blt t 105)
 (⟨1, 8, .fn, (some [.nilf]), false⟩)
 (⟨1, 0, .other, (some [.any]), false⟩))
 (cond (Nat.blt t 107)
 (⟨1, 8, .fn, (some [.nilf]), false⟩)
 (⟨1, 8, .fn, (some [.nilf]), false⟩)))
 (cond (Nat.blt t 110)
 (cond (Nat.blt t 109)
 (⟨1, 8, .fn, (some [.nilf]), false⟩)
 (⟨1, 0, .other, (some [.any]), false⟩))
 (cond (Nat.blt t 111)
 (⟨1, 8, .fn, (some [.nilf]), false⟩)
 (⟨1, 8, .fn, (some [.nilf]), false⟩))))
def ti7 (t : Nat) : Ty := cond (Nat.blt t 120)
 (cond (Nat.blt t 116)
 (cond (Nat.blt t 114)
 (cond (Nat.blt t 113)
 (⟨1, 8, .fn, (some [.nilf]), false⟩)
 (⟨1, 8, (.int .u64), (some [.int .u64 0]), false⟩))
 (cond (Nat.blt t 115)
 (⟨1, 8, .fn, (some [.nilf]), false⟩)
 (⟨1, 8, .fn, (some [.nilf]), false⟩)))
 (cond (Nat.blt t 118)
 (cond (Nat.blt t 117)
 (⟨1, 8, (.map 3 157), (some [.nilm]), false⟩)
 (⟨5, 56, (.struct [(0, 38), (1, 116), (2, 3), (3, 3), (4, 4)]), (some [.nils, .nilm, .int .i64 0, .int .i64 0, .bool false]), true⟩))
 (cond (Nat.blt t 119)
 (⟨5, 56, (.struct [(0, 38), (1, 116), (2, 3), (3, 3), (4, 4)]), (some [.nils, .nilm, .int .i64 0, .int .i64 0, .bool false]), true⟩)
 (⟨1, 8, .fn, (some [.nilf]), false⟩))))
 (cond (Nat.blt t 124)
 (cond (Nat.blt t 122)
 (cond (Nat.blt t 121)
 (⟨1, 8, .fn, (some [.nilf]), false⟩)
 (⟨1, 8, .fn, (some [.nilf]), false⟩))
 (cond (Nat.blt t 123)
 (⟨1, 8, .fn, (some [.nilf]), false⟩)
 (⟨1, 8, (.ptr 129), (some [.nilp]), false⟩)))
 (cond (Nat.blt t 126)
 (cond (Nat.blt t 125)
 (⟨1, 8, .fn, (some [.nilf]), false⟩)
 (⟨1, 8, (.ptr 178), (some [.nilp]), false⟩))
 (cond (Nat.blt t 127)
 (⟨1, 0, .other, (some [.any]), false⟩)
 (⟨1, 8, .fn, (some [.nilf]), false⟩))))
def ti8 (t : Nat) : Ty := cond (Nat.blt t 136)
 (cond (Nat.blt t 132)
 (cond (Nat.blt t 130)
 (cond (Nat.blt t 129)
 (⟨7, 104, (.struct [(0, 38), (1, 38), (2, 62), (3, 4), (4, 3), (5, 4), (6, 3)]), (some [.nils, .nils, .nils, .bool false, .int .i64 0, .bool false, .int .i64 0]), true⟩)
 (⟨7, 104, (.struct [(0, 38), (1, 38), (2, 62), (3, 4), (4, 3), (5, 4), (6, 3)]), (some [.nils, .nils, .nils, .bool false, .int .i64 0, .bool false, .int .i64 0]), true⟩))
 (cond (Nat.blt t 131)
 (⟨2, 16, (.struct [(0, 3), (1, 5)]), (some [.int .i64 0, .int .u8 0]), true⟩)
 (⟨2, 16, (.struct [(0, 3), (1, 5)]), (some [.int .i64 0, .int .u8 0]), true⟩)))
 (cond (Nat.blt t 134)
 (cond (Nat.blt t 133)
 (⟨1, 8, .fn, (some [.nilf]), false⟩)
 (⟨1, 8, .fn, (some [.nilf]), false⟩))
 (cond (Nat.blt t 135)
 (⟨1, 8, .fn, (some [.nilf]), false⟩)
 (⟨1, 8, .fn, (some [.nilf]), false⟩))))
 (cond (Nat.blt t 140)
 (cond (Nat.blt t 138)
 (cond (Nat.blt t 137)
 (⟨1, 8, .fn, (some [.nilf]), false⟩)
 (⟨1, 0, .other, (some [.any]), false⟩))
 (cond (Nat.blt t 139)
 (⟨1, 8, .fn, (some [.nilf]), false⟩)
 (⟨1, 8, .fn, (some [.nilf]), false⟩)))
 (cond (Nat.blt t 142)
 (cond (Nat.blt t 141)
 (⟨1, 0, .other, (some [.any]), false⟩)
 (⟨1, 8, .fn, (some [.nilf]), false⟩))
 (cond (Nat.blt t 143)
 (⟨1, 8, .fn, (some [.nilf]), false⟩)
 (⟨1, 8, .fn, (some [.nilf]), false⟩))))
def ti9 (t : Nat) : Ty := cond (Nat.blt t 152)
 (cond (Nat.blt t 148)
 (cond (Nat.blt t 146)
 (cond (Nat.blt t 145)
 (⟨1, 8, (.int .u64), (some [.int .u64 0]), false⟩)
 (⟨1, 8, .fn, (some [.nilf]), false⟩))
 (cond (Nat.blt t 147)
 (⟨1, 8, (.ptr 181), (some [.nilp]), false⟩)
 (⟨1, 0, .other, (some [.any]), false⟩)))
 (cond (Nat.blt t 150)
 (cond (Nat.blt t 149)
 (⟨1, 8, .fn, (some [.nilf]), false⟩)
 (⟨1, 8, .fn, (some [.nilf]), false⟩))
 (cond (Nat.blt t 151)
 (⟨8, 64, (.struct [(0, 25), (1, 69), (7, 146)]), (some [.nilp, .int .i64 0, .int .i64 0, .int .i64 0, .int .i64 0, .int .i64 0, .int .i64 0, .nilp]), true⟩)
 (⟨8, 64, (.struct [(0, 25), (1, 69), (7, 146)]), (some [.nilp, .int .i64 0, .int .i64 0, .int .i64 0, .int .i64 0, .int .i64 0, .int .i64 0, .nilp]), true⟩))))
 (cond (Nat.blt t 156)
 (cond (Nat.blt t 154)
 (cond (Nat.blt t 153)
 (⟨1, 8, .fn, (some [.nilf]), false⟩)
 (⟨1, 8, .fn, (some [.nilf]), false⟩))
 (cond (Nat.blt t 155)
 (⟨1, 8, .fn, (some [.nilf]), false⟩)
 (⟨1, 8, .fn, (some [.nilf]), false⟩)))
 (cond (Nat.blt t 158)
 (cond (Nat.blt t 157)
 (⟨64, 64, (.arr 64 5), (some (List.replicate 64 (.int .u8 0))), false⟩)
 (⟨64, 64, (.arr 64 5), (some (List.replicate 64 (.int .u8 0))), false⟩))
 (cond (Nat.blt t 159)
 (⟨1, 8, .fn, (some [.nilf]), false⟩)
 (⟨1, 8, .fn, (some [.nilf]), false⟩))))
def ti10 (t : Nat) : Ty := cond (Nat.blt t 168)
 (cond (Nat.blt t 164)
 (cond (Nat.blt t 162)
 (cond (Nat.blt t 161)
 (⟨1, 8, .fn, (some [.nilf]), false⟩)
 (⟨1, 8, .fn, (some [.nilf]), false⟩))
 (cond (Nat.blt t 163)
 (⟨1, 8, .fn, (some [.nilf]), false⟩)
 (⟨1, 8, .fn, (some [.nilf]), false⟩)))
 (cond (Nat.blt t 166)
 (cond (Nat.blt t 165)
 (⟨1, 8, .fn, (some [.nilf]), false⟩)
 (⟨1, 0, .other, (some [.any]), false⟩))
 (cond (Nat.blt t 167)
 (⟨1, 8, (.ptr 193), (some [.nilp]), false⟩)
 (⟨1, 8, .fn, (some [.nilf]), false⟩))))
 (cond (Nat.blt t 172)
 (cond (Nat.blt t 170)
 (cond (Nat.blt t 169)
 (⟨1, 8, .fn, (some [.nilf]), false⟩)
 (⟨1, 8, .fn, (some [.nilf]), false⟩))
 (cond (Nat.blt t 171)
 (⟨1, 4, (.int .u32), (some [.int .u32 0]), false⟩)
 (⟨1, 8, .fn, (some [.nilf]), false⟩)))
 (cond (Nat.blt t 174)
 (cond (Nat.blt t 173)
 (⟨1, 8, .fn, (some [.nilf]), false⟩)
 (⟨1, 8, .fn, (some [.nilf]), false⟩))
 (cond (Nat.blt t 175)
 (⟨1, 8, (.ptr 176), (some [.nilp]), false⟩)
 (⟨8, 80, (.struct [(0, 29), (4, 3), (5, 3), (6, 38), (7, 3)]), (some [.int .i64 0, .int .i64 0, .int .i64 0, .int .i64 0, .int .i64 0, .int .i64 0, .nils, .int .i64 0]), true⟩))))
def ti11 (t : Nat) : Ty := cond (Nat.blt t 184)
 (cond (Nat.blt t 180)
 (cond (Nat.blt t 178)
 (cond (Nat.blt t 177)
 (⟨8, 80, (.struct [(0, 29), (4, 3), (5, 3), (6, 38), (7, 3)]), (some [.int .i64 0, .int .i64 0, .int .i64 0, .int .i64 0, .int .i64 0, .int .i64 0, .nils, .int .i64 0]), true⟩)
 (⟨8, 64, (.struct [(0, 123), (1, 69), (7, 174)]), (some [.nilp, .int .i64 0, .int .i64 0, .int .i64 0, .int .i64 0, .int .i64 0, .int .i64 0, .nilp]), true⟩))
 (cond (Nat.blt t 179)
 (⟨8, 64, (.struct [(0, 123), (1, 69), (7, 174)]), (some [.nilp, .int .i64 0, .int .i64 0, .int .i64 0, .int .i64 0, .int .i64 0, .int .i64 0, .nilp]), true⟩)
 (⟨1, 8, .fn, (some [.nilf]), false⟩)))
 (cond (Nat.blt t 182)
 (cond (Nat.blt t 181)
 (⟨8, 80, (.struct [(0, 29), (4, 3), (5, 3), (6, 38), (7, 3)]), (some [.int .i64 0, .int .i64 0, .int .i64 0, .int .i64 0, .int .i64 0, .int .i64 0, .nils, .int .i64 0]), true⟩)
 (⟨8, 80, (.struct [(0, 29), (4, 3), (5, 3), (6, 38), (7, 3)]), (some [.int .i64 0, .int .i64 0, .int .i64 0, .int .i64 0, .int .i64 0, .int .i64 0, .nils, .int .i64 0]), true⟩))
 (cond (Nat.blt t 183)
 (⟨1, 24, (.sl 38), (some [.nils]), false⟩)
 (⟨1, 0, .other, (some [.any]), false⟩))))
 (cond (Nat.blt t 188)
 (cond (Nat.blt t 186)
 (cond (Nat.blt t 185)
 (⟨1, 8, .fn, (some [.nilf]), false⟩)
 (⟨1, 8, .fn, (some [.nilf]), false⟩))
 (cond (Nat.blt t 187)
 (⟨1, 8, .fn, (some [.nilf]), false⟩)
 (⟨1, 8, .fn, (some [.nilf]), false⟩)))
 (cond (Nat.blt t 190)
 (cond (Nat.blt t 189)
 (⟨1, 8, .fn, (some [.nilf]), false⟩)
 (⟨1, 8, .fn, (some [.nilf]), false⟩))
 (cond (Nat.blt t 191)
 (⟨1, 8, .fn, (some [.nilf]), false⟩)
 (⟨1, 8, .fn, (some [.nilf]), false⟩))))
def ti12 (t : Nat) : Ty := cond (Nat.blt t 200)
 (cond (Nat.blt t 196)
 (cond (Nat.blt t 194)
 (cond (Nat.blt t 193)
 (⟨2, 32, (.struct [(0, 38), (1, 4)]), (some [.nils, .bool false]), true⟩)
 (⟨2, 32, (.struct [(0, 38), (1, 4)]), (some [.nils, .bool false]), true⟩))
 (cond (Nat.blt t 195)
 (⟨1, 8, .fn, (some [.nilf]), false⟩)
 (⟨1, 8, .fn, (some [.nilf]), false⟩)))
 (cond (Nat.blt t 198)
 (cond (Nat.blt t 197)
 (⟨1, 8, .fn, (some [.nilf]), false⟩)
 (⟨1, 8, .fn, (some [.nilf]), false⟩))
 (cond (Nat.blt t 199)
 (⟨1, 8, .fn, (some [.nilf]), false⟩)
 (⟨1, 8, .fn, (some [.nilf]), false⟩))))
 (cond (Nat.blt t 204)
 (cond (Nat.blt t 202)
 (cond (Nat.blt t 201)
 (⟨1, 8, .fn, (some [.nilf]), false⟩)
 (⟨1, 8, .fn, (some [.nilf]), false⟩))
 (cond (Nat.blt t 203)
 (⟨1, 8, .fn, (some [.nilf]), false⟩)
 (⟨1, 8, .fn, (some [.nilf]), false⟩)))
 (cond (Nat.blt t 206)
 (cond (Nat.blt t 205)
 (⟨1, 8, .fn, (some [.nilf]), false⟩)
 (⟨1, 8, .fn, (some [.nilf]), false⟩))
 (cond (Nat.blt t 207)
 (⟨1, 8, (.int .i64), (some [.int .i64 0]), false⟩)
 (⟨1, 0, .other, (some [.any]), false⟩))))
def ti13 (t : Nat) : Ty := cond (Nat.blt t 216)
 (cond (Nat.blt t 212)
 (cond (Nat.blt t 210)
 (cond (Nat.blt t 209)
 (⟨1, 8, .fn, (some [.nilf]), false⟩)
 (⟨1, 8, .fn, (some [.nilf]), false⟩))
 (cond (Nat.blt t 211)
 (⟨1, 8, .fn, (some [.nilf]), false⟩)
 (⟨1, 0, .other, (some [.any]), false⟩)))
 (cond (Nat.blt t 214)
 (cond (Nat.blt t 213)
 (⟨1, 8, .fn, (some [.nilf]), false⟩)
 (⟨16, 64, (.arr 16 170), (some (List.replicate 16 (.int .u32 0))), false⟩))
 (cond (Nat.blt t 215)
 (⟨1, 8, (.int .u64), (some [.int .u64 0]), false⟩)
 (⟨1, 8, .fn, (some [.nilf]), false⟩))))
 (cond (Nat.blt t 220)
 (cond (Nat.blt t 218)
 (cond (Nat.blt t 217)
 (⟨1, 8, .fn, (some [.nilf]), false⟩)
 (⟨1, 8, .fn, (some [.nilf]), false⟩))
 (cond (Nat.blt t 219)
 (⟨1, 8, (.ptr 3), (some [.nilp]), false⟩)
 (⟨1, 8, .fn, (some [.nilf]), false⟩)))
 (cond (Nat.blt t 222)
 (cond (Nat.blt t 221)
 (⟨1, 8, (.ptr 214), (some [.nilp]), false⟩)
 (⟨1, 0, .other, (some [.any]), false⟩))
 (cond (Nat.blt t 223)
 (⟨1, 8, .fn, (some [.nilf]), false⟩)
 (⟨1, 8, .fn, (some [.nilf]), false⟩))))
def ti14 (t : Nat) : Ty := cond (Nat.blt t 231)
 (cond (Nat.blt t 227)
 (cond (Nat.blt t 225)
 (⟨4, 40, (.struct [(0, 17), (1, 17), (2, 17), (3, 9)]), (some [.nilp, .nilp, .nilp, .str []]), false⟩)
 (cond (Nat.blt t 226)
 (⟨4, 40, (.struct [(0, 17), (1, 17), (2, 17), (3, 9)]), (some [.nilp, .nilp, .nilp, .str []]), false⟩)
 (⟨0, 0, (.arr 0 16), (some []), false⟩)))
 (cond (Nat.blt t 229)
 (cond (Nat.blt t 228)
 (⟨0, 0, (.struct [(0, 226)]), (some []), false⟩)
 (⟨0, 0, (.struct [(0, 226)]), (some []), false⟩))
 (cond (Nat.blt t 230)
 (⟨1, 1, (.int .u8), (some [.int .u8 0]), false⟩)
 (⟨1, 1, (.int .u8), (some [.int .u8 0]), false⟩))))
 (cond (Nat.blt t 234)
 (cond (Nat.blt t 232)
 (⟨1, 8, .fn, (some [.nilf]), false⟩)
 (cond (Nat.blt t 233)
 (⟨1, 8, (.ptr 5), (some [.nilp]), false⟩)
 (⟨1, 4, (.int .i32), (some [.int .i32 0]), false⟩)))
 (cond (Nat.blt t 236)
 (cond (Nat.blt t 235)
 (⟨1, 4, (.int .i32), (some [.int .i32 0]), false⟩)
 (⟨11, 48, (.struct [(0, 12), (1, 12), (2, 170), (3, 229), (4, 5), (5, 5), (6, 230), (7, 231), (8, 232), (9, 233), (10, 234)]), (some [.int .u64 0, .int .u64 0, .int .u32 0, .int .u8 0, .int .u8 0, .int .u8 0, .int .u8 0, .nilf, .nilp, .int .i32 0, .int .i32 0]), false⟩))
 (cond (Nat.blt t 237)
 (⟨11, 48, (.struct [(0, 12), (1, 12), (2, 170), (3, 229), (4, 5), (5, 5), (6, 230), (7, 231), (8, 232), (9, 233), (10, 234)]), (some [.int .u64 0, .int .u64 0, .int .u32 0, .int .u8 0, .int .u8 0, .int .u8 0, .int .u8 0, .nilf, .nilp, .int .i32 0, .int .i32 0]), false⟩)
 (⟨1, 8, .other, (some [.nilp]), false⟩))))
def tiT (t : Nat) : Ty := cond (Nat.blt t 112) (cond (Nat.blt t 48) (cond (Nat.blt t 16) (ti0 t) (cond (Nat.blt t 32) (ti1 t) (ti2 t))) (cond (Nat.blt t 80) (cond (Nat.blt t 64) (ti3 t) (ti4 t)) (cond (Nat.blt t 96) (ti5 t) (ti6 t)))) (cond (Nat.blt t 176) (cond (Nat.blt t 144) (cond (Nat.blt t 128) (ti7 t) (ti8 t)) (cond (Nat.blt t 160) (ti9 t) (ti10 t))) (cond (Nat.blt t 208) (cond (Nat.blt t 192) (ti11 t) (ti12 t)) (cond (Nat.blt t 224) (ti13 t) (ti14 t))))
theorem tiT_all : (List.range 238).map (tyOf Proofs.Tryd.prog) = (List.range 238).map (fun t => some (tiT t)) := by kernel_rfl
theorem mixed : Proofs.Tryd.prog.follows .mixedOrders = true := by kernel_rfl
theorem ti_ok (t : Nat) (ht : t < 238) : tyOf Proofs.Tryd.prog t = some (tiT t) := by
  have h := congrArg (fun l : List (Option Ty) => l[t]?) tiT_all
  simp only [List.getElem?_map, List.getElem?_range ht, Option.map_some, Option.some.injEq] at h
  exact h
end Go.Abs
namespace Go.Abs

def u32A (n : Nat) : AV := .int .u32 n
def crcTab : List Nat := [0x00000000, 0x105EC76F, 0x20BD8EDE, 0x30E349B1, 0x417B1DBC, 0x5125DAD3, 0x61C69362, 0x7198540D, 0x82F63B78, 0x92A8FC17, 0xA24BB5A6, 0xB21572C9, 0xC38D26C4, 0xD3D3E1AB, 0xE330A81A, 0xF36E6F75]
noncomputable def E0 (X : Nat → Prop) : Env := { P := Proofs.Tryd.prog, ti := tiT, n := 238, G := fun g => if g = 0 then .fp (crcTab.map u32A) else .any, X := X }
theorem E0_ok (X : Nat → Prop) : (E0 X).Ok := ⟨mixed, ti_ok, fun _ => by { simp only [E0]; split <;> first | exact idsL_map (fun _ => trivial) | simp [IdsLt] }⟩

mutual
theorem id_mono {a b : Nat} (h : a ≤ b) : ∀ x : AV, IdsLt a x → IdsLt b x
  | .any, _ | .int _ _, _ | .bool _, _ | .str _, _ | .nilp, _ | .nils, _ | .nilm, _ | .nilf, _ | .nili, _ => by simp [IdsLt]
  | .fp cs, hx => by simp only [IdsLt] at hx ⊢; exact ids_mono h hx
  | .ptr _ _, hx | .pe _ _ _, hx | .own _ _ _, hx | .mp _, hx => by simp only [IdsLt] at hx ⊢; omega
  | .sl _ cs, hx => by simp only [IdsLt] at hx ⊢; exact ids_mono h hx
  | .agg cs, hx => by simp only [IdsLt] at hx ⊢; exact ids_mono h hx
  | .tup cs, hx => by simp only [IdsLt] at hx ⊢; exact ids_mono h hx
  | .clo _ f c, hx => by simp only [IdsLt] at hx ⊢; exact ⟨ids_mono h hx.1, ids_mono h hx.2⟩
  | .ifc _ x, hx => by simp only [IdsLt] at hx ⊢; exact id_mono h x hx
theorem ids_mono {a b : Nat} (h : a ≤ b) : ∀ {xs : List AV}, IdsLtL a xs → IdsLtL b xs
  | [], _ => trivial
  | x :: xs, hx => by simp only [IdsLtL] at hx ⊢; exact ⟨id_mono h x hx.1, ids_mono h hx.2⟩
end

attribute [local irreducible] AStep aops AWp Nx awM
set_option maxHeartbeats 0 in
/-- bytes.Clone of a slice of the caller's. -/
theorem clone_own (X : Nat → Prop) (ys : List UInt8) (lo n : Nat) (hn : lo + n ≤ ys.length) (hb : ys.length ≤ 1073741824) :
    ACalls (E0 X) 67 [.own 0 lo n] [some (.arr (ys.map u8A) 5)] (fun r H' => r = .own 1 0 n ∧ H' = [some (.arr (ys.map u8A) 5), some (.arr (((ys.drop lo).take n).map u8A) 5)]) := by
  refine acalls_of Proofs.Tryd.func67 rfl Proofs.Tryd.ntmps67 (by kernel_rfl) rfl ?_
  intro hH hargs
  refine awp_seq ?_
  refine awp_region rfl ?_
  repeat' (first
      | (refine bs rfl ?_
         try
           first
           | refine st_move ?_
           | refine st_assign ?_
           | refine st_bin rfl ?_
           | refine st_load rfl rfl rfl ?_
           | refine st_fieldAddr rfl rfl rfl rfl rfl ?_
           | refine st_pick rfl ?_
           | refine st_nilCheck rfl ?_
           | refine st_len_sl rfl rfl rfl ?_
           | refine st_len_str rfl rfl rfl ?_
           | refine st_extract rfl rfl ?_
           | refine st_un rfl ?_
           | refine st_min rfl rfl ?_
           | refine st_max rfl rfl ?_
           | refine st_conv rfl rfl rfl rfl ?_
           | refine st_eql rfl rfl rfl ?_
           | refine st_neq rfl rfl rfl ?_
           | refine st_alloc rfl rfl ?_
           | refine st_box rfl ?_
           | refine st_field rfl rfl rfl rfl rfl ?_
           | refine st_bld rfl rfl rfl rfl rfl rfl ?_
           | refine st_bsl rfl rfl rfl rfl rfl rfl rfl (.inl rfl) rfl (.inl rfl) rfl rfl ?_
           refine nx rfl rfl ?_)
      | (refine bs0 rfl ?_
         try
           refine st_store_ptr rfl rfl rfl rfl rfl rfl rfl ?_
           refine nx rfl rfl ?_)
      | refine aops_nil ?_
      | refine bskip rfl ?_
      | refine bskip0 rfl ?_
      | refine bguard rfl rfl (fun _ => ?_) (fun _ => ?_)
      | refine bguardB rfl rfl (fun _ => ?_) (fun _ => ?_))
  refine awp_seq ?_
  refine awp_seq ?_
  refine awp_region rfl ?_
  repeat' (first
      | (refine bs rfl ?_
         try
           first
           | refine st_move ?_
           | refine st_assign ?_
           | refine st_bin rfl ?_
           | refine st_load rfl rfl rfl ?_
           | refine st_fieldAddr rfl rfl rfl rfl rfl ?_
           | refine st_pick rfl ?_
           | refine st_nilCheck rfl ?_
           | refine st_len_sl rfl rfl rfl ?_
           | refine st_len_str rfl rfl rfl ?_
           | refine st_extract rfl rfl ?_
           | refine st_un rfl ?_
           | refine st_min rfl rfl ?_
           | refine st_max rfl rfl ?_
           | refine st_conv rfl rfl rfl rfl ?_
           | refine st_eql rfl rfl rfl ?_
           | refine st_neq rfl rfl rfl ?_
           | refine st_alloc rfl rfl ?_
           | refine st_box rfl ?_
           | refine st_field rfl rfl rfl rfl rfl ?_
           | refine st_bld rfl rfl rfl rfl rfl rfl ?_
           | refine st_bsl rfl rfl rfl rfl rfl rfl rfl (.inl rfl) rfl (.inl rfl) rfl rfl ?_
           refine nx rfl rfl ?_)
      | (refine bs0 rfl ?_
         try
           refine st_store_ptr rfl rfl rfl rfl rfl rfl rfl ?_
           refine nx rfl rfl ?_)
      | refine aops_nil ?_
      | refine bskip rfl ?_
      | refine bskip0 rfl ?_
      | refine bguard rfl rfl (fun _ => ?_) (fun _ => ?_)
      | refine bguardB rfl rfl (fun _ => ?_) (fun _ => ?_))
  refine st_eqnil_own rfl rfl rfl rfl (by simpa using hn) (fun h0 => ?_) ?_
  · refine nx rfl rfl ?_
    repeat' (first
        | (refine bs rfl ?_
           try
             first
             | refine st_move ?_
             | refine st_assign ?_
             | refine st_bin rfl ?_
             | refine st_load rfl rfl rfl ?_
             | refine st_fieldAddr rfl rfl rfl rfl rfl ?_
             | refine st_pick rfl ?_
             | refine st_nilCheck rfl ?_
             | refine st_len_sl rfl rfl rfl ?_
             | refine st_len_str rfl rfl rfl ?_
             | refine st_extract rfl rfl ?_
             | refine st_un rfl ?_
             | refine st_min rfl rfl ?_
             | refine st_max rfl rfl ?_
             | refine st_conv rfl rfl rfl rfl ?_
             | refine st_eql rfl rfl rfl ?_
             | refine st_neq rfl rfl rfl ?_
             | refine st_alloc rfl rfl ?_
             | refine st_box rfl ?_
             | refine st_field rfl rfl rfl rfl rfl ?_
             | refine st_bld rfl rfl rfl rfl rfl rfl ?_
             | refine st_bsl rfl rfl rfl rfl rfl rfl rfl (.inl rfl) rfl (.inl rfl) rfl rfl ?_
             refine nx rfl rfl ?_)
        | (refine bs0 rfl ?_
           try
             refine st_store_ptr rfl rfl rfl rfl rfl rfl rfl ?_
             refine nx rfl rfl ?_)
        | refine aops_nil ?_
        | refine bskip rfl ?_
        | refine bskip0 rfl ?_
        | refine bguard rfl rfl (fun _ => ?_) (fun _ => ?_)
        | refine bguardB rfl rfl (fun _ => ?_) (fun _ => ?_))
    refine awp_cond_true rfl ?_
    refine awp_seq ?_
    refine awp_region rfl ?_
    repeat' (first
        | (refine bs rfl ?_
           try
             first
             | refine st_move ?_
             | refine st_assign ?_
             | refine st_bin rfl ?_
             | refine st_load rfl rfl rfl ?_
             | refine st_fieldAddr rfl rfl rfl rfl rfl ?_
             | refine st_pick rfl ?_
             | refine st_nilCheck rfl ?_
             | refine st_len_sl rfl rfl rfl ?_
             | refine st_len_str rfl rfl rfl ?_
             | refine st_extract rfl rfl ?_
             | refine st_un rfl ?_
             | refine st_min rfl rfl ?_
             | refine st_max rfl rfl ?_
             | refine st_conv rfl rfl rfl rfl ?_
             | refine st_eql rfl rfl rfl ?_
             | refine st_neq rfl rfl rfl ?_
             | refine st_alloc rfl rfl ?_
             | refine st_box rfl ?_
             | refine st_field rfl rfl rfl rfl rfl ?_
             | refine st_bld rfl rfl rfl rfl rfl rfl ?_
             | refine st_bsl rfl rfl rfl rfl rfl rfl rfl (.inl rfl) rfl (.inl rfl) rfl rfl ?_
             refine nx rfl rfl ?_)
        | (refine bs0 rfl ?_
           try
             refine st_store_ptr rfl rfl rfl rfl rfl rfl rfl ?_
             refine nx rfl rfl ?_)
        | refine aops_nil ?_
        | refine bskip rfl ?_
        | refine bskip0 rfl ?_
        | refine bguard rfl rfl (fun _ => ?_) (fun _ => ?_)
        | refine bguardB rfl rfl (fun _ => ?_) (fun _ => ?_))
    refine awp_pre (imp_nil 2 5 rfl) ?_
    refine awp_ret ?_
    subst h0
    exact ⟨_, rfl, rfl, by simp⟩
  · refine nx rfl rfl ?_
    repeat' (first
        | (refine bs rfl ?_
           try
             first
             | refine st_move ?_
             | refine st_assign ?_
             | refine st_bin rfl ?_
             | refine st_load rfl rfl rfl ?_
             | refine st_fieldAddr rfl rfl rfl rfl rfl ?_
             | refine st_pick rfl ?_
             | refine st_nilCheck rfl ?_
             | refine st_len_sl rfl rfl rfl ?_
             | refine st_len_str rfl rfl rfl ?_
             | refine st_extract rfl rfl ?_
             | refine st_un rfl ?_
             | refine st_min rfl rfl ?_
             | refine st_max rfl rfl ?_
             | refine st_conv rfl rfl rfl rfl ?_
             | refine st_eql rfl rfl rfl ?_
             | refine st_neq rfl rfl rfl ?_
             | refine st_alloc rfl rfl ?_
             | refine st_box rfl ?_
             | refine st_field rfl rfl rfl rfl rfl ?_
             | refine st_bld rfl rfl rfl rfl rfl rfl ?_
             | refine st_bsl rfl rfl rfl rfl rfl rfl rfl (.inl rfl) rfl (.inl rfl) rfl rfl ?_
             refine nx rfl rfl ?_)
        | (refine bs0 rfl ?_
           try
             refine st_store_ptr rfl rfl rfl rfl rfl rfl rfl ?_
             refine nx rfl rfl ?_)
        | refine aops_nil ?_
        | refine bskip rfl ?_
        | refine bskip0 rfl ?_
        | refine bguard rfl rfl (fun _ => ?_) (fun _ => ?_)
        | refine bguardB rfl rfl (fun _ => ?_) (fun _ => ?_))
    refine awp_cond_false rfl ?_
    refine awp_skip ?_
    refine awp_seq ?_
    refine awp_region rfl ?_
    repeat' (first
        | (refine bs rfl ?_
           try
             first
             | refine st_move ?_
             | refine st_assign ?_
             | refine st_bin rfl ?_
             | refine st_load rfl rfl rfl ?_
             | refine st_fieldAddr rfl rfl rfl rfl rfl ?_
             | refine st_pick rfl ?_
             | refine st_nilCheck rfl ?_
             | refine st_len_sl rfl rfl rfl ?_
             | refine st_len_str rfl rfl rfl ?_
             | refine st_extract rfl rfl ?_
             | refine st_un rfl ?_
             | refine st_min rfl rfl ?_
             | refine st_max rfl rfl ?_
             | refine st_conv rfl rfl rfl rfl ?_
             | refine st_eql rfl rfl rfl ?_
             | refine st_neq rfl rfl rfl ?_
             | refine st_alloc rfl rfl ?_
             | refine st_box rfl ?_
             | refine st_field rfl rfl rfl rfl rfl ?_
             | refine st_bld rfl rfl rfl rfl rfl rfl ?_
             | refine st_bsl rfl rfl rfl rfl rfl rfl rfl (.inl rfl) rfl (.inl rfl) rfl rfl ?_
             refine nx rfl rfl ?_)
        | (refine bs0 rfl ?_
           try
             refine st_store_ptr rfl rfl rfl rfl rfl rfl rfl ?_
             refine nx rfl rfl ?_)
        | refine aops_nil ?_
        | refine bskip rfl ?_
        | refine bskip0 rfl ?_
        | refine bguard rfl rfl (fun _ => ?_) (fun _ => ?_)
        | refine bguardB rfl rfl (fun _ => ?_) (fun _ => ?_))
    refine st_buildSlice_own rfl rfl rfl rfl rfl rfl rfl (.inr rfl) rfl (.inr rfl) ?_
    refine nx rfl rfl ?_
    repeat' (first
        | (refine bs rfl ?_
           try
             first
             | refine st_move ?_
             | refine st_assign ?_
             | refine st_bin rfl ?_
             | refine st_load rfl rfl rfl ?_
             | refine st_fieldAddr rfl rfl rfl rfl rfl ?_
             | refine st_pick rfl ?_
             | refine st_nilCheck rfl ?_
             | refine st_len_sl rfl rfl rfl ?_
             | refine st_len_str rfl rfl rfl ?_
             | refine st_extract rfl rfl ?_
             | refine st_un rfl ?_
             | refine st_min rfl rfl ?_
             | refine st_max rfl rfl ?_
             | refine st_conv rfl rfl rfl rfl ?_
             | refine st_eql rfl rfl rfl ?_
             | refine st_neq rfl rfl rfl ?_
             | refine st_alloc rfl rfl ?_
             | refine st_box rfl ?_
             | refine st_field rfl rfl rfl rfl rfl ?_
             | refine st_bld rfl rfl rfl rfl rfl rfl ?_
             | refine st_bsl rfl rfl rfl rfl rfl rfl rfl (.inl rfl) rfl (.inl rfl) rfl rfl ?_
             refine nx rfl rfl ?_)
        | (refine bs0 rfl ?_
           try
             refine st_store_ptr rfl rfl rfl rfl rfl rfl rfl ?_
             refine nx rfl rfl ?_)
        | refine aops_nil ?_
        | refine bskip rfl ?_
        | refine bskip0 rfl ?_
        | refine bguard rfl rfl (fun _ => ?_) (fun _ => ?_)
        | refine bguardB rfl rfl (fun _ => ?_) (fun _ => ?_))
    have hsrc : srcA (E0 X) [some (.arr (ys.map u8A) 5), some (.arr [] 5)] 1 (.own 0 lo n) = some (((ys.drop lo).take n).map u8A) := by
      have h1 : srcA (E0 X) [some (.arr (ys.map u8A) 5), some (.arr [] 5)] 1 (.own 0 lo n) = if lo + n ≤ (ys.map u8A).length then some (((ys.map u8A).drop lo).take n) else none := by
        show (if (1 : Nat) = 1 ∧ true = true ∧ lo + n ≤ (ys.map u8A).length then _ else _) = _
        simp
      rw [h1, if_pos (by simpa using hn)]
      simp [List.map_take, List.map_drop]
    have hnl : (((ys.drop lo).take n).map u8A).length = n := by simp; omega
    refine st_append (oid := some 1) (es := []) (new := ((ys.drop lo).take n).map u8A) rfl rfl rfl rfl rfl rfl rfl rfl (dst_own (es := []) rfl rfl) hsrc (oneEs_u8 _) ?_ ?_ ?_
    · rw [hnl]; simp [maxLen]; omega
    · rw [hnl]
      show _ * 1 ≤ _
      simp; omega
    refine nx rfl rfl ?_
    repeat' (first
        | (refine bs rfl ?_
           try
             first
             | refine st_move ?_
             | refine st_assign ?_
             | refine st_bin rfl ?_
             | refine st_load rfl rfl rfl ?_
             | refine st_fieldAddr rfl rfl rfl rfl rfl ?_
             | refine st_pick rfl ?_
             | refine st_nilCheck rfl ?_
             | refine st_len_sl rfl rfl rfl ?_
             | refine st_len_str rfl rfl rfl ?_
             | refine st_extract rfl rfl ?_
             | refine st_un rfl ?_
             | refine st_min rfl rfl ?_
             | refine st_max rfl rfl ?_
             | refine st_conv rfl rfl rfl rfl ?_
             | refine st_eql rfl rfl rfl ?_
             | refine st_neq rfl rfl rfl ?_
             | refine st_alloc rfl rfl ?_
             | refine st_box rfl ?_
             | refine st_field rfl rfl rfl rfl rfl ?_
             | refine st_bld rfl rfl rfl rfl rfl rfl ?_
             | refine st_bsl rfl rfl rfl rfl rfl rfl rfl (.inl rfl) rfl (.inl rfl) rfl rfl ?_
             refine nx rfl rfl ?_)
        | (refine bs0 rfl ?_
           try
             refine st_store_ptr rfl rfl rfl rfl rfl rfl rfl ?_
             refine nx rfl rfl ?_)
        | refine aops_nil ?_
        | refine bskip rfl ?_
        | refine bskip0 rfl ?_
        | refine bguard rfl rfl (fun _ => ?_) (fun _ => ?_)
        | refine bguardB rfl rfl (fun _ => ?_) (fun _ => ?_))
    refine awp_pre (imp_gc 1 [2] [(2, .own 1 0 n)] [.arr (((ys.drop lo).take n).map u8A) 5] (Nat.le_refl _) (by simp) (by simp) (by simp) ?_ ?_ rfl ?_) ?_
    · intro j o ho
      match j, ho with
      | 0, ho => cases ho; exact ids_mono (Nat.zero_le _) (u8_ids ys)
    · refine fa_cons ?_ fa_nil
      show Ren _ (.own 2 0 _) (.own 1 0 n)
      have : ([] : List AV).length + (((ys.drop lo).take n).map u8A).length = n := by rw [hnl]; simp
      rw [this]
      exact ren_own rfl
    · exact os_cons rfl (renO_val2 (by simp) (u8_ids _)) os_nil
    · refine awp_ret ?_
      exact ⟨_, rfl, rfl, by simp⟩
end Go.Abs
namespace Go.Abs
/-- A device as its methods see it. -/
structure Dv where
  image : List UInt8
  old : List (Int × List UInt8)
  writes : Int
  fuse : Int
  dead : Bool
def oldA (p : Int × List UInt8) : AV × AV := (.int .i64 p.1, .agg (p.2.map u8A))
def devH (v : Dv) : Hp := [some (.cells [.own 1 0 v.image.length, .mp 2, .int .i64 v.writes, .int .i64 v.fuse, .bool v.dead] 118), some (.arr (v.image.map u8A) 5), some (.map (v.old.map oldA))]

def Dv.burn (v : Dv) : Dv := { v with dead := if v.fuse = 0 then true else v.dead, fuse := if 0 < v.fuse then v.fuse - 1 else v.fuse }

attribute [local irreducible] AStep aops AWp Nx awM
set_option maxHeartbeats 0 in
theorem sectors_c (X : Nat → Prop) (v : Dv) : ACalls (E0 X) 142 [.ptr 0 0] (devH v) (fun r H' => r = .int .i64 (IntKind.i64.wrap ((v.image.length : Int).tdiv 64)) ∧ H' = devH v) := by
  refine acalls_of Proofs.Tryd.func142 rfl Proofs.Tryd.ntmps142 (by kernel_rfl) rfl ?_
  intro hH hargs
  clear hH hargs
  refine awp_seq ?_
  refine awp_region rfl ?_
  repeat' (first | (refine Qa rfl ?_; try ((refine Q1 ?_); refine QX rfl rfl ?_)) | refine Qh ?_)
  refine awp_seq ?_
  refine awp_seq ?_
  refine awp_region rfl ?_
  repeat' (first | (refine Qa rfl ?_; try ((first | refine Q0 ?_ | refine QH rfl rfl rfl ?_); refine QX rfl rfl ?_)) | refine Qh ?_)
  refine awp_cond_false rfl ?_
  refine awp_skip ?_
  refine awp_seq ?_
  refine awp_region rfl ?_
  repeat' (first | (refine Qa rfl ?_; try ((first | refine Q0 ?_ | refine Q1 ?_ | refine Q3 rfl rfl rfl ?_ | refine Q4 rfl rfl rfl rfl rfl ?_ | refine Q6 rfl ?_ | refine Q7 rfl rfl rfl ?_ | refine QA rfl rfl (by decide) ?_); refine QX rfl rfl ?_)) | refine Qh ?_)
  refine awp_ret ?_
  exact ⟨_, rfl, rfl, rfl⟩
set_option maxHeartbeats 0 in
theorem burn_c (X : Nat → Prop) (v : Dv) (hf : v.fuse ≤ 9223372036854775807) : ACalls (E0 X) 106 [.ptr 0 0] (devH v) (fun r H' => r = .bool v.burn.dead ∧ H' = devH v.burn) := by
  refine acalls_of Proofs.Tryd.func106 rfl Proofs.Tryd.ntmps106 (by kernel_rfl) rfl ?_
  intro hH hargs
  clear hH hargs
  refine awp_seq ?_
  refine awp_region rfl ?_
  repeat' (first | (refine Qa rfl ?_; try ((refine Q1 ?_); refine QX rfl rfl ?_)) | refine Qh ?_)
  refine awp_seq ?_
  refine awp_seq ?_
  refine awp_region rfl ?_
  repeat' (first | (refine Qa rfl ?_; try ((first | refine Q0 ?_ | refine Q2 rfl ?_ | refine Q3 rfl rfl rfl ?_ | refine Q4 rfl rfl rfl rfl rfl ?_ | refine Q6 rfl ?_); refine QX rfl rfl ?_)) | refine Qh ?_)
  refine awp_cond_dec rfl (fun h0 => ?_) (fun h0 => ?_)
  · have h00 : v.fuse = 0 := h0
    refine awp_region rfl ?_
    repeat' (first | (refine Qa rfl ?_; try ((first | refine Q0 ?_ | refine Q4 rfl rfl rfl rfl rfl ?_ | refine Q6 rfl ?_); refine QX rfl rfl ?_)) | (refine Qb rfl ?_; try (refine QS rfl rfl rfl rfl rfl rfl rfl ?_; refine QX rfl rfl ?_)) | refine Qh ?_)
    refine awp_seq ?_
    refine awp_seq ?_
    refine awp_region rfl ?_
    repeat' (first | (refine Qa rfl ?_; try ((first | refine Q0 ?_ | refine Q2 rfl ?_ | refine Q3 rfl rfl rfl ?_ | refine Q4 rfl rfl rfl rfl rfl ?_ | refine Q6 rfl ?_); refine QX rfl rfl ?_)) | refine Qh ?_)
    refine awp_cond_dec rfl (fun h1 => ?_) (fun h1 => ?_)
    · exfalso
      have h11 : 0 < v.fuse := h1
      omega
    · refine awp_skip ?_
      refine awp_seq ?_
      refine awp_region rfl ?_
      repeat' (first | (refine Qa rfl ?_; try ((first | refine Q0 ?_ | refine Q1 ?_ | refine Q3 rfl rfl rfl ?_ | refine Q4 rfl rfl rfl rfl rfl ?_ | refine Q6 rfl ?_); refine QX rfl rfl ?_)) | refine Qh ?_)
      refine awp_ret ?_
      refine ⟨_, rfl, ?_, ?_⟩
      · simp [Dv.burn, h00] <;> rfl
      · simp [Dv.burn, devH, h00] <;> rfl
  · have h00 : v.fuse ≠ 0 := h0
    refine awp_skip ?_
    refine awp_seq ?_
    refine awp_seq ?_
    refine awp_region rfl ?_
    repeat' (first | (refine Qa rfl ?_; try ((first | refine Q0 ?_ | refine Q2 rfl ?_ | refine Q3 rfl rfl rfl ?_ | refine Q4 rfl rfl rfl rfl rfl ?_ | refine Q6 rfl ?_); refine QX rfl rfl ?_)) | refine Qh ?_)
    refine awp_cond_dec rfl (fun h1 => ?_) (fun h1 => ?_)
    · have h11 : 0 < v.fuse := h1
      refine awp_region rfl ?_
      repeat' (first | (refine Qa rfl ?_; try ((first | refine Q0 ?_ | refine Q2 rfl ?_ | refine Q3 rfl rfl rfl ?_ | refine Q4 rfl rfl rfl rfl rfl ?_ | refine Q6 rfl ?_); refine QX rfl rfl ?_)) | (refine Qb rfl ?_; try (refine QS rfl rfl rfl rfl rfl rfl rfl ?_; refine QX rfl rfl ?_)) | refine Qh ?_)
      refine awp_seq ?_
      refine awp_region rfl ?_
      repeat' (first | (refine Qa rfl ?_; try ((first | refine Q0 ?_ | refine Q1 ?_ | refine Q3 rfl rfl rfl ?_ | refine Q4 rfl rfl rfl rfl rfl ?_ | refine Q6 rfl ?_); refine QX rfl rfl ?_)) | refine Qh ?_)
      refine awp_ret ?_
      have hw : IntKind.i64.wrap (v.fuse - 1) = v.fuse - 1 := wrap_in (by omega) (by omega)
      refine ⟨_, rfl, ?_, ?_⟩
      · simp [Dv.burn, h00] <;> rfl
      · have e : v.burn = { v with fuse := IntKind.i64.wrap (v.fuse - 1) } := by rw [hw]; simp [Dv.burn, h00, h11]
        rw [e]; rfl
    · have h11 : ¬ 0 < v.fuse := h1
      refine awp_skip ?_
      refine awp_seq ?_
      refine awp_region rfl ?_
      repeat' (first | (refine Qa rfl ?_; try ((first | refine Q0 ?_ | refine Q1 ?_ | refine Q3 rfl rfl rfl ?_ | refine Q4 rfl rfl rfl rfl rfl ?_ | refine Q6 rfl ?_); refine QX rfl rfl ?_)) | refine Qh ?_)
      refine awp_ret ?_
      refine ⟨_, rfl, ?_, ?_⟩
      · simp [Dv.burn, h00] <;> rfl
      · simp [Dv.burn, devH, h00, h11]
end Go.Abs
namespace Go.Abs
def Dv.n (v : Dv) : Int := IntKind.i64.wrap ((v.image.length : Int).tdiv 64)
def Dv.check (v : Dv) (i : Int) : Int := if v.dead = true then 1 else if i < 0 ∨ v.n ≤ i then 2 else 0

attribute [local irreducible] AStep aops AWp Nx awM
set_option maxHeartbeats 0 in
theorem check_c (X : Nat → Prop) (v : Dv) (i : Int) : ACalls (E0 X) 105 [.ptr 0 0, .int .i64 i] (devH v) (fun r H' => r = .int .i64 (v.check i) ∧ H' = devH v) := by
  refine acalls_of Proofs.Tryd.func105 rfl Proofs.Tryd.ntmps105 (by kernel_rfl) rfl ?_
  intro hH hargs
  clear hH hargs
  refine awp_seq ?_
  refine awp_region rfl ?_
  repeat' (first | (refine Qa rfl ?_; try ((refine Q1 ?_); refine QX rfl rfl ?_)) | refine Qh ?_)
  refine awp_seq ?_
  refine awp_block ?_
  refine awp_seq ?_
  refine awp_region rfl ?_
  repeat' (first | (refine Qa rfl ?_; try ((first | refine Q0 ?_ | refine Q1 ?_ | refine Q3 rfl rfl rfl ?_ | refine Q4 rfl rfl rfl rfl rfl ?_ | refine Q5 rfl ?_ | refine Q6 rfl ?_ | refine QH rfl rfl rfl ?_); refine QX rfl rfl ?_)) | refine Qh ?_)
  refine awp_cond rfl (fun hd => ?_) (fun hd => ?_)
  · refine awp_seq ?_
    refine awp_region rfl ?_
    repeat' (first | (refine Qa rfl ?_; try ((refine Q1 ?_); refine QX rfl rfl ?_)) | refine Qh ?_)
    refine awp_ret ?_
    exact ⟨_, rfl, by simp [Dv.check, hd] <;> rfl, rfl⟩
  · refine awp_seq ?_
    refine awp_region rfl ?_
    repeat' (first | (refine Qa rfl ?_; try ((first | refine Q0 ?_ | refine Q1 ?_ | refine Q2 rfl ?_ | refine Q5 rfl ?_); refine QX rfl rfl ?_)) | refine Qh ?_ | refine Qi rfl ?_ | refine Qy rfl rfl (fun _ => ?_) (fun _ => ?_))
    · rename_i hi
      refine awp_cond_true rfl ?_
      refine awp_seq ?_
      refine awp_region rfl ?_
      repeat' (first | (refine Qa rfl ?_; try ((refine Q1 ?_); refine QX rfl rfl ?_)) | refine Qh ?_)
      refine awp_ret ?_
      exact ⟨_, rfl, by simp [Dv.check, hd, hi] <;> rfl, rfl⟩
    · rename_i hi
      refine st_call (fun _ => rfl) rfl ?_
      refine ACalls.mono (sectors_c X v) ?_
      rintro r H' ⟨rfl, rfl⟩
      refine nx rfl rfl ?_
      repeat' (first | (refine Qa rfl ?_; try ((first | refine Q1 ?_ | refine Q2 rfl ?_ | refine Q5 rfl ?_); refine QX rfl rfl ?_)) | refine Qh ?_)
      refine awp_cond_dec rfl (fun hn => ?_) (fun hn => ?_)
      · have hn2 : v.n ≤ i := hn
        refine awp_seq ?_
        refine awp_region rfl ?_
        repeat' (first | (refine Qa rfl ?_; try ((refine Q1 ?_); refine QX rfl rfl ?_)) | refine Qh ?_)
        refine awp_ret ?_
        exact ⟨_, rfl, by simp [Dv.check, hd, hn2] <;> rfl, rfl⟩
      · have hn2 : ¬ v.n ≤ i := hn
        refine awp_skip ?_
        refine awp_seq ?_
        refine awp_region rfl ?_
        repeat' (first | (refine Qa rfl ?_; try ((refine Q1 ?_); refine QX rfl rfl ?_)) | refine Qh ?_)
        refine awp_ret ?_
        exact ⟨_, rfl, by simp [Dv.check, hd, hi, hn2] <;> rfl, rfl⟩
set_option maxHeartbeats 0 in
theorem at_c (X : Nat → Prop) (v : Dv) (i : Nat) (hl : v.image.length ≤ 1073741824) (hi : i * 64 + 64 ≤ v.image.length) :
    ACalls (E0 X) 98 [.ptr 0 0, .int .i64 (i : Int)] (devH v) (fun r H' => r = .own 1 (i * 64) 64 ∧ H' = devH v) := by
  refine acalls_of Proofs.Tryd.func98 rfl Proofs.Tryd.ntmps98 (by kernel_rfl) rfl ?_
  intro hH hargs
  clear hH hargs
  refine awp_seq ?_
  refine awp_region rfl ?_
  repeat' (first | (refine Qa rfl ?_; try ((refine Q1 ?_); refine QX rfl rfl ?_)) | refine Qh ?_)
  refine awp_seq ?_
  refine awp_region rfl ?_
  repeat' (refine Qa rfl ?_; try ((first | refine Q0 ?_ | refine Q2 rfl ?_ | refine Q3 rfl rfl rfl ?_ | refine Q4 rfl rfl rfl rfl rfl ?_ | refine Q6 rfl ?_); refine QX rfl rfl ?_))
  have h1 : IntKind.i64.wrap ((i : Int) * 64) = ((i * 64 : Nat) : Int) := by rw [wrap_in (by omega) (by omega)]; omega
  have h2 : IntKind.i64.wrap (IntKind.i64.wrap ((i : Int) + 1) * 64) = ((i * 64 + 64 : Nat) : Int) := by
    rw [wrap_in (n := (i : Int) + 1) (by omega) (by omega), wrap_in (by omega) (by omega)]; omega
  refine st_slice_own (l := i * 64) (h := i * 64 + 64) rfl rfl rfl rfl rfl rfl rfl (bnd_some rfl h1) (bnd_some rfl h2) (by omega) hi ?_
  have h3 : AV.own (0 + 1) (0 + i * 64) (i * 64 + 64 - i * 64) = .own 1 (i * 64) 64 := by simp
  rw [h3]
  refine nx rfl rfl ?_
  repeat' (first | (refine Qa rfl ?_; try ((refine Q1 ?_); refine QX rfl rfl ?_)) | refine Qh ?_)
  refine awp_ret ?_
  exact ⟨_, rfl, rfl, rfl⟩
end Go.Abs
namespace Go.Abs

theorem set_same {H : Hp} {id : Nat} {o : Option AO} (h : H[id]? = some o) : H.set id o = H := by
  apply List.ext_getElem?
  intro j
  rw [List.getElem?_set]
  split
  · rename_i hj
    subst hj
    have := (List.getElem?_eq_some_iff.1 h).1
    first | rw [if_pos this, h] | rw [h]
  · rfl

theorem clone_at (X : Nat → Prop) (H : Hp) (id : Nat) (ys : List UInt8) (lo n : Nat) (ho : H[id]? = some (some (.arr (ys.map u8A) 5))) (hn : lo + n ≤ ys.length) (hb : ys.length ≤ 1073741824) :
    ACalls (E0 X) 67 [.own id lo n] H (fun r H' => r = .own H.length 0 n ∧ H' = H ++ [some (.arr (((ys.drop lo).take n).map u8A) 5)]) := by
  have hcl : ∀ (f : Nat → Nat) (l : List UInt8), rnL f (l.map u8A) = l.map u8A := fun f l => rnL_closed _ (u8_ids l)
  have h := ACalls.frame (E := E0 X) (fun X => clone_own X ys lo n hn hb) [id] H (by simp) rfl (fun j => by
    match j with
    | 0 => simp
    | j + 1 => simp) (fun j i o hj hh => by
    match j, hj, hh with
    | 0, hj, hh =>
      simp at hj hh
      subst hj hh
      simp only [rnO, hcl]
      exact ho) (by simp [IdsLtL, IdsLt]) (fun j o hh => by
    match j, hh with
    | 0, hh =>
      simp at hh
      subst hh
      exact ids_mono (Nat.zero_le _) (u8_ids ys))
  refine ACalls.mono h ?_
  rintro r H' ⟨r0, h', ⟨rfl, rfl⟩, _, rfl, rfl⟩
  refine ⟨?_, ?_⟩
  · simp [rnA, reN]
  · simp only [mrg, List.map_cons, List.map_nil, Option.map_some, rnO, hcl, setAll, List.length_cons, List.length_nil, Nat.zero_add, List.drop_succ_cons, List.drop_zero]
    rw [set_same ho]

theorem check_zero {v : Dv} {i : Int} (hl : v.image.length ≤ 1073741824) (h : v.check i = 0) : ∃ k : Nat, i = k ∧ k * 64 + 64 ≤ v.image.length := by
  unfold Dv.check Dv.n at h
  have e : ((v.image.length : Int).tdiv 64) = ((v.image.length / 64 : Nat) : Int) := by rw [Int.tdiv_eq_ediv_of_nonneg (by omega)]; omega
  rw [e] at h
  rw [wrap_in (by omega) (by omega)] at h
  split at h
  · omega
  · split at h
    · omega
    · rename_i h1
      refine ⟨i.toNat, by omega, ?_⟩
      omega

attribute [local irreducible] AStep aops AWp Nx awM
set_option maxHeartbeats 0 in
theorem read_c (X : Nat → Prop) (v : Dv) (i : Int) (hl : v.image.length ≤ 1073741824) :
    ACalls (E0 X) 60 [.ptr 0 0, .int .i64 i] (devH v) (fun r H' => (v.check i ≠ 0 ∧ r = .tup [.nils, .int .i64 (v.check i)] ∧ H' = devH v) ∨
      (v.check i = 0 ∧ r = .tup [.own 3 0 64, .int .i64 0] ∧ H' = devH v ++ [some (.arr (((v.image.drop (i.toNat * 64)).take 64).map u8A) 5)])) := by
  refine acalls_of Proofs.Tryd.func60 rfl Proofs.Tryd.ntmps60 (by kernel_rfl) rfl ?_
  intro hH hargs
  clear hH hargs
  refine awp_seq ?_
  refine awp_region rfl ?_
  repeat' (first | (refine Qa rfl ?_; try ((refine Q1 ?_); refine QX rfl rfl ?_)) | refine Qh ?_)
  refine awp_seq ?_
  refine awp_seq ?_
  refine awp_region rfl ?_
  repeat' (refine Qa rfl ?_; try ((refine Q0 ?_); refine QX rfl rfl ?_))
  refine st_call (fun _ => rfl) rfl ?_
  refine ACalls.mono (check_c X v i) ?_
  rintro r H' ⟨rfl, rfl⟩
  refine nx rfl rfl ?_
  repeat' (first | (refine Qa rfl ?_; try ((refine Q1 ?_); refine QX rfl rfl ?_)) | refine Qh ?_)
  refine awp_seq ?_
  refine awp_region rfl ?_
  repeat' (first | (refine Qa rfl ?_; try ((first | refine Q0 ?_ | refine Q2 rfl ?_); refine QX rfl rfl ?_)) | refine Qh ?_)
  refine awp_cond_dec rfl (fun hc => ?_) (fun hc => ?_)
  · have hc2 : v.check i ≠ 0 := hc
    refine awp_seq ?_
    refine awp_region rfl ?_
    repeat' (first | (refine Qa rfl ?_; try ((first | refine Q0 ?_ | refine Q1 ?_); refine QX rfl rfl ?_)) | refine Qh ?_)
    refine awp_ret ?_
    exact ⟨_, rfl, .inl ⟨hc2, rfl, rfl⟩⟩
  · have hc2 : v.check i = 0 := Decidable.not_not.1 hc
    obtain ⟨k, rfl, hk⟩ := check_zero hl hc2
    refine awp_skip ?_
    refine awp_seq ?_
    refine awp_region rfl ?_
    repeat' (refine Qa rfl ?_; try ((refine Q0 ?_); refine QX rfl rfl ?_))
    refine st_call (fun _ => rfl) rfl ?_
    refine ACalls.mono (at_c X v k hl hk) ?_
    rintro r H' ⟨rfl, rfl⟩
    refine nx rfl rfl ?_
    repeat' (refine Qa rfl ?_)
    refine st_call (fun _ => rfl) rfl ?_
    refine ACalls.mono (clone_at X (devH v) 1 v.image (k * 64) 64 rfl hk hl) ?_
    rintro r H' ⟨rfl, rfl⟩
    refine nx rfl rfl ?_
    repeat' (first | (refine Qa rfl ?_; try ((refine Q1 ?_); refine QX rfl rfl ?_)) | refine Qh ?_)
    refine awp_ret ?_
    exact ⟨_, rfl, .inr ⟨hc2, rfl, by simp <;> rfl⟩⟩
end Go.Abs
namespace Go.Abs
def Dv.sector (v : Dv) (k : Nat) : List UInt8 := (v.image.drop (k * 64)).take 64
def Dv.put (v : Dv) (k : Nat) (b : List UInt8) : Dv :=
  { v with image := v.image.take (k * 64) ++ (b ++ List.replicate (64 - b.length) 0) ++ v.image.drop (k * 64 + 64)
           old := if (k : Int) ∈ v.old.map (·.1) then v.old else v.old ++ [((k : Int), v.sector k)]
           writes := IntKind.i64.wrap (v.writes + 1) }
def Dv.write (v : Dv) (i : Int) (b : List UInt8) : Int × Dv :=
  if v.check i ≠ 0 then (v.check i, v) else if 64 < b.length then (3, v) else if v.burn.dead = true then (1, v.burn) else (0, v.burn.put i.toNat b)
structure Dv.Ok (v : Dv) : Prop where
  len : v.image.length ≤ 1073741824
  nd : (v.old.map (·.1)).Nodup
  sz : ∀ p ∈ v.old, p.2.length = 64
  fuse : v.fuse ≤ 9223372036854775807

theorem hok_dev (w : Dv) : HOk 3 (devH w) := fun j o ho => by
  match j, ho with
  | 0, ho => cases ho; exact ⟨by simp [IdsLt], by simp [IdsLt], trivial, trivial, trivial, trivial⟩
  | 1, ho => cases ho; exact ids_mono (Nat.zero_le _) (u8_ids _)
  | 2, ho =>
    cases ho
    refine ⟨?_, ?_⟩
    · rw [List.map_map]; exact ids_mono (Nat.zero_le _) (ids_map (fun p => by simp [oldA, IdsLt]) _)
    · rw [List.map_map]; exact ids_mono (Nat.zero_le _) (ids_map (fun p => by simp only [Function.comp, oldA, IdsLt]; exact u8_ids _) _)
theorem imp_dev {E : Env} {N : Nat} {sl sl' : List (Nat × AV)} {hp : Hp} {w : Dv} (hh : hp.take 3 = devH w) (hl : 3 ≤ hp.length) (hsl : ∀ p ∈ sl', get sl p.1 = p.2 ∧ IdsLt 3 p.2) : Imp E N 3 ⟨sl, hp⟩ ⟨sl', devH w⟩ := by
  have := imp_gc (E := E) (N := N) (n0 := 3) (s := ⟨sl, hp⟩) 3 [] sl' [] (Nat.le_refl _) hl (by simp) (by simp) (by rw [hh]; exact hok_dev w) (fun p hp => by
    rw [(hsl p hp).1]; exact ren_old 3 gcF_lt (hsl p hp).2) rfl (fun _ _ _ h => absurd h (by simp))
  simpa [hh] using this
theorem awp_join {E : Env} {N n0 : Nat} {Q : Exit → St → Prop} {s s1 : St} {c1 c2 : Code} (h1 : AWp E N n0 c1 (fun e s => e = .normal ∧ Imp E N n0 s s1) s) (h2 : AWp E N n0 c2 Q s1) : AWp E N n0 (.seq c1 c2) Q s :=
  awp_seq (awp_mono h1 fun e s h => by
    obtain ⟨rfl, hi⟩ := h
    exact awp_pre hi h2)
theorem put_img (img b : List UInt8) (k : Nat) (hk : k * 64 + 64 ≤ img.length) (hb : b.length ≤ 64) :
    spl (spl (img.map u8A) (k * 64) (List.replicate 64 (.int .u8 0))) (k * 64) ((b.map u8A).take (min 64 (b.map u8A).length)) =
      (img.take (k * 64) ++ (b ++ List.replicate (64 - b.length) 0) ++ img.drop (k * 64 + 64)).map u8A := by
  have h0 : (List.replicate 64 (AV.int .u8 0)) = (List.replicate 64 (0 : UInt8)).map u8A := by rw [List.map_replicate]; rfl
  have h1 : (b.map u8A).take (min 64 (b.map u8A).length) = b.map u8A := List.take_of_length_le (by simp; omega)
  rw [h1, h0]
  unfold spl
  rw [← List.map_take, ← List.map_drop, ← List.map_append, ← List.map_append, ← List.map_take, ← List.map_drop, ← List.map_append, ← List.map_append]
  congr 1
  have h2 : (List.take (k * 64) img).length = k * 64 := by simp; omega
  have h3 : List.take (k * 64) (List.take (k * 64) img ++ List.replicate 64 0 ++ List.drop (k * 64 + (List.map u8A (List.replicate 64 0)).length) img) = List.take (k * 64) img := by
    rw [List.append_assoc, List.take_append_of_le_length (by omega), List.take_of_length_le (by omega)]
  have h4 : List.drop (k * 64 + (List.map u8A b).length) (List.take (k * 64) img ++ List.replicate 64 0 ++ List.drop (k * 64 + (List.map u8A (List.replicate 64 0)).length) img) = List.replicate (64 - b.length) 0 ++ List.drop (k * 64 + 64) img := by
    rw [List.append_assoc, List.drop_append, h2, List.drop_of_length_le (by rw [h2]; omega), List.nil_append]
    simp only [List.length_map, List.length_replicate]
    have : k * 64 + b.length - k * 64 = b.length := by omega
    rw [this, List.drop_append_of_le_length (by simp; omega), List.drop_replicate]
  rw [h3, h4]
  simp
theorem blk_n {Q : Exit → St → Prop} {i : Nat} {s : St} (h : Q .normal s) : InBlk i Q .normal s := h

attribute [local irreducible] AStep aops AWp Nx awM
set_option maxHeartbeats 0 in
set_option maxRecDepth 100000 in
theorem write_c (X : Nat → Prop) (v : Dv) (hv : v.Ok) (i : Int) (b : List UInt8) (hb : b.length ≤ 1073741824) :
    ACalls (E0 X) 58 [.ptr 0 0, .int .i64 i, .sl 1 (b.map u8A)] (devH v) (fun r H' => r = .int .i64 (v.write i b).1 ∧ H' = devH (v.write i b).2) := by
  refine acalls_of Proofs.Tryd.func58 rfl Proofs.Tryd.ntmps58 (by kernel_rfl) rfl ?_
  intro hH hargs
  clear hH hargs
  refine awp_seq ?_
  refine awp_region rfl ?_
  repeat' (first | (refine Qa rfl ?_; try ((refine Q1 ?_); refine QX rfl rfl ?_)) | refine Qh ?_)
  refine awp_seq ?_
  refine awp_region rfl ?_
  repeat' (refine Qa rfl ?_; try ((refine Q0 ?_); refine QX rfl rfl ?_))
  refine st_call (fun _ => rfl) rfl ?_
  refine ACalls.mono (check_c X v i) ?_
  rintro r H' ⟨rfl, rfl⟩
  refine nx rfl rfl ?_
  repeat' (first | (refine Qa rfl ?_; try ((refine Q1 ?_); refine QX rfl rfl ?_)) | refine Qh ?_)
  refine awp_seq ?_
  refine awp_block ?_
  refine awp_seq ?_
  refine awp_region rfl ?_
  repeat' (first | (refine Qa rfl ?_; try ((first | refine Q0 ?_ | refine Q1 ?_ | refine Q2 rfl ?_); refine QX rfl rfl ?_)) | refine Qh ?_)
  refine awp_cond_dec rfl (fun hc => ?_) (fun hc => ?_)
  · have hc2 : v.check i ≠ 0 := hc
    refine awp_seq ?_
    refine awp_region rfl ?_
    repeat' (first | (refine Qa rfl ?_; try ((first | refine Q0 ?_ | refine Q1 ?_); refine QX rfl rfl ?_)) | refine Qh ?_)
    refine awp_ret ?_
    exact ⟨_, rfl, by simp [Dv.write, hc2] <;> rfl, by simp [Dv.write, hc2] <;> rfl⟩
  · have hc2 : v.check i = 0 := Decidable.not_not.1 hc
    obtain ⟨k, rfl, hk⟩ := check_zero hv.len hc2
    refine awp_seq ?_
    refine awp_region rfl ?_
    repeat' (first | (refine Qa rfl ?_; try ((first | refine Q0 ?_ | refine Q1 ?_ | refine Q2 rfl ?_ | refine Q7 rfl rfl rfl ?_); refine QX rfl rfl ?_)) | refine Qh ?_)
    refine awp_cond_dec rfl (fun hl => ?_) (fun hl => ?_)
    · have hl2 : 64 < b.length := by
        have h : (64 : Int) < ((b.map u8A).length : Int) := hl
        simp at h; omega
      refine awp_seq ?_
      refine awp_region rfl ?_
      repeat' (first | (refine Qa rfl ?_; try ((refine Q1 ?_); refine QX rfl rfl ?_)) | refine Qh ?_)
      refine awp_ret ?_
      exact ⟨_, rfl, by simp [Dv.write, hc2, hl2] <;> rfl, by simp [Dv.write, hc2, hl2] <;> rfl⟩
    · have hl2 : ¬ 64 < b.length := fun hh => hl (by show (64 : Int) < ((b.map u8A).length : Int); simp; omega)
      refine awp_seq ?_
      refine awp_region rfl ?_
      repeat' (refine Qa rfl ?_; try ((refine Q0 ?_); refine QX rfl rfl ?_))
      refine st_call (fun _ => rfl) rfl ?_
      refine ACalls.mono (burn_c X v hv.fuse) ?_
      rintro r H' ⟨rfl, rfl⟩
      refine nx rfl rfl ?_
      repeat' (first | (refine Qa rfl ?_; try ((refine Q1 ?_); refine QX rfl rfl ?_)) | refine Qh ?_)
      refine awp_cond rfl (fun hd => ?_) (fun hd => ?_)
      · refine awp_seq ?_
        refine awp_region rfl ?_
        repeat' (first | (refine Qa rfl ?_; try ((refine Q1 ?_); refine QX rfl rfl ?_)) | refine Qh ?_)
        refine awp_ret ?_
        have e : v.write (k : Int) b = (1, v.burn) := by simp [Dv.write, hc2, hl2, hd]
        rw [e]
        exact ⟨_, rfl, rfl, rfl⟩
      · refine awp_skip ?_
        have e : v.write (k : Int) b = (0, v.burn.put k b) := by simp [Dv.write, hc2, hl2, hd]
        rw [e]
        have hwl : v.burn.image.length ≤ 1073741824 := hv.len
        have hwk : k * 64 + 64 ≤ v.burn.image.length := hk
        have hnd : (v.burn.old.map (·.1)).Nodup := hv.nd
        have hsz : ∀ p ∈ v.burn.old, p.2.length = 64 := hv.sz
        clear e hv hc hc2 hl hk
        generalize v.burn = w at *
        refine blk_n ?_
        refine awp_seq ?_
        refine awp_region rfl ?_
        repeat' (refine Qa rfl ?_; try ((refine Q0 ?_); refine QX rfl rfl ?_))
        refine st_call (fun _ => rfl) rfl ?_
        refine ACalls.mono (at_c X w k hwl hwk) ?_
        rintro r H' ⟨rfl, rfl⟩
        refine nx rfl rfl ?_
        repeat' (first | (refine Qa rfl ?_; try ((refine Q1 ?_); refine QX rfl rfl ?_)) | refine Qh ?_)
        refine awp_join (s1 := ⟨[(0, .ptr 0 0), (1, .int .i64 (k : Int)), (2, .sl 1 (b.map u8A)), (8, .own 1 (k * 64) 64)], devH { w with old := if (k : Int) ∈ w.old.map (·.1) then w.old else w.old ++ [((k : Int), w.sector k)] }⟩) ?_ ?_
        rotate_left
        · generalize hold : (if (k : Int) ∈ w.old.map (·.1) then w.old else w.old ++ [((k : Int), w.sector k)]) = old2
          refine awp_seq ?_
          refine awp_region rfl ?_
          repeat' (first | (refine Qa rfl ?_; try ((refine Q0 ?_); refine QX rfl rfl ?_)) | (refine Qb rfl ?_; try (refine QS rfl rfl rfl rfl rfl rfl rfl ?_; refine QX rfl rfl ?_)))
          refine st_clear_own rfl rfl rfl rfl rfl rfl rfl rfl rfl (by simpa using hwk) (by omega) ?_
          refine nx rfl rfl ?_
          repeat' (refine Qh ?_)
          refine awp_seq ?_
          refine awp_region rfl ?_
          repeat' (refine Qa rfl ?_; try ((refine Q0 ?_); refine QX rfl rfl ?_))
          refine st_copy rfl rfl rfl rfl rfl rfl rfl rfl (by simp [spl]; omega) rfl (oneEs_u8 b) ?_
          refine nx rfl rfl ?_
          repeat' (refine Qh ?_)
          refine awp_seq ?_
          refine awp_region rfl ?_
          repeat' (first | (refine Qa rfl ?_; try ((first | refine Q0 ?_ | refine Q2 rfl ?_ | refine Q3 rfl rfl rfl ?_ | refine Q4 rfl rfl rfl rfl rfl ?_ | refine Q6 rfl ?_); refine QX rfl rfl ?_)) | (refine Qb rfl ?_; try (refine QS rfl rfl rfl rfl rfl rfl rfl ?_; refine QX rfl rfl ?_)) | refine Qh ?_)
          refine awp_seq ?_
          refine awp_region rfl ?_
          repeat' (first | (refine Qa rfl ?_; try ((refine Q1 ?_); refine QX rfl rfl ?_)) | refine Qh ?_)
          refine awp_ret ?_
          refine ⟨_, rfl, rfl, ?_⟩
          have hp1 := put_img w.image b k hwk (by omega)
          have hp2 : (w.put k b).image.length = w.image.length := by simp [Dv.put]; omega
          have hp3 : (w.put k b).old = old2 := hold
          show [some _, some _, some _] = [some _, some _, some _]
          rw [hp2, hp3]
          have hp4 : (w.put k b).image.map u8A = _ := hp1.symm
          rw [hp4]
          rfl
        refine awp_seq ?_
        refine awp_region rfl ?_
        repeat' (refine Qa rfl ?_; try ((first | refine Q0 ?_ | refine Q3 rfl rfl rfl ?_ | refine Q4 rfl rfl rfl rfl rfl ?_ | refine Q6 rfl ?_); refine QX rfl rfl ?_))
        have hns : (w.old.map oldA).map (·.1) = (w.old.map (·.1)).map (AV.int .i64) := by simp [oldA]
        by_cases hm : (k : Int) ∈ w.old.map (·.1)
        · obtain ⟨j, hj⟩ := List.mem_iff_getElem?.1 hm
          obtain ⟨p, hp, hpk⟩ : ∃ p, w.old[j]? = some p ∧ p.1 = (k : Int) := by
            rw [List.getElem?_map, Option.map_eq_some_iff] at hj
            exact hj
          have h64 : p.2.length = 64 := hsz p (List.mem_of_getElem? hp)
          have hy : ((w.old.map oldA).map (·.2))[j]? = some (.agg (p.2.map u8A)) := by simp [hp, oldA]
          refine st_lookup_hit rfl rfl rfl rfl rfl rfl hns hnd rfl hj hy ?_
          refine nx rfl rfl ?_
          repeat' (refine Qa rfl ?_; try ((first | refine Q0 ?_ | refine QC rfl rfl ?_); refine QX rfl rfl ?_))
          refine st_extract rfl rfl ?_
          refine nx0 ?_
          repeat' (first | (refine Qa rfl ?_; try ((first | refine QC rfl rfl ?_ | refine QJ rfl rfl ?_); refine QX rfl rfl ?_)) | (refine Qb rfl ?_; try (refine QS rfl rfl rfl rfl rfl rfl rfl ?_; refine QX rfl rfl ?_)))
          apply st_store_ptr rfl rfl rfl
          · show Nat.beq (p.2.map u8A).length 64 = true
            simp [h64]
          · show (p.2.map u8A).all oneA = true
            exact List.all_eq_true.2 (u8_oneA p.2)
          · rfl
          · show Nat.ble (0 + (p.2.map u8A).length) 64 = true
            simp [h64]
          refine nx0 ?_
          refine bs rfl ?_
          refine st_assign ?_
          refine nx0 ?_
          refine aops_nil ?_
          refine awp_pre (imp_dev (w := w) (sl' := [(0, .ptr 0 0), (1, .int .i64 (k : Int)), (2, .sl 1 (b.map u8A)), (8, .own 1 (k * 64) 64), (10, .bool true)]) rfl (by simp) (fa_cons ⟨rfl, by simp [IdsLt]⟩ (fa_cons ⟨rfl, trivial⟩ (fa_cons ⟨rfl, ids_mono (Nat.zero_le _) (u8_ids b)⟩ (fa_cons ⟨rfl, by simp [IdsLt]⟩ (fa_cons ⟨rfl, trivial⟩ fa_nil)))))) ?_
          refine awp_seq ?_
          refine awp_region rfl ?_
          repeat' (first | (refine Qa rfl ?_; try ((first | refine Q0 ?_ | refine QD rfl ?_); refine QX rfl rfl ?_)) | refine Qh ?_)
          refine awp_cond_false rfl ?_
          refine awp_skip ?_
          refine ⟨rfl, imp_dev ?_ (by simp) (fa_cons ⟨rfl, by simp [IdsLt]⟩ (fa_cons ⟨rfl, trivial⟩ (fa_cons ⟨rfl, ids_mono (Nat.zero_le _) (u8_ids b)⟩ (fa_cons ⟨rfl, by simp [IdsLt]⟩ fa_nil))))⟩
          rw [if_pos hm]
          rfl
        · refine st_lookup_miss rfl rfl rfl rfl rfl rfl rfl rfl rfl hns rfl hm ?_
          refine nx rfl rfl ?_
          repeat' (first | (refine Qa rfl ?_; try ((first | refine Q0 ?_ | refine Q1 ?_ | refine QC rfl rfl ?_ | refine QJ rfl rfl ?_); refine QX rfl rfl ?_)) | (refine Qb rfl ?_; try (refine QS rfl rfl rfl rfl rfl rfl rfl ?_; refine QX rfl rfl ?_)) | refine Qh ?_)
          refine awp_pre (imp_dev (w := w) (sl' := [(0, .ptr 0 0), (1, .int .i64 (k : Int)), (2, .sl 1 (b.map u8A)), (8, .own 1 (k * 64) 64), (10, .bool false)]) rfl (by simp) (fa_cons ⟨rfl, by simp [IdsLt]⟩ (fa_cons ⟨rfl, trivial⟩ (fa_cons ⟨rfl, ids_mono (Nat.zero_le _) (u8_ids b)⟩ (fa_cons ⟨rfl, by simp [IdsLt]⟩ (fa_cons ⟨rfl, trivial⟩ fa_nil)))))) ?_
          refine awp_seq ?_
          refine awp_region rfl ?_
          repeat' (first | (refine Qa rfl ?_; try ((first | refine Q0 ?_ | refine QD rfl ?_); refine QX rfl rfl ?_)) | refine Qh ?_)
          refine awp_cond_true rfl ?_
          refine awp_region_draw (ef := [8]) (so := []) (ord := [0, 1, 2, 3, 4, 5, 6, 7, 8]) rfl (by kernel_rfl) rfl ?_
          repeat (apply ds rfl rfl rfl rfl
                  · first
                    | refine st_move ?_
                    | refine st_assign ?_
                    | refine st_bin rfl ?_
                    | refine st_load rfl rfl rfl ?_
                    | refine st_fieldAddr rfl rfl rfl rfl rfl ?_
                    | refine st_pick rfl ?_
                    | refine st_nilCheck rfl ?_
                    | refine st_len_sl rfl rfl rfl ?_
                    | refine st_len_str rfl rfl rfl ?_
                    | refine st_un rfl ?_
                    | refine st_field rfl rfl rfl rfl rfl ?_
                    exact nx rfl rfl ⟨rfl, rfl⟩)
          apply ds rfl rfl rfl rfl
          · refine st_s2ap_own rfl rfl rfl rfl (by simpa using hwk) (Nat.le_refl _) (by omega) ?_
            exact nx rfl rfl ⟨rfl, rfl⟩
          apply ds rfl rfl rfl rfl
          · refine st_load_row rfl rfl rfl rfl rfl rfl rfl (u8_oneA _) (by simpa using hwk) ?_
            exact nx0 ⟨rfl, rfl⟩
          refine ds_ef0 rfl rfl rfl ?_
          refine st_update_new rfl rfl rfl rfl rfl rfl hns rfl hm ?_
          refine nx rfl rfl ?_
          refine ds_nil ?_
          refine ⟨rfl, imp_dev ?_ (by simp) (fa_cons ⟨rfl, by simp [IdsLt]⟩ (fa_cons ⟨rfl, trivial⟩ (fa_cons ⟨rfl, ids_mono (Nat.zero_le _) (u8_ids b)⟩ (fa_cons ⟨rfl, by simp [IdsLt]⟩ fa_nil))))⟩
          rw [if_neg hm]
          simp [devH, oldA, Dv.sector, List.map_take, List.map_drop]
          rfl
end Go.Abs
namespace Go.Abs
def Dv.barrier (v : Dv) : Int × Dv := if v.dead = true then (1, v) else if v.burn.dead = true then (1, v.burn) else (0, { v.burn with old := [] })

attribute [local irreducible] AStep aops AWp Nx awM
set_option maxHeartbeats 0 in
theorem barrier_c (X : Nat → Prop) (v : Dv) (hf : v.fuse ≤ 9223372036854775807) :
    ACalls (E0 X) 59 [.ptr 0 0] (devH v) (fun r H' => r = .int .i64 v.barrier.1 ∧ H' = devH v.barrier.2) := by
  refine acalls_of Proofs.Tryd.func59 rfl Proofs.Tryd.ntmps59 (by kernel_rfl) rfl ?_
  intro hH hargs
  clear hH hargs
  refine awp_seq ?_
  refine awp_region rfl ?_
  repeat' (first | (refine Qa rfl ?_; try ((refine Q1 ?_); refine QX rfl rfl ?_)) | refine Qh ?_)
  refine awp_seq ?_
  refine awp_seq ?_
  refine awp_region rfl ?_
  repeat' (first | (refine Qa rfl ?_; try ((first | refine Q0 ?_ | refine Q3 rfl rfl rfl ?_ | refine Q4 rfl rfl rfl rfl rfl ?_ | refine Q5 rfl ?_ | refine Q6 rfl ?_ | refine QH rfl rfl rfl ?_); refine QX rfl rfl ?_)) | refine Qh ?_ | refine Qi rfl ?_ | refine Qz rfl rfl (fun _ => ?_) (fun _ => ?_))
  · rename_i hd
    refine awp_cond_true rfl ?_
    refine awp_seq ?_
    refine awp_region rfl ?_
    repeat' (first | (refine Qa rfl ?_; try ((refine Q1 ?_); refine QX rfl rfl ?_)) | refine Qh ?_)
    refine awp_ret ?_
    have e : v.barrier = (1, v) := by simp [Dv.barrier, hd]
    rw [e]
    exact ⟨_, rfl, rfl, rfl⟩
  · rename_i hd
    refine st_call (fun _ => rfl) rfl ?_
    refine ACalls.mono (burn_c X v hf) ?_
    rintro r H' ⟨rfl, rfl⟩
    refine nx rfl rfl ?_
    repeat' (first | (refine Qa rfl ?_; try ((refine Q5 rfl ?_); refine QX rfl rfl ?_)) | refine Qh ?_)
    refine awp_cond rfl (fun hb => ?_) (fun hb => ?_)
    · refine awp_seq ?_
      refine awp_region rfl ?_
      repeat' (first | (refine Qa rfl ?_; try ((refine Q1 ?_); refine QX rfl rfl ?_)) | refine Qh ?_)
      refine awp_ret ?_
      have e : v.barrier = (1, v.burn) := by simp [Dv.barrier, hd, hb]
      rw [e]
      exact ⟨_, rfl, rfl, rfl⟩
    · have e : v.barrier = (0, { v.burn with old := [] }) := by simp [Dv.barrier, hd, hb]
      rw [e]
      refine awp_skip ?_
      refine awp_seq ?_
      refine awp_region rfl ?_
      repeat' (first | (refine Qa rfl ?_; try ((first | refine Q0 ?_ | refine Q3 rfl rfl rfl ?_ | refine Q4 rfl rfl rfl rfl rfl ?_ | refine Q6 rfl ?_); refine QX rfl rfl ?_)) | (refine Qb rfl ?_; try (refine QS rfl rfl rfl rfl rfl rfl rfl ?_; refine QX rfl rfl ?_)))
      refine st_clear_map rfl rfl rfl rfl ?_
      refine nx rfl rfl ?_
      repeat' (refine Qh ?_)
      refine awp_seq ?_
      refine awp_region rfl ?_
      repeat' (first | (refine Qa rfl ?_; try ((refine Q1 ?_); refine QX rfl rfl ?_)) | refine Qh ?_)
      refine awp_ret ?_
      exact ⟨_, rfl, rfl, rfl⟩
end Go.Abs
namespace Go.Abs

attribute [local irreducible] AStep aops AWp Nx awM
set_option maxHeartbeats 0 in
theorem clone_sl (X : Nat → Prop) (ys : List UInt8) (hb : ys.length ≤ 1073741824) :
    ACalls (E0 X) 67 [.sl 1 (ys.map u8A)] [] (fun r H' => r = .own 0 0 ys.length ∧ H' = [some (.arr (ys.map u8A) 5)]) := by
  refine acalls_of Proofs.Tryd.func67 rfl Proofs.Tryd.ntmps67 (by kernel_rfl) rfl ?_
  intro hH hargs
  clear hH hargs
  refine awp_seq ?_
  refine awp_region rfl ?_
  repeat' (first | (refine Qa rfl ?_; try ((refine Q1 ?_); refine QX rfl rfl ?_)) | refine Qh ?_)
  refine awp_seq ?_
  refine awp_seq ?_
  refine awp_region rfl ?_
  repeat' (refine Qa rfl ?_; try ((refine Q0 ?_); refine QX rfl rfl ?_))
  refine st_eqnil_sl rfl rfl rfl (by omega) (fun h0 => ?_) ?_
  · refine nx rfl rfl ?_
    repeat' (refine Qh ?_)
    refine awp_cond_true rfl ?_
    refine awp_seq ?_
    refine awp_region rfl ?_
    repeat' (first | (refine Qa rfl ?_; try ((refine Q1 ?_); refine QX rfl rfl ?_)) | refine Qh ?_)
    refine awp_pre (imp_nil 2 5 rfl) ?_
    refine awp_ret ?_
    have : ys = [] := by simpa using h0
    subst this
    exact ⟨_, rfl, rfl, rfl⟩
  · refine nx rfl rfl ?_
    repeat' (refine Qh ?_)
    refine awp_cond_false rfl ?_
    refine awp_skip ?_
    refine awp_seq ?_
    refine awp_region rfl ?_
    repeat' (refine Qa rfl ?_)
    refine st_buildSlice_own rfl rfl rfl rfl rfl rfl rfl (.inr rfl) rfl (.inr rfl) ?_
    refine nx rfl rfl ?_
    repeat' (refine Qa rfl ?_; try ((refine Q0 ?_); refine QX rfl rfl ?_))
    refine st_append (oid := some 0) (es := []) (new := ys.map u8A) rfl rfl rfl rfl rfl rfl rfl rfl (dst_own (es := []) rfl rfl) rfl (oneEs_u8 _) ?_ ?_ ?_
    · simp [maxLen]; omega
    · show _ * 1 ≤ _
      simp; omega
    refine nx rfl rfl ?_
    repeat' (first | (refine Qa rfl ?_; try ((refine Q1 ?_); refine QX rfl rfl ?_)) | refine Qh ?_)
    refine awp_pre (imp_tidy [1] (sl' := [(2, .own 0 0 ys.length)]) (os := [.arr (ys.map u8A) 5]) (by simp) rfl ?_ ?_) ?_
    · refine fa_cons ?_ fa_nil
      show Ren _ (.own 1 0 _) (.own 0 0 ys.length)
      have : ([] : List AV).length + (ys.map u8A).length = ys.length := by simp
      rw [this]
      exact ren_own rfl
    · exact os_cons rfl (renO_val2 (by simp) (u8_ids _)) os_nil
    · refine awp_ret ?_
      exact ⟨_, rfl, rfl, rfl⟩
end Go.Abs
namespace Go.Abs
def LoadOk (l : Nat) : Prop := l % 64 = 0 ∧ 64 ≤ l ∧ l ≤ 67108864
def Dv.fresh (img : List UInt8) : Dv := { image := img, old := [], writes := 0, fuse := -1, dead := false }
theorem len_div {l : Nat} (h : l ≤ 1073741824) : IntKind.i64.wrap ((l : Int).tdiv 64) = ((l / 64 : Nat) : Int) := by
  have e : ((l : Int).tdiv 64) = ((l / 64 : Nat) : Int) := by rw [Int.tdiv_eq_ediv_of_nonneg (by omega)]; omega
  rw [e, wrap_in (by omega) (by omega)]
theorem len_mod {l : Nat} (h : l ≤ 1073741824) : IntKind.i64.wrap ((l : Int).tmod 64) = ((l % 64 : Nat) : Int) := by
  have e : ((l : Int).tmod 64) = ((l % 64 : Nat) : Int) := by rw [Int.tmod_eq_emod_of_nonneg (by omega)]; omega
  rw [e, wrap_in (by omega) (by omega)]

attribute [local irreducible] AStep aops AWp Nx awM
set_option maxHeartbeats 0 in
theorem load_sl (X : Nat → Prop) (img : List UInt8) (hb : img.length ≤ 1073741824) :
    ACalls (E0 X) 30 [.sl 1 (img.map u8A)] [] (fun r H' => (LoadOk img.length ∧ r = .ptr 0 0 ∧ H' = devH (Dv.fresh img)) ∨ (¬ LoadOk img.length ∧ r = .nilp ∧ H' = [])) := by
  refine acalls_of Proofs.Tryd.func30 rfl Proofs.Tryd.ntmps30 (by kernel_rfl) rfl ?_
  intro hH hargs
  clear hH hargs
  have hll : (img.map u8A).length ≤ 1073741824 := by simpa using hb
  have e1 := len_div hll
  have e2 := len_mod hll
  rw [List.length_map] at e1 e2
  refine awp_seq ?_
  refine awp_region rfl ?_
  repeat' (first | (refine Qa rfl ?_; try ((refine Q1 ?_); refine QX rfl rfl ?_)) | refine Qh ?_)
  refine awp_seq ?_
  refine awp_region rfl ?_
  repeat' (first | (refine Qa rfl ?_; try ((first | refine Q0 ?_ | refine Q1 ?_ | refine Q7 rfl rfl rfl ?_ | refine QA rfl rfl (by decide) ?_); refine QX rfl rfl ?_)) | refine Qh ?_)
  refine awp_seq ?_
  refine awp_seq ?_
  refine awp_region rfl ?_
  repeat' (first | (refine Qa rfl ?_; try ((first | refine Q0 ?_ | refine Q2 rfl ?_ | refine Q5 rfl ?_ | refine Q7 rfl rfl rfl ?_ | refine QB rfl rfl (by decide) ?_); refine QX rfl rfl ?_)) | refine Qh ?_ | refine Qi rfl ?_ | refine Qy rfl rfl (fun _ => ?_) (fun _ => ?_))
  · rename_i h1
    have h1' : ((img.map u8A).length : Int).tmod 64 ≠ 0 := fun hh => by
      first
        | exact h1 hh
        | (apply h1; rw [hh]; rfl)
    refine awp_cond_true rfl ?_
    refine awp_seq ?_
    refine awp_region rfl ?_
    repeat' (first | (refine Qa rfl ?_; try ((refine Q1 ?_); refine QX rfl rfl ?_)) | refine Qh ?_)
    refine awp_ret ?_
    refine ⟨_, rfl, .inr ⟨fun hh => ?_, rfl, rfl⟩⟩
    apply h1'
    rw [List.length_map, Int.tmod_eq_emod_of_nonneg (by omega)]
    have := hh.1
    omega
  · rename_i h1 h2
    refine awp_cond_true rfl ?_
    refine awp_seq ?_
    refine awp_region rfl ?_
    repeat' (first | (refine Qa rfl ?_; try ((refine Q1 ?_); refine QX rfl rfl ?_)) | refine Qh ?_)
    refine awp_ret ?_
    refine ⟨_, rfl, .inr ⟨fun hh => ?_, rfl, rfl⟩⟩
    have h3 : IntKind.i64.wrap (((img.map u8A).length : Int).tdiv 64) < 1 := h2
    rw [List.length_map, e1] at h3
    have := hh.2.1
    omega
  · rename_i h1 h2
    have h3 : ¬ IntKind.i64.wrap (((img.map u8A).length : Int).tdiv 64) < 1 := h2
    rw [List.length_map, e1] at h3
    refine awp_cond_dec rfl (fun h4 => ?_) (fun h4 => ?_)
    · refine awp_seq ?_
      refine awp_region rfl ?_
      repeat' (first | (refine Qa rfl ?_; try ((refine Q1 ?_); refine QX rfl rfl ?_)) | refine Qh ?_)
      refine awp_ret ?_
      refine ⟨_, rfl, .inr ⟨fun hh => ?_, rfl, rfl⟩⟩
      have h5 : 1048576 < IntKind.i64.wrap (((img.map u8A).length : Int).tdiv 64) := h4
      rw [List.length_map, e1] at h5
      have := hh.2.2
      omega
    · have h5 : ¬ 1048576 < IntKind.i64.wrap (((img.map u8A).length : Int).tdiv 64) := h4
      rw [List.length_map, e1] at h5
      refine awp_skip ?_
      refine awp_seq ?_
      refine awp_region rfl ?_
      repeat' (refine Qa rfl ?_; try ((refine Q0 ?_); refine QX rfl rfl ?_))
      refine st_call (fun _ => rfl) rfl ?_
      refine ACalls.mono (clone_sl X img hb) ?_
      rintro r H' ⟨rfl, rfl⟩
      refine nx rfl rfl ?_
      repeat' (refine Qa rfl ?_)
      refine st_makeMap ?_
      refine nx rfl rfl ?_
      repeat' (first | (refine Qa rfl ?_; try ((first | refine Q1 ?_ | refine QK rfl ?_ | refine QP rfl rfl rfl rfl rfl rfl ?_); refine QX rfl rfl ?_)) | refine Qh ?_)
      refine awp_pre (imp_tidy [2, 0, 1] (sl' := [(2, .ptr 0 0)]) (os := [.cells [.own 1 0 img.length, .mp 2, .int .i64 0, .int .i64 (-1), .bool false] 118, .arr (img.map u8A) 5, .map []]) (by simp) rfl ?_ ?_) ?_
      · refine fa_cons ?_ fa_nil
        exact ren_ptr rfl
      · refine os_cons rfl ?_ (os_cons rfl (renO_val2 rfl (u8_ids _)) (os_cons rfl (renO_val2 rfl ⟨trivial, trivial⟩) os_nil))
        exact renO_cells (RenL.cons (ren_own rfl) (RenL.cons (ren_mp rfl) (RenL.cons (ren_val rfl trivial) (RenL.cons (ren_val rfl trivial) (RenL.cons (ren_val rfl trivial) RenL.nil)))))
      · have h6 : ((img.map u8A).length : Int).tmod 64 = 0 := Decidable.not_not.1 h1
        rw [List.length_map, Int.tmod_eq_emod_of_nonneg (by omega)] at h6
        refine awp_ret ?_
        exact ⟨_, rfl, .inl ⟨⟨by omega, by omega, by omega⟩, rfl, rfl⟩⟩
end Go.Abs
namespace Go.Abs

attribute [local irreducible] AStep aops AWp Nx awM
set_option maxHeartbeats 0 in
theorem new_c (X : Nat → Prop) (n : Int) :
    ACalls (E0 X) 19 [.int .i64 n] [] (fun r H' => (1 ≤ n ∧ n ≤ 1048576 ∧ r = .ptr 0 0 ∧ H' = devH (Dv.fresh (List.replicate (n.toNat * 64) 0))) ∨ (¬ (1 ≤ n ∧ n ≤ 1048576) ∧ r = .nilp ∧ H' = [])) := by
  refine acalls_of Proofs.Tryd.func19 rfl Proofs.Tryd.ntmps19 (by kernel_rfl) rfl ?_
  intro hH hargs
  clear hH hargs
  refine awp_seq ?_
  refine awp_region rfl ?_
  repeat' (first | (refine Qa rfl ?_; try ((refine Q1 ?_); refine QX rfl rfl ?_)) | refine Qh ?_)
  refine awp_seq ?_
  refine awp_seq ?_
  refine awp_region rfl ?_
  repeat' (first | (refine Qa rfl ?_; try ((first | refine Q0 ?_ | refine Q2 rfl ?_ | refine Q5 rfl ?_); refine QX rfl rfl ?_)) | refine Qh ?_ | refine Qi rfl ?_ | refine Qy rfl rfl (fun _ => ?_) (fun _ => ?_))
  · rename_i h1
    refine awp_cond_true rfl ?_
    refine awp_seq ?_
    refine awp_region rfl ?_
    repeat' (first | (refine Qa rfl ?_; try ((refine Q1 ?_); refine QX rfl rfl ?_)) | refine Qh ?_)
    refine awp_ret ?_
    exact ⟨_, rfl, .inr ⟨fun hh => by omega, rfl, rfl⟩⟩
  · rename_i h1
    refine awp_cond_dec rfl (fun h2 => ?_) (fun h2 => ?_)
    · refine awp_seq ?_
      refine awp_region rfl ?_
      repeat' (first | (refine Qa rfl ?_; try ((refine Q1 ?_); refine QX rfl rfl ?_)) | refine Qh ?_)
      refine awp_ret ?_
      exact ⟨_, rfl, .inr ⟨fun hh => by omega, rfl, rfl⟩⟩
    · refine awp_skip ?_
      refine awp_seq ?_
      refine awp_region rfl ?_
      repeat' (refine Qa rfl ?_; try ((first | refine Q0 ?_ | refine Q2 rfl ?_); refine QX rfl rfl ?_))
      have hw : IntKind.i64.wrap (n * 64) = ((n.toNat * 64 : Nat) : Int) := by rw [wrap_in (by omega) (by omega)]; omega
      refine st_make (n := n.toNat * 64) rfl rfl rfl rfl rfl rfl (.inr rfl) (.inr rfl) rfl rfl hw hw ?_ ?_ ?_
      · show 1 * _ ≤ _
        omega
      · unfold maxLen; omega
      have hz : List.replicate (n.toNat * 64) (one1 [AV.int .u8 0] false) = (List.replicate (n.toNat * 64) (0 : UInt8)).map u8A := by rw [List.map_replicate]; rfl
      refine nx0 ?_
      refine bs rfl ?_
      refine st_call (fun _ => rfl) rfl ?_
      have hl := load_sl X (List.replicate (n.toNat * 64) 0) (by simp; omega)
      rw [← hz] at hl
      refine ACalls.mono hl ?_
      rintro r H' (⟨_, rfl, rfl⟩ | ⟨hno, _, _⟩)
      · refine nx rfl rfl ?_
        repeat' (first | (refine Qa rfl ?_; try ((refine Q1 ?_); refine QX rfl rfl ?_)) | refine Qh ?_)
        refine awp_ret ?_
        exact ⟨_, rfl, .inl ⟨by omega, by omega, rfl, rfl⟩⟩
      · exfalso
        apply hno
        unfold LoadOk
        rw [List.length_replicate]
        omega
end Go.Abs

