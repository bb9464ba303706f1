/- Slices, stores, new variables. -/
import Derived.Test.YtfldnfchjaaoeaaA4
namespace Go.Abs
section
variable {E : Env} {N n0 : Nat} {Q : Exit → St → Prop} {s : St} {ρ : Operand → AV} {H : Hp} {K : AV → Hp → Prop}
variable {d : Option Tmp} {ty : TypeId} {pos : String} {after : Array Edge} {g : Option (Nat × Bool)}

def plainEq : AV → Bool
  | .bool _ | .nilp | .ptr _ _ | .nilm | .mp _ | .nilf | .clo _ _ _ | .agg _ => true
  | _ => false
theorem eqA_agg {f : Nat} {t : TypeId} {cs : List AV} {y : AV} {b : Bool} (h : eqA E (f + 1) t (.agg cs) y = some b) : ∃ fs, (E.ti t).k = .struct fs ∧ (E.ti t).eq = true := by
  simp only [eqA] at h
  cases hk : (E.ti t).k <;> rw [hk] at h <;> cases y <;> simp at h
  exact ⟨_, rfl, h.1⟩
theorem run_eql {t : TypeId} {x y : AV} {b : Bool} (hok : E.Ok) (ht : Nat.blt t E.n = true) (hp : plainEq x = true) (hb : eqA E 8 t x y = some b) {m : Mu} {w : World} {u v : Value} (hu : E.Rel m w x u) (hv : E.Rel m w y v)
    (op : BinOp) (hop : op = .eql ∨ op = .neq) (xo yo : Operand) :
    (eqGuard op t xo yo u v).run E.P w = .ok () w ∧ (binOp op t u v).run E.P w = .ok (.bool (if op = .eql then b else !b)) w := by
  have he := eqA_sound hok 8 Op.maxDepth (by decide) t x y b u v ht hb hu hv
  constructor
  · have hg : u ≠ .nilIface ∧ (∀ cs, u = .agg cs → E.P.eqGuardType E.P.depth t = false) := by
      cases x <;> simp [plainEq] at hp <;> simp only [Env.Rel, Abs.Rel] at hu
      case agg cs =>
        obtain ⟨us, rfl, _⟩ := hu
        refine ⟨by simp, fun _ _ => ?_⟩
        obtain ⟨fs, hk, heq⟩ := eqA_agg hb
        obtain ⟨i, dd, _, h4, _, _, _, _, h5, _⟩ := tyOf_spec hok ht
        obtain ⟨F, h2, h3⟩ := tk_struct hok ht hk
        rw [h2] at h4; cases h4
        rw [heq] at h5
        simp only [eqOf, Bool.and_eq_true, Bool.not_eq_true'] at h5
        exact h5.2
      all_goals
        first
          | (subst hu; exact ⟨by simp, by simp⟩)
          | (obtain ⟨_, rfl, _⟩ := hu; exact ⟨by simp, by simp⟩)
          | (obtain ⟨_, _, rfl, _⟩ := hu; exact ⟨by simp, by simp⟩)
    unfold eqGuard
    cases u with
    | nilIface => exact absurd rfl hg.1
    | agg a => cases v <;> rcases hop with rfl | rfl <;> simp [hg.2 a rfl]
    | _ => rcases hop with rfl | rfl <;> simp
  · rcases hop with rfl | rfl <;>
      cases x <;> simp [plainEq] at hp <;> simp only [Env.Rel, Abs.Rel] at hu <;>
      first
        | (subst hu; simp [binOp, Op.equal, he])
        | (obtain ⟨_, rfl, _⟩ := hu; simp [binOp, Op.equal, he])
        | (obtain ⟨_, _, rfl, _⟩ := hu; simp [binOp, Op.equal, he])
theorem st_eql {x y : Operand} {t t' : TypeId} {b : Bool} (ht : Nat.blt t E.n = true) (hp : plainEq (ρ x) = true) (hb : eqA E 8 t (ρ x) (ρ y) = some b) (h : K (.bool b) H) :
    AStep E ⟨d, .binOp .eql t x y t', ty, pos, after, g⟩ ρ H K := by
  refine step_same _ (fun m w a hok hx hsim => ⟨.bool b, ?_, mk_bool⟩) h
  obtain ⟨h1, h2⟩ := run_eql hok ht hp hb (hx x) (hx y) .eql (.inl rfl) x y
  simp [execOp, h1, h2]
theorem st_neq {x y : Operand} {t t' : TypeId} {b : Bool} (ht : Nat.blt t E.n = true) (hp : plainEq (ρ x) = true) (hb : eqA E 8 t (ρ x) (ρ y) = some b) (h : K (.bool (!b)) H) :
    AStep E ⟨d, .binOp .neq t x y t', ty, pos, after, g⟩ ρ H K := by
  refine step_same _ (fun m w a hok hx hsim => ⟨.bool (!b), ?_, mk_bool⟩) h
  obtain ⟨h1, h2⟩ := run_eql hok ht hp hb (hx x) (hx y) .neq (.inr rfl) x y
  simp [execOp, h1, h2]

/-- What a nil check lets by. -/
def notNil : AV → Bool
  | .fp _ | .ptr _ _ | .pe _ _ _ => true
  | _ => false
theorem st_nilCheck {x : Operand} (hn : notNil (ρ x) = true) (h : K (ρ x) H) : AStep E ⟨d, .nilCheck x, ty, pos, after, g⟩ ρ H K := by
  refine step_same _ (fun m w a hok hx hsim => ⟨a.eval x, ?_, hx x⟩) h
  have h1 := hx x
  have : ∃ ad, a.eval x = .pointer (some ad) := by
    cases hq : ρ x <;> rw [hq] at hn h1 <;> simp [notNil] at hn <;> simp only [Env.Rel, Abs.Rel] at h1
    · obtain ⟨ad, _, h, _⟩ := h1; exact ⟨ad, h⟩
    · obtain ⟨ad, h, _⟩ := h1; exact ⟨ad, h⟩
    · obtain ⟨ad, h, _⟩ := h1; exact ⟨ad, h⟩
  obtain ⟨ad, had⟩ := this
  simp [execOp, had]
theorem st_nilCheckF {x : Operand} {f : FuncId} {c : List AV} (hn : ρ x = .clo (.func f) [] c) (h : K (ρ x) H) : AStep E ⟨d, .nilCheck x, ty, pos, after, g⟩ ρ H K := by
  refine step_same _ (fun m w a hok hx hsim => ⟨a.eval x, ?_, hx x⟩) h
  have h1 := hx x
  rw [hn] at h1
  simp only [Env.Rel, Abs.Rel] at h1
  obtain ⟨us, vs, h2, _⟩ := h1
  simp [execOp, h2]

/-! len, min, max, extract -/
def lenA : AV → Option Nat
  | .nils => some 0
  | .sl _ es => some es.length
  | .own _ _ n => some n
  | _ => none
theorem len_form {m : Mu} {w : World} {x : AV} {v : Value} {n : Nat} (hl : lenA x = some n) (hx : E.Rel m w x v) : ∃ A c, v = .slice A n c := by
  cases x <;> simp [lenA] at hl <;> simp only [Env.Rel, Abs.Rel] at hx
  · subst hl; exact ⟨_, _, hx⟩
  · subst hl; obtain ⟨A, c, vs, h, _⟩ := hx; exact ⟨_, _, h⟩
  · subst hl; obtain ⟨A, c, h, _⟩ := hx; exact ⟨_, _, h⟩
theorem st_len_sl {x : Operand} {t e : TypeId} {n : Nat} (ht : Nat.blt t E.n = true) (hk : (E.ti t).k = .sl e) (hl : lenA (ρ x) = some n) (h : K (.int .i64 n) H) :
    AStep E ⟨d, .call ⟨.builtin .len, #[x], #[t]⟩, ty, pos, after, g⟩ ρ H K := by
  refine step_same _ (fun m w a hok hx hsim => ⟨.int .i64 n, ?_, mk_int⟩) h
  obtain ⟨A, c, h1⟩ := len_form hl (hx x)
  simp [execOp, resolve, invoke, builtin, Builtin.len_, run_underlying (tk_sl hok ht hk), h1, goInt]
theorem st_len_str {x : Operand} {t : TypeId} {l : List UInt8} (ht : Nat.blt t E.n = true) (hk : (E.ti t).k = .str) (hl : ρ x = .str l) (h : K (.int .i64 l.length) H) :
    AStep E ⟨d, .call ⟨.builtin .len, #[x], #[t]⟩, ty, pos, after, g⟩ ρ H K := by
  refine step_same _ (fun m w a hok hx hsim => ⟨.int .i64 l.length, ?_, mk_int⟩) h
  have hxx := hx x
  rw [hl] at hxx
  have hsz : (ByteArray.mk l.toArray).size = l.length := rfl
  simp [execOp, resolve, invoke, builtin, Builtin.len_, run_underlying (tk_str hok ht hk), rel_str hxx, goInt, hsz]
theorem st_len_arr {x : Operand} {t e : TypeId} {n : Nat} (ht : Nat.blt t E.n = true) (hk : (E.ti t).k = .arr n e) (h : K (.int .i64 n) H) :
    AStep E ⟨d, .call ⟨.builtin .len, #[x], #[t]⟩, ty, pos, after, g⟩ ρ H K := by
  refine step_same _ (fun m w a hok hx hsim => ⟨.int .i64 n, ?_, mk_int⟩) h
  simp [execOp, resolve, invoke, builtin, Builtin.len_, run_underlying (tk_arr hok ht hk), goInt]

theorem st_extract {x : Operand} {i : Nat} {vs : List AV} {r : AV} (hx : ρ x = .tup vs) (hr : vs[i]? = some r) (h : K r H) : AStep E ⟨d, .extract x i, ty, pos, after, g⟩ ρ H K := by
  refine step_same r (fun m w a hok hrel hsim => ?_) h
  have h1 := hrel x
  rw [hx] at h1
  simp only [Env.Rel, Abs.Rel] at h1
  obtain ⟨us, h2, h3⟩ := h1
  obtain ⟨u, h4, h5⟩ := h3.get i hr
  exact ⟨u, by simp [execOp, h2, Instr.extract, h4], h5⟩
theorem st_min {x y : Operand} {t t' : TypeId} {k : IntKind} {a b : Int} (hx : ρ x = .int k a) (hy : ρ y = .int k b) (h : K (.int k (min a b)) H) :
    AStep E ⟨d, .call ⟨.builtin .min, #[x, y], #[t, t']⟩, ty, pos, after, g⟩ ρ H K := by
  refine step_same _ (fun m w ac hok hr hsim => ⟨.int k (min a b), ?_, mk_int⟩) h
  have h1 := hr x; have h2 := hr y
  rw [hx] at h1; rw [hy] at h2
  have e : min a b = if b < a then b else a := by simp only [Int.min_def]; split <;> split <;> omega
  simp [execOp, resolve, invoke, builtin, Builtin.min_, Builtin.min2, rel_int h1, rel_int h2, e]
theorem st_max {x y : Operand} {t t' : TypeId} {k : IntKind} {a b : Int} (hx : ρ x = .int k a) (hy : ρ y = .int k b) (h : K (.int k (max a b)) H) :
    AStep E ⟨d, .call ⟨.builtin .max, #[x, y], #[t, t']⟩, ty, pos, after, g⟩ ρ H K := by
  refine step_same _ (fun m w ac hok hr hsim => ⟨.int k (max a b), ?_, mk_int⟩) h
  have h1 := hr x; have h2 := hr y
  rw [hx] at h1; rw [hy] at h2
  have e : max a b = if a < b then b else a := by simp only [Int.max_def]; split <;> split <;> omega
  simp [execOp, resolve, invoke, builtin, Builtin.max_, Builtin.max2, rel_int h1, rel_int h2, e]

/-! Elements of slices and of strings -/
theorem flat_length {vs : List Value} {k : Nat} (hk : ∀ u ∈ vs, u.cells.size = k) : (flat vs).length = vs.length * k := by
  induction vs with
  | nil => simp [flat]
  | cons v vs ih =>
    have h1 : v.cells.toList.length = k := by simpa using hk v (by simp)
    have h2 := ih fun u hu => hk u (by simp [hu])
    simp only [flat, List.flatMap_cons, List.length_append, h1, List.length_cons] at h2 ⊢
    rw [h2, Nat.add_mul]; omega
theorem flat_drop {vs : List Value} {k : Nat} (hk : ∀ u ∈ vs, u.cells.size = k) (n : Nat) : flat (vs.drop n) = (flat vs).drop (n * k) := by
  induction n generalizing vs with
  | zero => simp
  | succ n ih =>
    cases vs with
    | nil => simp [flat]
    | cons v vs =>
      have h1 : v.cells.toList.length = k := by simpa using hk v (by simp)
      have h2 := ih (vs := vs) fun u hu => hk u (by simp [hu])
      have e1 : flat (v :: vs) = v.cells.toList ++ flat vs := by simp [flat]
      have e2 : (n + 1) * k = v.cells.toList.length + n * k := by rw [h1, Nat.add_mul]; omega
      rw [List.drop_succ_cons, h2, e1, e2, List.drop_length_add_append]
theorem flat_take {vs : List Value} {k : Nat} (hk : ∀ u ∈ vs, u.cells.size = k) (n : Nat) : flat (vs.take n) = (flat vs).take (n * k) := by
  induction n generalizing vs with
  | zero => simp [flat]
  | succ n ih =>
    cases vs with
    | nil => simp [flat]
    | cons v vs =>
      have h1 : v.cells.toList.length = k := by simpa using hk v (by simp)
      have h2 := ih (vs := vs) fun u hu => hk u (by simp [hu])
      have e1 : ∀ vs, flat (v :: vs) = v.cells.toList ++ flat vs := fun vs => by simp [flat]
      have e2 : (n + 1) * k = v.cells.toList.length + n * k := by rw [h1, Nat.add_mul]; omega
      rw [List.take_succ_cons, e1, e1, e2, List.take_length_add_append, h2]
theorem flat_append (us vs : List Value) : flat (us ++ vs) = flat us ++ flat vs := by simp [flat]

theorem add_add (a : Addr) (i j : Nat) : (a.add i).add j = a.add (i + j) := by
  unfold Addr.add; by_cases h1 : i = 0 <;> by_cases h2 : j = 0 <;> simp [h1, h2, Nat.add_assoc]
theorem add_block (a : Addr) (i : Nat) : (a.add i).block = a.block := by unfold Addr.add; split <;> rfl

theorem fz_some {sz : Cx} {m : Mu} {w : World} {A : Option Addr} {es : List AV} {vs : List Value} {k : Nat} (h0 : 0 < k) (hl : 0 < es.length) (hr : RelL sz m w es vs) (hk : ∀ u ∈ vs, u.cells.size = k) (hf : Fz sz m w A (flat vs)) :
    ∃ a, A = some a ∧ a.block < w.heap.size ∧ .blk a.block ∉ m ∧ ¬ sz.X a.block ∧ ∀ (j : Nat) (u : Value), (flat vs)[j]? = some u → w.cell? (a.add j) = some u := by
  apply hf
  intro he
  have hfl := flat_length hk
  rw [he, hr.length] at hfl
  have : 0 < es.length * k := Nat.mul_pos hl h0
  simp at hfl
  omega
theorem st_index_sl {x i : Operand} {t e : TypeId} {k : Nat} {es : List AV} {kk : IntKind} {n : Int} {j : Nat} {y : AV} (ht : Nat.blt t E.n = true) (htk : (E.ti t).k = .sl e) (he : Nat.blt e E.n = true)
    (hx : ρ x = .sl k es) (hi : ρ i = .int kk n) (hk : Nat.beq (E.ti e).sz k = true) (hk0 : Nat.blt 0 k = true) (hy : es[j]? = some y) (hn : n = (j : Int)) (hkn : known y = true) (h : K (.fp (cellsA y)) H) :
    AStep E ⟨d, .indexAddr t x i, ty, pos, after, g⟩ ρ H K := by
  refine step_same _ (fun m w a hok hr hsim => ?_) h
  have h1 := hr x; have h2 := hr i
  rw [hx] at h1; rw [hi] at h2
  simp only [Env.Rel, Abs.Rel] at h1
  obtain ⟨A, c, vs, h3, h4, h5, h6, h7, h8⟩ := h1
  have hkk : (E.ti e).sz = k := Nat.eq_of_beq_eq_true hk
  have hj : j < es.length := (List.getElem?_eq_some_iff.1 hy).1
  obtain ⟨u, hu, hru⟩ := h6.get j hy
  have hcr := cells_rel hru hkn
  subst hn
  have hin : (0 : Int) ≤ (j : Int) ∧ (j : Int) < (es.length : Int) := by omega
  obtain ⟨ad, rfl, h10, h11, hX, h12⟩ := fz_some (by simpa using hk0) (by omega) h6 h7 h8
  refine ⟨.pointer (some (ad.add (j * k))), ?_, ?_⟩
  · simp only [execOp, Instr.indexAt, Sem.run_bind, rel_int h2, asIntOf, Sem.run_pure, Result.andThen_ok, run_underlying (tk_sl hok ht htk), h3, hin.1, hin.2, and_self, if_true, run_size hok he, hkk, Int.toNat_natCast]
  · show Abs.Rel _ _ _ _ _
    simp only [Abs.Rel]
    refine ⟨_, u.cells.toList, rfl, hcr, fun hne => ?_⟩
    have hks : u.cells.size = k := h7 u (List.mem_of_getElem? hu)
    refine ⟨_, rfl, by rw [add_block]; exact h10, by rw [add_block]; exact h11, by rw [add_block]; exact hX, fun q z hz => ?_⟩
    rw [add_add]
    refine h12 _ z ?_
    rw [flat_get h7 hu q ?_, hz]
    have := (List.getElem?_eq_some_iff.1 hz).1
    simpa [hks] using this
theorem st_index_own {x i : Operand} {t e e' : TypeId} {id lo len : Nat} {es : List AV} {kk : IntKind} {n : Int} {j : Nat} (ht : Nat.blt t E.n = true) (htk : (E.ti t).k = .sl e) (he : Nat.blt e E.n = true) (he' : Nat.blt e' E.n = true)
    (hx : ρ x = .own id lo len) (hi : ρ i = .int kk n) (ho : H[id]? = some (some (.arr es e'))) (hk : Nat.beq (E.ti e).sz (E.ti e').sz = true) (hn : n = (j : Int)) (hj : j < len) (h : K (.pe id (lo + j) 0) H) :
    AStep E ⟨d, .indexAddr t x i, ty, pos, after, g⟩ ρ H K := by
  refine step_same _ (fun m w a hok hr hsim => ?_) h
  have h1 := hr x; have h2 := hr i
  rw [hx] at h1; rw [hi] at h2
  simp only [Env.Rel, Abs.Rel] at h1
  obtain ⟨A, c, h3, h4, h5, h6, h7, h8⟩ := h1
  have hkk : (E.ti e).sz = (E.ti e').sz := Nat.eq_of_beq_eq_true hk
  subst hn
  have hin : (0 : Int) ≤ (j : Int) ∧ (j : Int) < (len : Int) := by omega
  obtain ⟨q, hq, hob⟩ := hsim.live id _ ho
  cases q with
  | dead => exact hob.elim
  | nil => have := h7 hq; omega
  | blk b =>
    obtain ⟨e2, k2, h9, h10, h11⟩ := h8 b hq
    have hA := h11 (.inl (by omega))
    subst hA
    have hsz2 : E.cx.sz e' = (E.ti e').sz := by obtain ⟨_, _, _, _, _, _, _, _, _, h⟩ := tyOf_spec hok he'; exact h
    have hee : e2 = e' := by
      obtain ⟨us, vs, h12, _⟩ := hob
      unfold World.shape? at h9
      rw [h12] at h9
      simp at h9
      exact h9.1.symm
    subst hee
    refine ⟨.pointer (some ((⟨b, lo * E.cx.sz e2, none⟩ : Addr).add (j * (E.ti e2).sz))), ?_, ?_⟩
    · simp only [execOp, Instr.indexAt, Sem.run_bind, rel_int h2, asIntOf, Sem.run_pure, Result.andThen_ok, run_underlying (tk_sl hok ht htk), h3, hin.1, hin.2, and_self, if_true, run_size hok he, hkk, Int.toNat_natCast]
    · show Abs.Rel _ _ _ _ _
      simp only [Abs.Rel]
      refine ⟨_, rfl, h6, fun b' hb' => ?_⟩
      rw [hq] at hb'
      cases hb'
      refine ⟨e2, k2, h9, ?_⟩
      rw [hsz2]
      have : ∀ o q, (⟨b, o, none⟩ : Addr).add q = ⟨b, o + q, none⟩ := fun o q => by unfold Addr.add; split <;> simp_all
      rw [this, ← Nat.add_mul, Nat.add_zero]
/-- A byte of a string. -/
theorem st_index_str {x i : Operand} {t : TypeId} {l : List UInt8} {kk : IntKind} {n : Int} {j : Nat} {c : UInt8} (ht : Nat.blt t E.n = true) (htk : (E.ti t).k = .str)
    (hx : ρ x = .str l) (hi : ρ i = .int kk n) (hy : l[j]? = some c) (hn : n = (j : Int)) (h : K (.int .u8 c.toNat) H) : AStep E ⟨d, .index t x i, ty, pos, after, g⟩ ρ H K := by
  refine step_same _ (fun m w a hok hr hsim => ⟨.int .u8 c.toNat, ?_, mk_int⟩) h
  have h1 := hr x; have h2 := hr i
  rw [hx] at h1; rw [hi] at h2
  subst hn
  have hj : j < l.length := (List.getElem?_eq_some_iff.1 hy).1
  have hb : (ByteArray.mk l.toArray)[j]? = some c := by
    have e : (ByteArray.mk l.toArray)[j]? = l[j]? := by
      rw [getElem?_def, getElem?_def]
      rfl
    rw [e, hy]
  simp only [execOp, Instr.index, Sem.run_bind, rel_int h2, asIntOf, Sem.run_pure, Result.andThen_ok, run_underlying (tk_str hok ht htk), rel_str h1]
  simp [hb]
/-- An element of an array value. -/
theorem st_index_arr {x i : Operand} {t e : TypeId} {N : Nat} {cs : List AV} {kk : IntKind} {n : Int} {j : Nat} {r : AV} (ht : Nat.blt t E.n = true) (htk : (E.ti t).k = .arr N e) (he : Nat.blt e E.n = true)
    (hx : ρ x = .agg cs) (hi : ρ i = .int kk n) (hn : n = (j : Int)) (hj : j < N) (hr : partA (E.ti e) cs (j * (E.ti e).sz) = some r) (h : K r H) : AStep E ⟨d, .index t x i, ty, pos, after, g⟩ ρ H K := by
  refine step_same r (fun m w a hok hrel hsim => ?_) h
  have h1 := hrel x; have h2 := hrel i
  rw [hx] at h1; rw [hi] at h2
  simp only [Env.Rel, Abs.Rel] at h1
  obtain ⟨us, h3, h4⟩ := h1
  obtain ⟨v, h5, h6⟩ := run_partA hok he hr h4
  subst hn
  have hin : (0 : Int) ≤ (j : Int) ∧ (j : Int) < (N : Int) := by omega
  refine ⟨v, ?_, h6⟩
  simp only [execOp, Instr.index, Sem.run_bind, rel_int h2, asIntOf, Sem.run_pure, Result.andThen_ok, run_underlying (tk_arr hok ht htk), h3, hin.1, hin.2, and_self, if_true, run_size hok he, Int.toNat_natCast, h5]
end
end Go.Abs
