/- The operations, one law each: numbers, strings, tests, places in memory. -/
import Derived.Test.YtfldnfchjaaoeaaA2
namespace Go.Abs
section
variable {E : Env} {N n0 : Nat} {Q : Exit → St → Prop} {s : St} {ρ : Operand → AV} {H : Hp} {K : AV → Hp → Prop}
variable {d : Option Tmp} {ty : TypeId} {pos : String} {after : Array Edge} {g : Option (Nat × Bool)}

theorem step_same {o : Oper} (r : AV) (hrun : ∀ (m : Mu) (w : World) (a : Act), E.Ok → (∀ x, E.Rel m w (ρ x) (a.eval x)) → E.Sim m w H →
    ∃ v, (execOp a.eval o).run E.P w = .ok (.value v) w ∧ E.Rel m w r v) (h : K r H) : AStep E o ρ H K := by
  intro m w a hok hx hsim _ Q
  obtain ⟨v, h1, h2⟩ := hrun m w a hok hx hsim
  unfold Oper.wp
  rw [h1]
  exact ⟨v, rfl, m, r, H, Ext.refl m w, h2, hsim, h⟩
theorem step_any {o : Oper} (hrun : ∀ (m : Mu) (w : World) (a : Act), E.Ok → (∀ x, E.Rel m w (ρ x) (a.eval x)) → E.Sim m w H →
    ∃ v w' m' r H', (execOp a.eval o).run E.P w = .ok (.value v) w' ∧ Ext m w m' w' ∧ E.Rel m' w' r v ∧ E.Sim m' w' H' ∧ K r H') : AStep E o ρ H K := by
  intro m w a hok hx hsim _ Q
  obtain ⟨v, w', m', r, H', h1, h2, h3, h4, h5⟩ := hrun m w a hok hx hsim
  unfold Oper.wp
  rw [h1]
  exact ⟨v, rfl, m', r, H', h2, h3, h4, h5⟩
theorem step_skip {o : Oper} (hrun : ∀ (m : Mu) (w : World) (a : Act), E.Ok → (∀ x, E.Rel m w (ρ x) (a.eval x)) → E.Sim m w H →
    ∃ w' m' H', (execOp a.eval o).run E.P w = .ok .skip w' ∧ Ext m w m' w' ∧ E.Sim m' w' H' ∧ K (.tup []) H') : AStep E o ρ H K := by
  intro m w a hok hx hsim _ Q
  obtain ⟨w', m', H', h1, h2, h3, h4⟩ := hrun m w a hok hx hsim
  unfold Oper.wp
  rw [h1]
  exact ⟨undef, rfl, m', .tup [], H', h2, rel_undef, h3, h4⟩

theorem st_move {x : Operand} (h : K (ρ x) H) : AStep E ⟨d, .move x, ty, pos, after, g⟩ ρ H K :=
  step_same (ρ x) (fun _ _ a _ hx _ => ⟨a.eval x, rfl, hx x⟩) h
theorem st_assign {x : Operand} (h : K (ρ x) H) : AStep E ⟨d, .assign x, ty, pos, after, g⟩ ρ H K :=
  step_same (ρ x) (fun _ _ a _ hx _ => ⟨a.eval x, rfl, hx x⟩) h

theorem rel_bool {m : Mu} {w : World} {b : Bool} {v : Value} (h : E.Rel m w (.bool b) v) : v = .bool b := by simpa [Env.Rel, Rel] using h
theorem rel_int {m : Mu} {w : World} {k : IntKind} {n : Int} {v : Value} (h : E.Rel m w (.int k n) v) : v = .int k n := by simpa [Env.Rel, Rel] using h
theorem rel_str {m : Mu} {w : World} {s : List UInt8} {v : Value} (h : E.Rel m w (.str s) v) : v = .string ⟨s.toArray⟩ := by simpa [Env.Rel, Rel] using h
theorem mk_bool {m : Mu} {w : World} {b : Bool} : E.Rel m w (.bool b) (.bool b) := by simp [Env.Rel, Rel]
theorem mk_int {m : Mu} {w : World} {k : IntKind} {n : Int} : E.Rel m w (.int k n) (.int k n) := by simp [Env.Rel, Rel]
theorem mk_str {m : Mu} {w : World} {s : List UInt8} : E.Rel m w (.str s) (.string ⟨s.toArray⟩) := by simp [Env.Rel, Rel]

def pickA : AV → AV → AV → Option AV
  | .bool true, x, _ => some x
  | .bool false, _, y => some y
  | _, _, _ => none
theorem st_pick {c x y : Operand} {r : AV} (hp : pickA (ρ c) (ρ x) (ρ y) = some r) (h : K r H) : AStep E ⟨d, .pick c x y, ty, pos, after, g⟩ ρ H K := by
  refine step_same r (fun m w a _ hx _ => ?_) h
  have hc := hx c
  unfold pickA at hp
  generalize hq : ρ c = q at hp hc
  split at hp
  · cases hp
    exact ⟨a.eval x, by simp [execOp, rel_bool hc, asBool], hx x⟩
  · cases hp
    exact ⟨a.eval y, by simp [execOp, rel_bool hc, asBool], hx y⟩
  · cases hp

/-- Numbers: what needs no condition. -/
def ibits (op : BinOp) (k : IntKind) (a b : Int) : Int :=
  k.wrap (match op with
    | .and => (BitVec.ofInt k.bits a &&& BitVec.ofInt k.bits b).toNat
    | .or => (BitVec.ofInt k.bits a ||| BitVec.ofInt k.bits b).toNat
    | .xor => (BitVec.ofInt k.bits a ^^^ BitVec.ofInt k.bits b).toNat
    | _ => (BitVec.ofInt k.bits a &&& ~~~BitVec.ofInt k.bits b).toNat)
def binA : BinOp → AV → AV → Option AV
  | .add, .int k a, .int j b => if k = j then some (.int k (k.wrap (a + b))) else none
  | .sub, .int k a, .int j b => if k = j then some (.int k (k.wrap (a - b))) else none
  | .mul, .int k a, .int j b => if k = j then some (.int k (k.wrap (a * b))) else none
  | .and, .int k a, .int j b => if k = j then some (.int k (ibits .and k a b)) else none
  | .or, .int k a, .int j b => if k = j then some (.int k (ibits .or k a b)) else none
  | .xor, .int k a, .int j b => if k = j then some (.int k (ibits .xor k a b)) else none
  | .andNot, .int k a, .int j b => if k = j then some (.int k (ibits .andNot k a b)) else none
  | .eql, .int k a, .int j b => if k = j then some (.bool (decide (a = b))) else none
  | .neq, .int k a, .int j b => if k = j then some (.bool (decide (a ≠ b))) else none
  | .lss, .int k a, .int j b => if k = j then some (.bool (decide (a < b))) else none
  | .leq, .int k a, .int j b => if k = j then some (.bool (decide (a ≤ b))) else none
  | .gtr, .int k a, .int j b => if k = j then some (.bool (decide (b < a))) else none
  | .geq, .int k a, .int j b => if k = j then some (.bool (decide (b ≤ a))) else none
  | .eql, .str a, .str b => some (.bool (decide (a = b)))
  | .neq, .str a, .str b => some (.bool (decide (a ≠ b)))
  | .lss, .str a, .str b => some (.bool (Op.bytesLess a b))
  | _, _, _ => none

theorem beq_dec {α : Type} [BEq α] [LawfulBEq α] [DecidableEq α] (a b : α) : (a == b) = decide (a = b) := by by_cases h : a = b <;> simp [h]
theorem binA_sound {op : BinOp} {x y r : AV} (h : binA op x y = some r) (t : TypeId) {m : Mu} {w : World} {u v : Value} (hu : E.Rel m w x u) (hv : E.Rel m w y v) (xo yo : Operand) :
    ∃ z, (do eqGuard op t xo yo u v; binOp op t u v : Sem Value).run E.P w = .ok z w ∧ E.Rel m w r z := by
  unfold binA at h
  split at h
  case h_14 | h_15 | h_16 =>
    cases rel_str hu; cases rel_str hv; cases h
    refine ⟨_, by simp [eqGuard, binOp, Op.stringOp, ByteArray.toList_mk, beq_dec]; try rfl, ?_⟩
    simp [Env.Rel, Rel]
  case h_17 => cases h
  all_goals
    cases rel_int hu; cases rel_int hv
    split at h
    · rename_i hk; subst hk; cases h
      refine ⟨_, by simp [eqGuard, binOp, Op.intArith, Op.intBits, Op.intCmp, beq_dec, bne]; try rfl, ?_⟩
      simp [Env.Rel, Rel, ibits]
    · cases h
theorem st_bin {op : BinOp} {x y : Operand} {t t' : TypeId} {r : AV} (hr : binA op (ρ x) (ρ y) = some r) (h : K r H) : AStep E ⟨d, .binOp op t x y t', ty, pos, after, g⟩ ρ H K := by
  refine step_same r (fun m w a _ hx _ => ?_) h
  obtain ⟨z, h1, h2⟩ := binA_sound (E := E) hr t (hx x) (hx y) x y
  refine ⟨z, ?_, h2⟩
  simp only [execOp, Sem.run_bind] at h1 ⊢
  rw [h1]
  rfl

/-! Conversions of numbers, shifts, division, the one-operand signs -/
theorem st_quo {x y : Operand} {t t' : TypeId} {k : IntKind} {a b : Int} (hx : ρ x = .int k a) (hy : ρ y = .int k b) (hb : b ≠ 0) (h : K (.int k (k.wrap (a.tdiv b))) H) :
    AStep E ⟨d, .binOp .quo t x y t', ty, pos, after, g⟩ ρ H K := by
  refine step_same _ (fun m w ac _ hr _ => ⟨_, ?_, mk_int⟩) h
  have h1 := hr x; have h2 := hr y
  rw [hx] at h1; rw [hy] at h2
  simp [execOp, rel_int h1, rel_int h2, eqGuard, binOp, Op.intDiv, hb]
theorem st_rem {x y : Operand} {t t' : TypeId} {k : IntKind} {a b : Int} (hx : ρ x = .int k a) (hy : ρ y = .int k b) (hb : b ≠ 0) (h : K (.int k (a.tmod b)) H) :
    AStep E ⟨d, .binOp .rem t x y t', ty, pos, after, g⟩ ρ H K := by
  refine step_same _ (fun m w ac _ hr _ => ⟨_, ?_, mk_int⟩) h
  have h1 := hr x; have h2 := hr y
  rw [hx] at h1; rw [hy] at h2
  simp [execOp, rel_int h1, rel_int h2, eqGuard, binOp, Op.intDiv, hb]
theorem st_shl {x y : Operand} {t t' : TypeId} {k j : IntKind} {a b : Int} (hx : ρ x = .int k a) (hy : ρ y = .int j b) (hb : 0 ≤ b) (h : K (.int k (k.wrap (a * 2 ^ (min b.toNat k.bits)))) H) :
    AStep E ⟨d, .binOp .shl t x y t', ty, pos, after, g⟩ ρ H K := by
  refine step_same _ (fun m w ac _ hr _ => ⟨_, ?_, mk_int⟩) h
  have h1 := hr x; have h2 := hr y
  rw [hx] at h1; rw [hy] at h2
  have hn : ¬ b < 0 := by omega
  simp [execOp, rel_int h1, rel_int h2, eqGuard, binOp, Op.shift, hn]
theorem st_shr {x y : Operand} {t t' : TypeId} {k j : IntKind} {a b : Int} (hx : ρ x = .int k a) (hy : ρ y = .int j b) (hb : 0 ≤ b) (h : K (.int k (a.fdiv (2 ^ (min b.toNat k.bits)))) H) :
    AStep E ⟨d, .binOp .shr t x y t', ty, pos, after, g⟩ ρ H K := by
  refine step_same _ (fun m w ac _ hr _ => ⟨_, ?_, mk_int⟩) h
  have h1 := hr x; have h2 := hr y
  rw [hx] at h1; rw [hy] at h2
  have hn : ¬ b < 0 := by omega
  simp [execOp, rel_int h1, rel_int h2, eqGuard, binOp, Op.shift, hn]
def unA : UnOp → AV → Option AV
  | .neg, .int k n => some (.int k (k.wrap (0 - n)))
  | .xor, .int k n => some (.int k (ibits .xor k (if k.signed then -1 else k.max) n))
  | .not, .bool b => some (.bool (!b))
  | _, _ => none
theorem st_un {op : UnOp} {x : Operand} {t : TypeId} {r : AV} (hr : unA op (ρ x) = some r) (h : K r H) : AStep E ⟨d, .unOp op t x, ty, pos, after, g⟩ ρ H K := by
  refine step_same r (fun m w a _ hx _ => ?_) h
  have hc := hx x
  unfold unA at hr
  generalize hq : ρ x = q at hr hc
  split at hr
  · cases hr
    exact ⟨_, by simp [execOp, rel_int hc, Op.unary, Op.intArith], mk_int⟩
  · cases hr
    exact ⟨_, by simp [execOp, rel_int hc, Op.unary, Op.intBits]; rfl, mk_int⟩
  · cases hr
    exact ⟨_, by simp [execOp, rel_bool hc, Op.unary], mk_bool⟩
  · cases hr

/-! What the table says of a type -/
theorem tyOf_spec {t : TypeId} (hok : E.Ok) (ht : Nat.blt t E.n = true) : ∃ i d, E.P.info? t = some i ∧ E.P.underlying t = some d ∧ i.size = (E.ti t).sz ∧ i.bytes = (E.ti t).bt ∧ tkOf d = (E.ti t).k ∧
    (i.zero.map fun v => v.cells.toList.map ofV1) = (E.ti t).z ∧ eqOf E.P t d = (E.ti t).eq ∧ E.cx.sz t = (E.ti t).sz := by
  have h := hok.2.1 t (by simpa using ht)
  unfold tyOf at h
  cases hi : E.P.info? t with
  | none => rw [hi] at h; cases h
  | some i =>
    cases hd : E.P.underlying t with
    | none => rw [hi, hd] at h; cases h
    | some d =>
      rw [hi, hd] at h
      simp only [Option.some.injEq] at h
      rw [← h]
      exact ⟨i, d, rfl, rfl, rfl, rfl, rfl, rfl, rfl, by simp [Env.cx, Env.sz, hi]⟩
theorem tk_int {t : TypeId} {k : IntKind} (hok : E.Ok) (ht : Nat.blt t E.n = true) (h : (E.ti t).k = .int k) : E.P.underlying t = some (.int k) := by
  obtain ⟨i, d, _, h2, _, _, h5, _⟩ := tyOf_spec hok ht
  rw [h] at h5
  unfold tkOf at h5
  split at h5 <;> simp_all
theorem tk_bool {t : TypeId} (hok : E.Ok) (ht : Nat.blt t E.n = true) (h : (E.ti t).k = .bool) : E.P.underlying t = some .bool := by
  obtain ⟨i, d, _, h2, _, _, h5, _⟩ := tyOf_spec hok ht
  rw [h] at h5
  unfold tkOf at h5
  split at h5 <;> simp_all
theorem tk_str {t : TypeId} (hok : E.Ok) (ht : Nat.blt t E.n = true) (h : (E.ti t).k = .str) : E.P.underlying t = some .string := by
  obtain ⟨i, d, _, h2, _, _, h5, _⟩ := tyOf_spec hok ht
  rw [h] at h5
  unfold tkOf at h5
  split at h5 <;> simp_all
theorem tk_sl {t e : TypeId} (hok : E.Ok) (ht : Nat.blt t E.n = true) (h : (E.ti t).k = .sl e) : E.P.underlying t = some (.slice e) := by
  obtain ⟨i, d, _, h2, _, _, h5, _⟩ := tyOf_spec hok ht
  rw [h] at h5
  unfold tkOf at h5
  split at h5 <;> simp_all
theorem tk_ptr {t e : TypeId} (hok : E.Ok) (ht : Nat.blt t E.n = true) (h : (E.ti t).k = .ptr e) : E.P.underlying t = some (.pointer e) := by
  obtain ⟨i, d, _, h2, _, _, h5, _⟩ := tyOf_spec hok ht
  rw [h] at h5
  unfold tkOf at h5
  split at h5 <;> simp_all
theorem tk_arr {t e : TypeId} {n : Nat} (hok : E.Ok) (ht : Nat.blt t E.n = true) (h : (E.ti t).k = .arr n e) : E.P.underlying t = some (.array n e) := by
  obtain ⟨i, d, _, h2, _, _, h5, _⟩ := tyOf_spec hok ht
  rw [h] at h5
  unfold tkOf at h5
  split at h5 <;> simp_all
theorem tk_map {t k e : TypeId} (hok : E.Ok) (ht : Nat.blt t E.n = true) (h : (E.ti t).k = .map k e) : E.P.underlying t = some (.map k e) := by
  obtain ⟨i, d, _, h2, _, _, h5, _⟩ := tyOf_spec hok ht
  rw [h] at h5
  unfold tkOf at h5
  split at h5 <;> simp_all
theorem tk_struct {t : TypeId} {fs : List (Nat × TypeId)} (hok : E.Ok) (ht : Nat.blt t E.n = true) (h : (E.ti t).k = .struct fs) :
    ∃ F : Array Field, E.P.underlying t = some (.struct F) ∧ F.toList.map (fun f => (f.offset, f.type)) = fs := by
  obtain ⟨i, d, _, h2, _, _, h5, _⟩ := tyOf_spec hok ht
  rw [h] at h5
  unfold tkOf at h5
  split at h5 <;> simp_all
theorem tk_fn {t : TypeId} (hok : E.Ok) (ht : Nat.blt t E.n = true) (h : (E.ti t).k = .fn) : ∃ p q r, E.P.underlying t = some (.func p q r) := by
  obtain ⟨i, d, _, h2, _, _, h5, _⟩ := tyOf_spec hok ht
  rw [h] at h5
  unfold tkOf at h5
  split at h5 <;> simp_all
theorem tk_ifc {t : TypeId} (hok : E.Ok) (ht : Nat.blt t E.n = true) (h : (E.ti t).k = .ifc) : ∃ p, E.P.underlying t = some (.interface p) := by
  obtain ⟨i, d, _, h2, _, _, h5, _⟩ := tyOf_spec hok ht
  rw [h] at h5
  unfold tkOf at h5
  split at h5 <;> simp_all
theorem run_agg {t : TypeId} (hok : E.Ok) (ht : Nat.blt t E.n = true) (w : World) : (isAgg t).run E.P w = .ok (E.ti t).k.agg w := by
  obtain ⟨i, d, _, h2, _, _, h5, _⟩ := tyOf_spec hok ht
  rw [← h5]
  unfold isAgg
  rw [Sem.run_bind, run_underlying h2 w]
  cases d <;> simp [tkOf, TK.agg]
theorem run_size {t : TypeId} (hok : E.Ok) (ht : Nat.blt t E.n = true) (w : World) : (sizeOf t).run E.P w = .ok (E.ti t).sz w := by
  obtain ⟨i, d, h1, _, h3, _⟩ := tyOf_spec hok ht
  simp [sizeOf, typeInfo, h1, h3]

theorem st_conv {x : Operand} {t u : TypeId} {k j : IntKind} {n : Int} (hx : ρ x = .int k n) (ht : Nat.blt t E.n = true) (hu : Nat.blt u E.n = true) (hk : (E.ti u).k = .int j) (h : K (.int j (j.wrap n)) H) :
    AStep E ⟨d, .convert t u x, ty, pos, after, g⟩ ρ H K := by
  refine step_same _ (fun m w a hok hr _ => ⟨_, ?_, mk_int⟩) h
  have h1 := hr x
  rw [hx] at h1
  obtain ⟨i, dd, _, h2, _⟩ := tyOf_spec hok ht
  simp [execOp, convert, run_underlying h2, run_underlying (tk_int hok hu hk), rel_int h1, Conv.intToInt]
theorem st_conv_str {x : Operand} {t u : TypeId} {l : List UInt8} (hx : ρ x = .str l) (ht : Nat.blt t E.n = true) (hu : Nat.blt u E.n = true) (hk : (E.ti u).k = .str) (h : K (.str l) H) :
    AStep E ⟨d, .convert t u x, ty, pos, after, g⟩ ρ H K := by
  refine step_same _ (fun m w a hok hr _ => ⟨_, ?_, mk_str⟩) h
  have h1 := hr x
  rw [hx] at h1
  obtain ⟨i, dd, _, h2, _⟩ := tyOf_spec hok ht
  simp [execOp, convert, run_underlying h2, run_underlying (tk_str hok hu hk), rel_str h1]
end
end Go.Abs
