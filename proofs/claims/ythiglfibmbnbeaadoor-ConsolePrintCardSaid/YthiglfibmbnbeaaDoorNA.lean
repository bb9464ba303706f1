/- The Console seat: environment; the panic of console; the entries of bytealg. Joined texts, each with what its own name promises; no condition beyond those stated. -/
import Derived.Test.YthiglfibmbnbeaaDoorMC
import Derived.Test.YthiglfibmbnbeaaDoorMB
import Derived.Test.YthiglfibmbnbeaaDoorMD
import Derived.Lib.Bytealg
import Derived.Laws.RangeAny
import Derived.Laws.RangeString
namespace Go.Abs

def powTab : List Int := [1, 10, 100, 1000, 10000, 100000, 1000000, 10000000, 100000000, 1000000000, 10000000000, 100000000000, 1000000000000, 10000000000000, 100000000000000, 1000000000000000, 10000000000000000, 100000000000000000, 1000000000000000000, 10000000000000000000]
noncomputable def E0 (X : Nat → Prop) : Env := { P := Proofs.Tryd.prog, ti := tiT, n := 142, G := fun g => if g = 3 then .gp .u64 powTab else .any, X := X }
theorem E0_ok (X : Nat → Prop) : (E0 X).Ok := ⟨mixed, ti_ok, fun _ => by { simp only [E0]; split <;> simp [IdsLt] }⟩



/-- The index of the first c, or -1. -/
def idxB (s : List UInt8) (c : UInt8) : Int := Lib.indexByte s c
def cntB (s : List UInt8) (c : UInt8) : Nat := s.count c
attribute [local irreducible] AStep in
theorem boom_h {X : Nat → Prop} {N n0 : Nat} {Q : Exit → St → Prop} {s : St} {a b : Nat} {id : Nat} {y1 y2 y3 : TypeId} {p1 p2 p3 : String} {e1 e2 e3 : Array Edge} (hd : dstOk N [⟨some a, .build 59 #[], y1, p1, e1, none⟩, ⟨some b, .makeInterface 59 (.tmp a), y2, p2, e2, none⟩] = true)
    (h : ∀ ch sl, OneCh ch → Q (.panic ch) ⟨sl, s.hp⟩) :
    AWp (E0 X) N n0 (.region id #[⟨some a, .build 59 #[], y1, p1, e1, none⟩, ⟨some b, .makeInterface 59 (.tmp a), y2, p2, e2, none⟩, ⟨none, .panic (.tmp b), y3, p3, e3, none⟩] false) Q s := by
  refine awp_region_panic (pre := [⟨some a, .build 59 #[], y1, p1, e1, none⟩, ⟨some b, .makeInterface 59 (.tmp a), y2, p2, e2, none⟩]) (post := []) rfl hd ?_
  obtain ⟨sl, hp⟩ := s
  refine aops_step rfl (st_bld rfl rfl rfl rfl rfl rfl ?_)
  refine aops_step rfl (st_makeIface rfl rfl ?_)
  refine ⟨_, fun _ => rfl, rfl, ?_⟩
  refine pn_panic (t := 59) (v := .agg []) ?_ ?_
  · simp [ev, get_put]
  · exact fun ch hch => h ch _ hch
end Go.Abs
namespace Go.Abs
theorem idxB_nil (c : UInt8) : idxB [] c = -1 := rfl
theorem idxB_cons (b : UInt8) (l : List UInt8) (c : UInt8) : idxB (b :: l) c = if b == c then 0 else if idxB l c == -1 then -1 else idxB l c + 1 := rfl
theorem idxB_ge (l : List UInt8) (c : UInt8) : -1 ≤ idxB l c := Lib.indexByte_ge l c
theorem idxB_lt (c : UInt8) : ∀ l : List UInt8, idxB l c < l.length ∨ idxB l c = -1
  | [] => .inr rfl
  | b :: l => by
    rw [idxB_cons]
    split
    · left; simp
    · split
      · exact .inr rfl
      · rename_i h2
        have := idxB_lt c l
        simp only [beq_iff_eq] at h2
        left
        rcases this with h3 | h3
        · simp; omega
        · exact absurd h3 h2
section
variable {X : Nat → Prop} {H : Hp} {K : AV → Hp → Prop} {ρ : Operand → AV}
variable {d : Option Tmp} {ty : TypeId} {pos : String} {after : Array Edge} {g : Option (Nat × Bool)}
theorem st_ixb {f x y : Operand} {tys : Array TypeId} {s : List UInt8} {c : UInt8} (hf : ρ f = .clo (.func 90) [] []) (hx : ρ x = .str s) (hy : ρ y = .int .u8 (c.toNat : Int)) (h : K (.int .i64 (idxB s c)) H) :
    AStep (E0 X) ⟨d, .call ⟨.value f, #[x, y], tys⟩, ty, pos, after, g⟩ ρ H K :=
  st_ext (args := [x, y]) (e := Extern.BytealgIndexByte.indexByte) Proofs.Tryd.func90 rfl rfl (by kernel_rfl) (by kernel_rfl) hf (fun m w vs hv => by
    rw [List.map_cons, List.map_cons, List.map_nil, hx, hy] at hv
    obtain ⟨u1, us, rfl, h1, h2⟩ := relL_cons.1 hv
    obtain ⟨u2, us2, rfl, h3, h4⟩ := relL_cons.1 h2
    rw [relL_nil] at h4
    subst h4
    have e1 := rel_str h1
    subst e1
    simp only [Abs.Rel] at h3
    subst h3
    refine ⟨.int .i64 (idxB s c), ?_, by simp [Env.Rel, Abs.Rel]⟩
    have := Lib.run_indexByteString (P := (E0 X).P) ⟨s.toArray⟩ (c.toNat : Int) w
    rw [show ((c.toNat : Int)).toNat.toUInt8 = c by simp] at this
    exact this) h
theorem st_cnt {f x y : Operand} {tys : Array TypeId} {s : List UInt8} {c : UInt8} (hf : ρ f = .clo (.func 73) [] []) (hx : ρ x = .str s) (hy : ρ y = .int .u8 (c.toNat : Int)) (h : K (.int .i64 (cntB s c : Nat)) H) :
    AStep (E0 X) ⟨d, .call ⟨.value f, #[x, y], tys⟩, ty, pos, after, g⟩ ρ H K :=
  st_ext (args := [x, y]) (e := Extern.BytealgCount.count) Proofs.Tryd.func73 rfl rfl (by kernel_rfl) (by kernel_rfl) hf (fun m w vs hv => by
    rw [List.map_cons, List.map_cons, List.map_nil, hx, hy] at hv
    obtain ⟨u1, us, rfl, h1, h2⟩ := relL_cons.1 hv
    obtain ⟨u2, us2, rfl, h3, h4⟩ := relL_cons.1 h2
    rw [relL_nil] at h4
    subst h4
    have e1 := rel_str h1
    subst e1
    simp only [Abs.Rel] at h3
    subst h3
    refine ⟨.int .i64 (cntB s c : Nat), ?_, by simp [Env.Rel, Abs.Rel]⟩
    have := Lib.run_countString (P := (E0 X).P) ⟨s.toArray⟩ (c.toNat : Int) w
    rw [show ((c.toNat : Int)).toNat.toUInt8 = c by simp] at this
    exact this) h
theorem st_sst {E : Env} {x : Operand} {lo hi : Option Operand} {t : TypeId} {b ys : List UInt8} {l h : Nat} (hl : Bnd ρ lo 0 l) (hh : Bnd ρ hi b.length h) (hlh : l ≤ h) (hle : h ≤ b.length) (e1 : (b.take h).drop l = ys) (ht : Nat.blt t E.n = true) (htk : (E.ti t).k = .str) (hx : ρ x = .str b)
    (hK : K (.str ys) H) : AStep E ⟨d, .slice t x lo hi none, ty, pos, after, g⟩ ρ H K := st_slice_str ht htk hx hl hh hlh hle (by rw [e1]; exact hK)
end
/-- What lies before the first c, what behind it, whether there is one. -/
def cutB (s : List UInt8) (c : UInt8) : List UInt8 × List UInt8 × Bool := if 0 ≤ idxB s c then (s.take (idxB s c).toNat, s.drop ((idxB s c).toNat + 1), true) else (s, [], false)
attribute [local irreducible] AStep aops AWp Nx awM
set_option maxHeartbeats 0 in
theorem slib_c (X : Nat → Prop) (s : List UInt8) (c : UInt8) : ACalls (E0 X) 78 [.str s, .int .u8 (c.toNat : Int)] [] (fun r H' => r = .int .i64 (idxB s c) ∧ H' = []) := by
  refine acalls_of Proofs.Tryd.func78 rfl Proofs.Tryd.ntmps78 (by kernel_rfl) rfl ?_
  intro hH hargs
  clear hH hargs
  repeat' (first | ((refine Qa rfl ?_); (first | refine Q0 ?_ | refine Q1 ?_); (refine QX rfl rfl ?_)) | refine Qa rfl ?_ | refine Qh ?_ | refine Ql ?_ | refine Qo rfl ?_)
  refine st_ixb rfl rfl rfl ?_
  first | refine nx rfl rfl ?_ | refine nx0 ?_
  repeat' (first | ((refine Qa rfl ?_); (refine Q1 ?_); (refine QX rfl rfl ?_)) | refine Qh ?_ | refine Qs ?_)
  refine awp_ret ?_
  refine ⟨_, rfl, ?_, ?_⟩
  · rfl
  · rfl
set_option maxHeartbeats 0 in
theorem sib_c (X : Nat → Prop) (s : List UInt8) (c : UInt8) : ACalls (E0 X) 62 [.str s, .int .u8 (c.toNat : Int)] [] (fun r H' => r = .int .i64 (idxB s c) ∧ H' = []) := by
  refine acalls_of Proofs.Tryd.func62 rfl Proofs.Tryd.ntmps62 (by kernel_rfl) rfl ?_
  intro hH hargs
  clear hH hargs
  repeat' (first | ((refine Qa rfl ?_); (first | refine Q0 ?_ | refine Q1 ?_); (refine QX rfl rfl ?_)) | refine Qa rfl ?_ | refine Qh ?_ | refine Ql ?_ | refine Qo rfl ?_)
  refine st_call (fun _ => rfl) rfl ?_
  refine ACalls.mono (acalls_pure (E := E0 X) (fun X => slib_c X s c) (by simp [IdsLtL, IdsLt]) _) ?_
  rintro r H' ⟨rfl, rfl⟩
  first | refine nx rfl rfl ?_ | refine nx0 ?_
  repeat' (first | ((refine Qa rfl ?_); (refine Q1 ?_); (refine QX rfl rfl ?_)) | refine Qh ?_ | refine Qs ?_)
  refine awp_ret ?_
  refine ⟨_, rfl, ?_, ?_⟩
  · rfl
  · rfl
set_option maxHeartbeats 0 in
theorem slidx_c (X : Nat → Prop) (s : List UInt8) (c : UInt8) : ACalls (E0 X) 74 [.str s, .str [c]] [] (fun r H' => r = .int .i64 (idxB s c) ∧ H' = []) := by
  refine acalls_of Proofs.Tryd.func74 rfl Proofs.Tryd.ntmps74 (by kernel_rfl) rfl ?_
  intro hH hargs
  clear hH hargs
  repeat' (first | ((refine Qa rfl ?_); (first | refine Q0 ?_ | refine Q1 ?_ | refine Q2 rfl ?_ | refine Q5 rfl ?_ | refine Q8 rfl rfl rfl ?_); (refine QX rfl rfl ?_)) | refine Qh ?_ | refine Ql ?_ | refine Qn ?_ | refine Qo rfl ?_ | refine Qs ?_)
  refine awp_cond_dec rfl (fun h1 => ?_) (fun h1 => ?_)
  · repeat' (first | ((refine Qa rfl ?_); (refine Q1 ?_); (refine QX rfl rfl ?_)) | refine Qh ?_ | refine Ql ?_ | refine Qo rfl ?_ | refine Qs ?_)
    refine awp_ret ?_
    refine ⟨_, rfl, ?_, ?_⟩
    · subst h1; exact congrArg (AV.int .i64) (by simp [idxB_cons])
    · rfl
  repeat' (first | ((refine Qa rfl ?_); (first | refine Q0 ?_ | refine Q1 ?_ | refine Q2 rfl ?_); (refine QX rfl rfl ?_)) | refine Qa rfl ?_ | refine Qh ?_ | refine Ql ?_ | refine Qo rfl ?_ | refine Qp rfl ?_)
  refine st_index_str (l := [c]) (j := 0) rfl rfl (by kernel_rfl) rfl rfl rfl ?_
  first | refine nx rfl rfl ?_ | refine nx0 ?_
  repeat' (refine Qa rfl ?_)
  refine st_call (fun _ => rfl) rfl ?_
  refine ACalls.mono (acalls_pure (E := E0 X) (fun X => slib_c X s c) (by simp [IdsLtL, IdsLt]) _) ?_
  rintro r H' ⟨rfl, rfl⟩
  first | refine nx rfl rfl ?_ | refine nx0 ?_
  repeat' (first | ((refine Qa rfl ?_); (refine Q1 ?_); (refine QX rfl rfl ?_)) | refine Qh ?_ | refine Qs ?_)
  refine awp_ret ?_
  refine ⟨_, rfl, ?_, ?_⟩
  · rfl
  · rfl
set_option maxHeartbeats 0 in
theorem sidx_c (X : Nat → Prop) (s : List UInt8) (c : UInt8) : ACalls (E0 X) 57 [.str s, .str [c]] [] (fun r H' => r = .int .i64 (idxB s c) ∧ H' = []) := by
  refine acalls_of Proofs.Tryd.func57 rfl Proofs.Tryd.ntmps57 (by kernel_rfl) rfl ?_
  intro hH hargs
  clear hH hargs
  repeat' (first | ((refine Qa rfl ?_); (first | refine Q0 ?_ | refine Q1 ?_); (refine QX rfl rfl ?_)) | refine Qa rfl ?_ | refine Qh ?_ | refine Ql ?_ | refine Qo rfl ?_)
  refine st_call (fun _ => rfl) rfl ?_
  refine ACalls.mono (acalls_pure (E := E0 X) (fun X => slidx_c X s c) (by simp [IdsLtL, IdsLt]) _) ?_
  rintro r H' ⟨rfl, rfl⟩
  first | refine nx rfl rfl ?_ | refine nx0 ?_
  repeat' (first | ((refine Qa rfl ?_); (refine Q1 ?_); (refine QX rfl rfl ?_)) | refine Qh ?_ | refine Qs ?_)
  refine awp_ret ?_
  refine ⟨_, rfl, ?_, ?_⟩
  · rfl
  · rfl
set_option maxHeartbeats 0 in
theorem scnt_c (X : Nat → Prop) (s : List UInt8) (c : UInt8) : ACalls (E0 X) 56 [.str s, .str [c]] [] (fun r H' => r = .int .i64 (cntB s c : Nat) ∧ H' = []) := by
  refine acalls_of Proofs.Tryd.func56 rfl Proofs.Tryd.ntmps56 (by kernel_rfl) rfl ?_
  intro hH hargs
  clear hH hargs
  repeat' (first | ((refine Qa rfl ?_); (first | refine Q0 ?_ | refine Q1 ?_ | refine Q2 rfl ?_ | refine Q8 rfl rfl rfl ?_); (refine QX rfl rfl ?_)) | refine Qa rfl ?_ | refine Qh ?_ | refine Ql ?_ | refine Qm ?_ | refine Qo rfl ?_ | refine Qp rfl ?_ | refine Qq rfl ?_)
  refine st_index_str (l := [c]) (j := 0) rfl rfl (by kernel_rfl) rfl rfl rfl ?_
  first | refine nx rfl rfl ?_ | refine nx0 ?_
  repeat' (refine Qa rfl ?_)
  refine st_cnt rfl rfl rfl ?_
  first | refine nx rfl rfl ?_ | refine nx0 ?_
  repeat' (first | ((refine Qa rfl ?_); (refine Q1 ?_); (refine QX rfl rfl ?_)) | refine Qh ?_ | refine Qs ?_)
  refine awp_ret ?_
  refine ⟨_, rfl, ?_, ?_⟩
  · rfl
  · rfl
set_option maxHeartbeats 0 in
theorem slcut_c (X : Nat → Prop) (s : List UInt8) (c : UInt8) (hs : s.length ≤ 1073741824) : ACalls (E0 X) 70 [.str s, .str [c]] [] (fun r H' => r = .tup [.str (cutB s c).1, .str (cutB s c).2.1, .bool (cutB s c).2.2] ∧ H' = []) := by
  refine acalls_of Proofs.Tryd.func70 rfl Proofs.Tryd.ntmps70 (by kernel_rfl) rfl ?_
  intro hH hargs
  clear hH hargs
  repeat' (first | ((refine Qa rfl ?_); (first | refine Q0 ?_ | refine Q1 ?_); (refine QX rfl rfl ?_)) | refine Qa rfl ?_ | refine Qh ?_ | refine Ql ?_ | refine Qo rfl ?_)
  refine st_call (fun _ => rfl) rfl ?_
  refine ACalls.mono (acalls_pure (E := E0 X) (fun X => slidx_c X s c) (by simp [IdsLtL, IdsLt]) _) ?_
  rintro r H' ⟨rfl, rfl⟩
  first | refine nx rfl rfl ?_ | refine nx0 ?_
  repeat' (first | ((refine Qa rfl ?_); (first | refine Q0 ?_ | refine Q1 ?_ | refine Q2 rfl ?_); (refine QX rfl rfl ?_)) | refine Qh ?_ | refine Ql ?_ | refine Qo rfl ?_ | refine Qs ?_)
  refine awp_cond_dec rfl (fun h1 => ?_) (fun h1 => ?_)
  · obtain ⟨i, hi⟩ : ∃ i : Nat, idxB s c = i := ⟨_, (Int.toNat_of_nonneg h1).symm⟩
    have hlt := idxB_lt c s
    have hil : i < s.length := by omega
    have ew : IntKind.i64.wrap ((i : Int) + (([c] : List UInt8).length : Int)) = ((i + 1 : Nat) : Int) := by simp only [List.length_singleton]; rw [wrap_in (by omega) (by omega)]; simp
    have e : cutB s c = (s.take i, s.drop (i + 1), true) := by rw [cutB, if_pos h1, hi]; simp
    rw [e, hi]
    repeat' (refine Ql ?_)
    refine awp_region_auto2 [] [] (by exact rfl) (by kernel_rfl) ?_
    repeat' ((apply Qd rfl rfl rfl rfl); (refine Q0 ?_); (exact QX rfl rfl ⟨rfl, rfl⟩))
    apply ds rfl rfl rfl rfl
    · refine st_sst (l := 0) (h := i) (ys := s.take i) (bnd_none) (bnd_some rfl rfl) (by omega) (by omega) (rfl) rfl rfl rfl ?_
      first | exact nx rfl rfl ⟨rfl, rfl⟩ | exact nx0 ⟨rfl, rfl⟩
    repeat' ((apply Qd rfl rfl rfl rfl); (first | refine Q0 ?_ | refine Q2 rfl ?_ | refine Q8 rfl rfl rfl ?_); (exact QX rfl rfl ⟨rfl, rfl⟩))
    apply ds rfl rfl rfl rfl
    · refine st_sst (l := i + 1) (h := s.length) (ys := s.drop (i + 1)) (bnd_some rfl ew) (bnd_none) (by omega) (by omega) (by rw [List.take_of_length_le (Nat.le_refl _)]) rfl rfl rfl ?_
      first | exact nx rfl rfl ⟨rfl, rfl⟩ | exact nx0 ⟨rfl, rfl⟩
    repeat' (first | ((apply Qd rfl rfl rfl rfl); (refine Q1 ?_); (exact QX rfl rfl ⟨rfl, rfl⟩)) | refine Qk ?_ | refine Qs ?_)
    refine awp_ret ?_
    refine ⟨_, rfl, ?_, ?_⟩
    · rfl
    · rfl
  · have e : cutB s c = (s, [], false) := by rw [cutB, if_neg h1]
    rw [e]
    repeat' (first | ((refine Qa rfl ?_); (first | refine Q0 ?_ | refine Q1 ?_); (refine QX rfl rfl ?_)) | refine Qh ?_ | refine Ql ?_ | refine Qm ?_ | refine Qo rfl ?_ | refine Qs ?_)
    refine awp_ret ?_
    refine ⟨_, rfl, ?_, ?_⟩
    · rfl
    · rfl
set_option maxHeartbeats 0 in
theorem scut_c (X : Nat → Prop) (s : List UInt8) (c : UInt8) (hs : s.length ≤ 1073741824) : ACalls (E0 X) 54 [.str s, .str [c]] [] (fun r H' => r = .tup [.str (cutB s c).1, .str (cutB s c).2.1, .bool (cutB s c).2.2] ∧ H' = []) := by
  refine acalls_of Proofs.Tryd.func54 rfl Proofs.Tryd.ntmps54 (by kernel_rfl) rfl ?_
  intro hH hargs
  clear hH hargs
  repeat' (first | ((refine Qa rfl ?_); (first | refine Q0 ?_ | refine Q1 ?_); (refine QX rfl rfl ?_)) | refine Qa rfl ?_ | refine Qh ?_ | refine Ql ?_ | refine Qo rfl ?_)
  refine st_call (fun _ => rfl) rfl ?_
  refine ACalls.mono (acalls_pure (E := E0 X) (fun X => slcut_c X s c hs) (by simp [IdsLtL, IdsLt]) _) ?_
  rintro r H' ⟨rfl, rfl⟩
  first | refine nx rfl rfl ?_ | refine nx0 ?_
  repeat' (first | ((refine Qa rfl ?_); (first | refine Q1 ?_ | refine QC rfl rfl ?_); (refine QX rfl rfl ?_)) | refine Qh ?_ | refine Qs ?_)
  refine awp_ret ?_
  refine ⟨_, rfl, ?_, ?_⟩
  · rfl
  · rfl
end Go.Abs
namespace Go.Abs
theorem hok_nil : HOk 0 [] := fun _ _ h => by simp at h
theorem ACalls.cut0 {E : Env} {f : FuncId} {args : List AV} {v : AV} (h : ACalls E f args [] (fun r _ => r = v)) (hv : IdsLt 0 v) : ACalls E f args [] (fun r H' => r = v ∧ H' = []) :=
  h.imp fun r H' e => ⟨v, [], ⟨rfl, rfl⟩, by subst e; exact imp_cutk 0 (Nat.zero_le _) hok_nil rfl (Nat.zero_le _) (fa_cons ⟨rfl, hv⟩ fa_nil)⟩
theorem ACalls.frz0 {E : Env} {f : FuncId} {args : List AV} {es : List AV} {e : TypeId} (k : Nat) (h : ACalls E f args [] (fun r H' => ∃ id n, r = .own id 0 n ∧ n = es.length ∧ H'[id]? = some (some (.arr es e)))) (he : Nat.blt e E.n = true) (hk : Nat.beq (E.ti e).sz k = true) (hes : IdsLtL 0 es) :
    ACalls E f args [] (fun r H' => r = .sl k es ∧ H' = []) :=
  h.imp fun r H' ⟨id, n, h1, h2, h3⟩ => by
    subst h1; subst h2
    refine ⟨_, _, ⟨rfl, rfl⟩, ?_⟩
    refine (imp_freeze (id := id) (k := k) (es := es) (e := e) h3 he hk).trans ?_
    refine imp_cutk 0 (Nat.zero_le _) hok_nil rfl (Nat.zero_le _) ?_
    refine fa_cons ⟨?_, hes⟩ fa_nil
    simp [get_cons, frz]
theorem imp_weakRv {E : Env} {N n0 : Nat} {H : Hp} {r r' : AV} (h : ∀ m w v, E.Rel m w r v → E.Rel m w r' v) : Imp E N n0 ⟨[(0, r)], H⟩ ⟨[(0, r')], H⟩ := fun _ _ _ m w a he hs => by
  refine ⟨m, he, ⟨hs.ok, fun k => ?_, hs.size, hs.defers, hs.sim, hs.glob⟩⟩
  have h1 := hs.slots k
  by_cases hk : k = 0
  · subst hk; exact h _ _ _ h1
  · have e : ∀ x : AV, get [(0, x)] k = .any := fun x => by
      match k, hk with
      | 0, hk => exact absurd rfl hk
      | _ + 1, _ => rfl
    show Abs.Rel E.cx m w (get [(0, r')] k) _
    rw [e]
    simp [Abs.Rel]
theorem ACalls.weakRv {E : Env} {f : FuncId} {args : List AV} {H : Hp} {R R' : AV → Hp → Prop} (h : ACalls E f args H R) (k : ∀ r H', R r H' → ∃ r', R' r' H' ∧ ∀ m w v, E.Rel m w r v → E.Rel m w r' v) : ACalls E f args H R' :=
  h.imp fun r H' hr => by
    obtain ⟨r', h1, h2⟩ := k r H' hr
    exact ⟨r', H', h1, imp_weakRv h2⟩
def boA (b : Bool) : AV := .bool b
@[simp] theorem boA_ids {n : Nat} {b : Bool} : IdsLt n (boA b) := trivial
end Go.Abs
namespace Go.Abs
def strA (s : List UInt8) : AV := .str s
@[simp] theorem strA_ids {n : Nat} {s : List UInt8} : IdsLt n (strA s) := trivial
theorem ids_str (l : List (List UInt8)) {n : Nat} : IdsLtL n (l.map strA) := idsL_map fun _ => trivial
theorem oneEs_str (l : List (List UInt8)) : OneEs (l.map strA) := fun y hy => by
  obtain ⟨b, _, rfl⟩ := List.mem_map.1 hy; exact ⟨rfl, rfl⟩
/-- The words between the c's. -/
def wordsB (c : UInt8) : List UInt8 → List (List UInt8)
  | [] => [[]]
  | b :: l => if b = c then [] :: wordsB c l else match wordsB c l with
    | [] => [[b]]
    | w :: ws => (b :: w) :: ws
theorem wordsB_cons (c b : UInt8) (l : List UInt8) : wordsB c (b :: l) = if b = c then [] :: wordsB c l else match wordsB c l with
    | [] => [[b]]
    | w :: ws => (b :: w) :: ws := rfl
theorem wordsB_ne (c : UInt8) : ∀ l, wordsB c l ≠ []
  | [] => by simp [wordsB]
  | b :: l => by
    rw [wordsB_cons]
    split
    · simp
    · split <;> simp
theorem wordsB_len (c : UInt8) : ∀ l, (wordsB c l).length = cntB l c + 1
  | [] => rfl
  | b :: l => by
    have ih := wordsB_len c l
    unfold cntB at *
    rw [wordsB_cons, List.count_cons]
    split
    · rename_i h; subst h; simp [ih]
    · rename_i h
      have : (b == c) = false := by simpa using h
      rw [this]
      cases hw : wordsB c l with
      | nil => exact absurd hw (wordsB_ne c l)
      | cons w ws => rw [hw] at ih; simpa using ih
theorem idx_cnt (c : UInt8) : ∀ l, idxB l c = -1 ↔ cntB l c = 0
  | [] => by simp [idxB_nil, cntB]
  | b :: l => by
    have ih := idx_cnt c l
    have hg := idxB_ge l c
    unfold cntB at *
    rw [idxB_cons, List.count_cons]
    by_cases h : (b == c) = true
    · simp [h]
    · have h : (b == c) = false := by simpa using h
      simp only [h, Bool.false_eq_true, if_false, Nat.add_zero, beq_iff_eq]
      by_cases h2 : idxB l c = -1
      · simp [h2, ih.1 h2]
      · rw [if_neg h2]
        constructor
        · intro h3; omega
        · intro h3; exact absurd (ih.2 h3) h2
theorem words_none (c : UInt8) : ∀ l, cntB l c = 0 → wordsB c l = [l]
  | [], _ => rfl
  | b :: l, h => by
    unfold cntB at h
    rw [List.count_cons] at h
    by_cases hb : b = c
    · subst hb; simp at h
    · have h2 : cntB l c = 0 := by unfold cntB; omega
      rw [wordsB_cons, if_neg hb, words_none c l h2]
theorem words_idx (c : UInt8) : ∀ (l : List UInt8) (i : Nat), idxB l c = (i : Int) → wordsB c l = l.take i :: wordsB c (l.drop (i + 1))
  | [], i, h => by rw [idxB_nil] at h; omega
  | b :: l, i, h => by
    rw [idxB_cons] at h
    by_cases hb : b = c
    · subst hb
      have h0 : i = 0 := by simp at h; omega
      subst h0
      simp [wordsB_cons]
    · have hb' : (b == c) = false := by simpa using hb
      rw [hb'] at h
      simp only [Bool.false_eq_true, if_false, beq_iff_eq] at h
      split at h
      · omega
      · obtain ⟨j, rfl⟩ : ∃ j, i = j + 1 := ⟨i - 1, by have := idxB_ge l c; omega⟩
        have ih := words_idx c l j (by omega)
        rw [wordsB_cons, if_neg hb, ih]
        simp
theorem cut_idx {c : UInt8} {l : List UInt8} {i : Nat} (h : idxB l c = (i : Int)) : i < l.length := by
  have := idxB_lt c l
  omega
theorem words_bytes (c : UInt8) : ∀ l, ∀ w ∈ wordsB c l, w.length ≤ l.length
  | [], w, h => by simp [wordsB] at h; subst h; simp
  | b :: l, w, h => by
    rw [wordsB_cons] at h
    split at h
    · rcases List.mem_cons.1 h with rfl | h
      · simp
      · have := words_bytes c l w h; simp; omega
    · cases hw : wordsB c l with
      | nil => exact absurd hw (wordsB_ne c l)
      | cons u us =>
        rw [hw] at h
        simp only at h
        rcases List.mem_cons.1 h with rfl | h
        · have := words_bytes c l u (by rw [hw]; simp); simp; omega
        · have := words_bytes c l w (by rw [hw]; simp [h]); simp; omega
theorem wd_get (ws : List (List UInt8)) (n : Nat) (h : ws.length < n) : ((ws ++ List.replicate (n - ws.length) ([] : List UInt8)).map strA)[ws.length]? = some (strA []) := by
  rw [List.getElem?_map, List.getElem?_append_right (Nat.le_refl _), Nat.sub_self, List.getElem?_replicate, if_pos (by omega)]
  rfl
theorem wd_set (ws : List (List UInt8)) (w : List UInt8) (n : Nat) (h : ws.length < n) : ((ws ++ List.replicate (n - ws.length) ([] : List UInt8)).map strA).set ws.length (.str w) = ((ws ++ [w]) ++ List.replicate (n - (ws ++ [w]).length) ([] : List UInt8)).map strA := by
  obtain ⟨k, rfl⟩ : ∃ k, n = ws.length + (k + 1) := ⟨n - ws.length - 1, by omega⟩
  have e1 : ws.length + (k + 1) - ws.length = k + 1 := by omega
  have e2 : ws.length + (k + 1) - (ws ++ [w]).length = k := by simp; omega
  rw [e1, e2, List.replicate_succ]
  simp [strA]
theorem hok_wd (es : List (List UInt8)) : HOk 1 [some (.arr (es.map strA) 9)] := fun j o ho => by
  match j, ho with
  | 0, ho => cases ho; exact ids_str _
attribute [local irreducible] AStep aops AWp Nx awM
set_option maxHeartbeats 0 in
theorem gsplit_c (X : Nat → Prop) (s : List UInt8) (c : UInt8) (hs : s.length ≤ 1073741824) : ACalls (E0 X) 35 [.str s, .str [c], .int .i64 0, .int .i64 (-1)] [] (fun r H' => r = .sl 1 ((wordsB c s).map strA) ∧ H' = []) := by
  refine ACalls.frz0 (e := 9) 1 ?_ rfl rfl (ids_str _)
  have hcl : cntB s c ≤ s.length := List.count_le_length
  have hwl := wordsB_len c s
  generalize hn : cntB s c = n at *
  have e1 : IntKind.i64.wrap ((n : Int) + 1) = ((n + 1 : Nat) : Int) := by rw [wrap_in (by omega) (by omega)]; simp
  have e2 : IntKind.i64.wrap ((s.length : Int) + 1) = ((s.length + 1 : Nat) : Int) := by rw [wrap_in (by omega) (by omega)]; simp
  refine acalls_of Proofs.Tryd.func35 rfl Proofs.Tryd.ntmps35 (by kernel_rfl) rfl ?_
  intro hH hargs
  clear hH hargs
  repeat' (first | ((refine Qa rfl ?_); (first | refine Q0 ?_ | refine Q1 ?_ | refine Q2 rfl ?_); (refine QX rfl rfl ?_)) | refine Qa rfl ?_ | refine Qh ?_ | refine Ql ?_ | refine Qm ?_ | refine Qo rfl ?_ | refine Qp rfl ?_ | refine Qq rfl ?_)
  refine st_call (fun _ => rfl) rfl ?_
  refine ACalls.mono (acalls_pure (E := E0 X) (fun X => scnt_c X s c) (by simp [IdsLtL, IdsLt]) _) ?_
  rintro r H' ⟨rfl, rfl⟩
  first | refine nx rfl rfl ?_ | refine nx0 ?_
  rw [hn]
  repeat' (first | ((refine Qa rfl ?_); (first | refine Q0 ?_ | refine Q1 ?_ | refine Q2 rfl ?_ | refine Q8 rfl rfl rfl ?_ | refine QE rfl rfl ?_); (refine QX rfl rfl ?_)) | refine Qa rfl ?_ | refine Qh ?_ | refine Ql ?_ | refine Qo rfl ?_)
  rw [e1, e2, show min ((n + 1 : Nat) : Int) ((s.length + 1 : Nat) : Int) = ((n + 1 : Nat) : Int) by omega]
  refine st_mko (n := n + 1) (el := strA []) rfl (rfl) (rfl) ?_ ?_ rfl rfl rfl rfl rfl rfl (.inr rfl) (.inr rfl) rfl rfl ?_
  · show 16 * _ ≤ 281474976710656
    first
    | omega
    | (simp; omega)
  · show _ ≤ 9223372036854775807
    omega
  first | refine nx rfl rfl ?_ | refine nx0 ?_
  rw [show List.replicate (n + 1) (strA []) = (List.replicate (n + 1) ([] : List UInt8)).map strA by simp]
  repeat' (first | ((refine Qa rfl ?_); (first | refine Q0 ?_ | refine Q1 ?_ | refine Q2 rfl ?_); (refine QX rfl rfl ?_)) | refine Qh ?_ | refine Ql ?_ | refine Qn ?_ | refine Qo rfl ?_)
  have e3 : IntKind.i64.wrap (((n + 1 : Nat) : Int) - 1) = (n : Int) := by rw [wrap_in (by omega) (by omega)]; omega
  rw [e3]
  refine awp_loop2 (fun i : List (List UInt8) × List UInt8 => ⟨[(0, .str i.2), (1, .str [c]), (2, .int .i64 0), (3, .int .i64 (n : Int)), (9, .own 0 0 (n + 1)), (10, .int .i64 (i.1.length : Int))], [some (.arr ((i.1 ++ List.replicate (n + 1 - i.1.length) ([] : List UInt8)).map strA) 9)]⟩)
    (fun i => wordsB c s = i.1 ++ wordsB c i.2 ∧ i.2.length ≤ s.length) (fun i => n + 1 - i.1.length) ([], s) ⟨rfl, Nat.le_refl _⟩ ?_ ?_
  · refine imp_cutk 1 (Nat.zero_le _) (hok_wd _) (by simp) (by simp) ?_
    repeat' (first | exact fa_nil | refine fa_cons ⟨?_, ?_⟩ ?_)
    all_goals (try first | exact rfl | exact trivial | (simp [IdsLt]; done) | (simp [get_cons]; done) | (simp [get_cons, *]; done) | (refine congrArg (AV.int .i64) (wrap_eq ?_ ?_ ?_) <;> (first | omega | (simp; omega))))
  rintro ⟨ws, t⟩ ⟨hw, htl⟩
  simp only at hw htl ⊢
  have hwt := wordsB_len c t
  have hlen : (wordsB c s).length = ws.length + (cntB t c + 1) := by rw [hw, List.length_append, hwt]
  have hk : ws.length + cntB t c = n := by omega
  have hlt : ws.length < (ws ++ List.replicate (n + 1 - ws.length) ([] : List UInt8)).length := by simp; omega
  repeat' (first | ((refine Qa rfl ?_); (first | refine Q0 ?_ | refine Q2 rfl ?_); (refine QX rfl rfl ?_)) | refine Qh ?_ | refine Ql ?_ | refine Qo rfl ?_ | refine Qs ?_)
  refine awp_cond_dec rfl (fun h1 => ?_) (fun h1 => ?_)
  · repeat' (first | ((refine Qa rfl ?_); (refine Q0 ?_); (refine QX rfl rfl ?_)) | refine Qa rfl ?_ | refine Ql ?_ | refine Qm ?_ | refine Qn ?_ | refine Qo rfl ?_)
    refine st_call (fun _ => rfl) rfl ?_
    refine ACalls.mono (acalls_pure (E := E0 X) (fun X => sidx_c X t c) (by simp [IdsLtL, IdsLt]) _) ?_
    rintro r H' ⟨rfl, rfl⟩
    first | refine nx rfl rfl ?_ | refine nx0 ?_
    repeat' (first | ((refine Qa rfl ?_); (first | refine Q0 ?_ | refine Q1 ?_ | refine Q2 rfl ?_); (refine QX rfl rfl ?_)) | refine Qh ?_ | refine Ql ?_ | refine Qo rfl ?_ | refine Qs ?_)
    have hc0 : cntB t c ≠ 0 := by omega
    have hge := idxB_ge t c
    have hne : idxB t c ≠ -1 := fun h => hc0 ((idx_cnt c t).1 h)
    obtain ⟨i, hi⟩ : ∃ i : Nat, idxB t c = i := ⟨_, (Int.toNat_of_nonneg (by omega)).symm⟩
    have hil := cut_idx hi
    rw [hi]
    refine awp_cond_dec rfl (fun h2 => ?_) (fun h2 => ?_)
    · omega
    repeat' (first | ((refine Qa rfl ?_); (first | refine Q0 ?_ | refine Q2 rfl ?_); (refine QX rfl rfl ?_)) | refine Qa rfl ?_ | refine Ql ?_ | refine Qm ?_ | refine Qo rfl ?_)
    have e4 : IntKind.i64.wrap ((i : Int) + 0) = (i : Int) := by rw [wrap_in (by omega) (by omega)]; omega
    have e5 : IntKind.i64.wrap ((i : Int) + (([c] : List UInt8).length : Int)) = ((i + 1 : Nat) : Int) := by simp only [List.length_singleton]; rw [wrap_in (by omega) (by omega)]; simp
    refine st_sst (l := 0) (h := i) (ys := t.take i) (bnd_none) (bnd_some rfl e4) (by omega) (by omega) (rfl) rfl rfl rfl ?_
    first | refine nx rfl rfl ?_ | refine nx0 ?_
    repeat' (refine Qa rfl ?_)
    refine st_ixo (j := ws.length) (p := ws.length) (rfl) (by first | omega | assumption | (simp; omega)) (by omega) rfl rfl rfl rfl rfl rfl rfl rfl ?_
    first | refine nx rfl rfl ?_ | refine nx0 ?_
    repeat' (refine Qb rfl ?_)
    refine st_store_pe rfl rfl rfl rfl (y := strA []) (wd_get ws (n + 1) (by omega)) rfl rfl rfl rfl rfl ?_
    first | refine nx rfl rfl ?_ | refine nx0 ?_
    repeat' (first | ((refine Qa rfl ?_); (first | refine Q0 ?_ | refine Q2 rfl ?_ | refine Q8 rfl rfl rfl ?_); (refine QX rfl rfl ?_)) | refine Qa rfl ?_ | refine Qh ?_ | refine Ql ?_ | refine Qo rfl ?_)
    refine st_sst (l := i + 1) (h := t.length) (ys := t.drop (i + 1)) (bnd_some rfl e5) (bnd_none) (by omega) (by omega) (by rw [List.take_of_length_le (Nat.le_refl _)]) rfl rfl rfl ?_
    first | refine nx rfl rfl ?_ | refine nx0 ?_
    repeat' (first | ((refine Qa rfl ?_); (first | refine Q0 ?_ | refine Q1 ?_ | refine Q2 rfl ?_); (refine QX rfl rfl ?_)) | refine Qh ?_ | refine Qo rfl ?_ | refine Qs ?_ | refine Qu ?_)
    refine ⟨(ws ++ [t.take i], t.drop (i + 1)), ⟨by rw [hw, words_idx c t i hi]; simp, by simp; omega⟩, by simp; omega, imp_cutk 1 (Nat.zero_le _) (hok_wd _) ?_ (by simp) ?_⟩
    · exact congrArg (fun x => [some (AO.arr x 9)]) (wd_set ws (t.take i) (n + 1) (by omega))
    · repeat' (first | exact fa_nil | refine fa_cons ⟨?_, ?_⟩ ?_)
      all_goals (try first | exact rfl | exact trivial | (simp [IdsLt]; done) | (simp [get_cons]; done) | (simp [get_cons, *]; done) | (refine congrArg (AV.int .i64) (wrap_eq ?_ ?_ ?_) <;> (first | omega | (simp; omega))))
      refine congrArg (AV.int .i64) ?_
      rw [wrap_in (by omega) (by omega)]
      simp
  · have h0 : cntB t c = 0 := by omega
    have hwl2 : wordsB c s = ws ++ [t] := by rw [hw, words_none c t h0]
    have hwn : ws.length = n := by omega
    repeat' (first | ((refine Qa rfl ?_); (refine Q0 ?_); (refine QX rfl rfl ?_)) | refine Qa rfl ?_ | refine Ql ?_ | refine Qo rfl ?_ | refine Qr ?_)
    refine st_ixo (j := ws.length) (p := ws.length) (rfl) (by first | omega | assumption | (simp; omega)) (by omega) rfl rfl rfl rfl rfl rfl rfl rfl ?_
    first | refine nx rfl rfl ?_ | refine nx0 ?_
    repeat' (refine Qb rfl ?_)
    refine st_store_pe rfl rfl rfl rfl (y := strA []) (wd_get ws (n + 1) (by omega)) rfl rfl rfl rfl rfl ?_
    first | refine nx rfl rfl ?_ | refine nx0 ?_
    repeat' (first | ((refine Qa rfl ?_); (first | refine Q0 ?_ | refine Q2 rfl ?_); (refine QX rfl rfl ?_)) | refine Qa rfl ?_ | refine Qh ?_ | refine Ql ?_ | refine Qo rfl ?_)
    have e6 : IntKind.i64.wrap ((ws.length : Int) + 1) = ((ws.length + 1 : Nat) : Int) := by rw [wrap_in (by omega) (by omega)]; simp
    refine st_slo (l := 0) (h := ws.length + 1) (lo' := 0) (n' := ws.length + 1) bnd_none (bnd_some rfl e6) (by omega) (by omega) (by omega) (by omega) rfl rfl rfl rfl rfl rfl rfl ?_
    first | refine nx rfl rfl ?_ | refine nx0 ?_
    repeat' (first | ((refine Qa rfl ?_); (refine Q1 ?_); (refine QX rfl rfl ?_)) | refine Qh ?_ | refine Qs ?_)
    refine awp_ret ?_
    refine ⟨_, rfl, 0, ws.length + 1, rfl, by rw [hwl2]; simp, ?_⟩
    refine congrArg (fun x => some (some (AO.arr x 9))) ((wd_set ws t (n + 1) (by omega)).trans ?_)
    rw [hwl2, show n + 1 - (ws ++ [t]).length = 0 by simp; omega]
    simp
set_option maxHeartbeats 0 in
theorem split_c (X : Nat → Prop) (s : List UInt8) (c : UInt8) (hs : s.length ≤ 1073741824) : ACalls (E0 X) 19 [.str s, .str [c]] [] (fun r H' => r = .sl 1 ((wordsB c s).map strA) ∧ H' = []) := by
  refine acalls_of Proofs.Tryd.func19 rfl Proofs.Tryd.ntmps19 (by kernel_rfl) rfl ?_
  intro hH hargs
  clear hH hargs
  repeat' (first | ((refine Qa rfl ?_); (first | refine Q0 ?_ | refine Q1 ?_); (refine QX rfl rfl ?_)) | refine Qa rfl ?_ | refine Qh ?_ | refine Ql ?_ | refine Qo rfl ?_)
  refine st_call (fun _ => rfl) rfl ?_
  refine ACalls.mono (acalls_pure (E := E0 X) (fun X => gsplit_c X s c hs) (by simp [IdsLtL, IdsLt]) _) ?_
  rintro r H' ⟨rfl, rfl⟩
  first | refine nx rfl rfl ?_ | refine nx0 ?_
  repeat' (first | ((refine Qa rfl ?_); (refine Q1 ?_); (refine QX rfl rfl ?_)) | refine Qh ?_ | refine Qs ?_)
  refine awp_ret ?_
  refine ⟨_, rfl, ?_, ?_⟩
  · rfl
  · rfl
end Go.Abs
namespace Go.Abs
theorem runeAt_lo {s : List UInt8} {p : Nat} {b : UInt8} (h : s[p]? = some b) (hb : b.toNat < 128) : runeAt s p = (b.toNat, 1) := by
  have hp : p < s.length := (List.getElem?_eq_some_iff.1 h).1
  have hg : s[p] = b := (List.getElem?_eq_some_iff.1 h).2
  have e : (⟨s.toArray⟩ : ByteArray)[p]'hp = b := hg
  have := decode_ascii ⟨s.toArray⟩ p hp (by rw [e]; exact hb)
  rw [e] at this
  exact this
theorem runeAt_hi {s : List UInt8} {p : Nat} {b : UInt8} (h : s[p]? = some b) (hb : 128 ≤ b.toNat) : 128 ≤ (runeAt s p).1 := by
  have hp : p < s.length := (List.getElem?_eq_some_iff.1 h).1
  have hg : s[p] = b := (List.getElem?_eq_some_iff.1 h).2
  have e : (⟨s.toArray⟩ : ByteArray)[p]'hp = b := hg
  exact (decode_high ⟨s.toArray⟩ p hp (by rw [e]; exact hb)).1
def isDig (b : UInt8) : Prop := 48 ≤ b.toNat ∧ b.toNat ≤ 57
instance (b : UInt8) : Decidable (isDig b) := inferInstanceAs (Decidable (_ ∧ _))
def digs : List UInt8 → Nat → Option Nat
  | [], n => some n
  | b :: l, n => if isDig b then digs l (10 * n + (b.toNat - 48)) else none
def badHead (s : List UInt8) : Prop := s = [] ∨ 6 < s.length ∨ (s[0]? = some 48 ∧ 1 < s.length)
instance (s : List UInt8) : Decidable (badHead s) := inferInstanceAs (Decidable (_ ∨ _))
/-- The number that a word denotes. -/
def numP (s : List UInt8) : Option Nat := if badHead s then none else digs s 0
attribute [local irreducible] AStep aops AWp Nx awM
set_option maxHeartbeats 0 in
theorem number_bad (X : Nat → Prop) (s : List UInt8) (h : badHead s) : APanics (E0 X) 32 [.str s] [] (fun _ => True) := by
  refine apanics_of Proofs.Tryd.func32 rfl Proofs.Tryd.ntmps32 (by kernel_rfl) rfl ?_
  by_cases hs : s = []
  · subst hs
    repeat' (refine Ql ?_)
    refine Qo rfl ?_
    repeat' (first | ((refine Qa rfl ?_); (refine Q1 ?_); (refine QX rfl rfl ?_)) | refine Qh ?_ | refine Ql ?_)
    refine Qo rfl ?_
    repeat' (first | ((refine Qa rfl ?_); (first | refine Q0 ?_ | refine Q2 rfl ?_ | refine Q5 rfl ?_); (refine QX rfl rfl ?_)) | refine Qh ?_ | refine Qi rfl ?_ | refine Qp rfl ?_)
    refine boom_h (by kernel_rfl) fun ch sl hch => ?_
    exact ⟨hch, trivial⟩
  repeat' (first | ((refine Qa rfl ?_); (first | refine Q0 ?_ | refine Q1 ?_ | refine Q2 rfl ?_); (refine QX rfl rfl ?_)) | refine Qh ?_ | refine Ql ?_ | refine Qo rfl ?_)
  rw [decide_eq_false (show ¬ s = ({ data := #[] } : ByteArray).data.toList from hs)]
  by_cases h6 : 6 < s.length
  · repeat' ((refine Qa rfl ?_); (first | refine Q0 ?_ | refine Q2 rfl ?_ | refine Q5 rfl ?_ | refine Q8 rfl rfl rfl ?_); (refine QX rfl rfl ?_))
    rw [decide_eq_true (show (6 : Int) < (s.length : Int) by omega)]
    repeat' (first | ((refine Qa rfl ?_); (refine Q5 rfl ?_); (refine QX rfl rfl ?_)) | refine Qh ?_ | refine Qi rfl ?_ | refine Qp rfl ?_)
    refine boom_h (by kernel_rfl) fun ch sl hch => ?_
    exact ⟨hch, trivial⟩
  · have h48 : s[0]? = some 48 ∧ 1 < s.length := by
      rcases h with h | h | h
      · exact absurd h hs
      · exact absurd h h6
      · exact h
    repeat' ((refine Qa rfl ?_); (first | refine Q0 ?_ | refine Q2 rfl ?_ | refine Q5 rfl ?_ | refine Q8 rfl rfl rfl ?_); (refine QX rfl rfl ?_))
    rw [decide_eq_false (show ¬ (6 : Int) < (s.length : Int) by omega)]
    repeat' (first | ((refine Qa rfl ?_); (refine Q0 ?_); (refine QX rfl rfl ?_)) | refine Qa rfl ?_)
    refine st_index_str (l := s) (j := 0) rfl rfl rfl rfl h48.1 rfl ?_
    first | refine nx rfl rfl ?_ | refine nx0 ?_
    repeat' (first | ((refine Qa rfl ?_); (first | refine Q0 ?_ | refine Q2 rfl ?_ | refine Q5 rfl ?_ | refine Q8 rfl rfl rfl ?_); (refine QX rfl rfl ?_)) | refine Qh ?_ | refine Qs ?_)
    rw [decide_eq_true (show (1 : Int) < (s.length : Int) by omega)]
    repeat' (refine Qp rfl ?_)
    refine boom_h (by kernel_rfl) fun ch sl hch => ?_
    exact ⟨hch, trivial⟩
theorem hok_itr (s : List UInt8) (p : Nat) : HOk 1 [some (.itr s p)] := fun j o ho => by
  match j, ho with
  | 0, ho => cases ho; trivial
@[simp] theorem digs_nil (n : Nat) : digs [] n = some n := rfl
theorem digs_cons (b : UInt8) (l : List UInt8) (n : Nat) : digs (b :: l) n = if isDig b then digs l (10 * n + (b.toNat - 48)) else none := rfl
theorem digs_at {s : List UInt8} {p a : Nat} {b : UInt8} (h : s[p]? = some b) : digs (s.drop p) a = if isDig b then digs (s.drop (p + 1)) (10 * a + (b.toNat - 48)) else none := by
  have hp : p < s.length := (List.getElem?_eq_some_iff.1 h).1
  have hg : s[p] = b := (List.getElem?_eq_some_iff.1 h).2
  rw [List.drop_eq_getElem_cons hp, hg, digs_cons]
theorem dig_wrap {a c : Nat} (d1 : 48 ≤ c) (d2 : c ≤ 57) (ha : a < 1000000) :
    IntKind.i64.wrap (IntKind.i64.wrap (10 * (a : Int)) + IntKind.i64.wrap (IntKind.i32.wrap ((c : Int) - 48))) = ((10 * a + (c - 48) : Nat) : Int) := by
  have e1 : IntKind.i32.wrap ((c : Int) - 48) = (c : Int) - 48 := by
    simp only [IntKind.wrap, IntKind.signed, IntKind.bits]
    simp
    omega
  rw [e1, wrap_in (n := 10 * (a : Int)) (by omega) (by omega), wrap_in (n := (c : Int) - 48) (by omega) (by omega), wrap_in (by omega) (by omega)]
  omega
set_option maxHeartbeats 0 in
theorem number_go (X : Nat → Prop) (s : List UInt8) (n : Nat) (h : numP s = some n) : ACalls (E0 X) 32 [.str s] [] (fun r H' => r = .int .i64 (n : Int) ∧ H' = []) := by
  refine ACalls.cut0 ?_ trivial
  have hb : ¬ badHead s := fun hb => by rw [numP, if_pos hb] at h; cases h
  rw [numP, if_neg hb] at h
  have hs : ¬ s = [] := fun e => hb (.inl e)
  have h6 : ¬ 6 < s.length := fun e => hb (.inr (.inl e))
  have h0 : 0 < s.length := List.length_pos_iff.2 hs
  obtain ⟨b0, hb0⟩ : ∃ b, s[0]? = some b := ⟨_, List.getElem?_eq_getElem h0⟩
  refine acalls_of Proofs.Tryd.func32 rfl Proofs.Tryd.ntmps32 (by kernel_rfl) rfl ?_
  intro hH hargs
  clear hH hargs
  repeat' (first | ((refine Qa rfl ?_); (first | refine Q0 ?_ | refine Q1 ?_ | refine Q2 rfl ?_); (refine QX rfl rfl ?_)) | refine Qh ?_ | refine Ql ?_ | refine Qo rfl ?_)
  rw [decide_eq_false (show ¬ s = ({ data := #[] } : ByteArray).data.toList from hs)]
  repeat' ((refine Qa rfl ?_); (first | refine Q0 ?_ | refine Q2 rfl ?_ | refine Q5 rfl ?_ | refine Q8 rfl rfl rfl ?_); (refine QX rfl rfl ?_))
  rw [decide_eq_false (show ¬ (6 : Int) < (s.length : Int) by omega)]
  repeat' (first | ((refine Qa rfl ?_); (refine Q0 ?_); (refine QX rfl rfl ?_)) | refine Qa rfl ?_)
  refine st_index_str (l := s) (j := 0) rfl rfl rfl rfl hb0 rfl ?_
  first | refine nx rfl rfl ?_ | refine nx0 ?_
  by_cases hz : b0 = 48
  case' pos =>
    have h1 : ¬ 1 < s.length := fun h => hb (.inr (.inr ⟨by rw [hb0, hz], h⟩))
    repeat' ((refine Qa rfl ?_); (first | refine Q0 ?_ | refine Q2 rfl ?_); (refine QX rfl rfl ?_))
    rw [decide_eq_true (show ((b0.toNat : Int)) = 48 by rw [hz]; rfl)]
    repeat' (first | ((refine Qa rfl ?_); (first | refine Q0 ?_ | refine Q2 rfl ?_ | refine Q5 rfl ?_ | refine Q8 rfl rfl rfl ?_); (refine QX rfl rfl ?_)) | refine Qh ?_ | refine Qs ?_)
    rw [decide_eq_false (show ¬ (1 : Int) < (s.length : Int) by omega)]
    repeat' (first | ((refine Qa rfl ?_); (first | refine Q0 ?_ | refine Q1 ?_); (refine QX rfl rfl ?_)) | refine Qa rfl ?_ | refine Qh ?_ | refine Ql ?_ | refine Qm ?_ | refine Qo rfl ?_ | refine Qq rfl ?_)
  case' neg =>
    repeat' ((refine Qa rfl ?_); (first | refine Q0 ?_ | refine Q2 rfl ?_); (refine QX rfl rfl ?_))
    rw [decide_eq_false (show ¬ ((b0.toNat : Int)) = 48 from fun h => hz (UInt8.toNat_inj.1 (by show b0.toNat = 48; omega)))]
    repeat' (first | ((refine Qa rfl ?_); (first | refine Q0 ?_ | refine Q1 ?_ | refine Q5 rfl ?_); (refine QX rfl rfl ?_)) | refine Qa rfl ?_ | refine Qh ?_ | refine Qi rfl ?_ | refine Ql ?_ | refine Qm ?_ | refine Qo rfl ?_ | refine Qq rfl ?_)
  all_goals
    refine st_range_str rfl rfl rfl ?_
    first | refine nx rfl rfl ?_ | refine nx0 ?_
    repeat' (first | refine Qh ?_ | refine Qn ?_)
    refine awp_loop2 (fun i : Nat × Nat => ⟨[(0, .str s), (3, .int .i64 (i.2 : Int)), (26, .ptr 0 0)], [some (.itr s i.1)]⟩) (fun i => i.1 ≤ s.length ∧ digs (s.drop i.1) i.2 = some n ∧ i.2 < 10 ^ i.1) (fun i => s.length - i.1) (0, 0) ⟨Nat.zero_le _, h, by decide⟩ ?_ ?_
    · refine imp_cutk 1 (Nat.zero_le _) (hok_itr s 0) rfl (by simp) ?_
      repeat' (first | exact fa_nil | refine fa_cons ⟨?_, ?_⟩ ?_)
      all_goals (try first | exact rfl | exact trivial | (simp [IdsLt]; done) | (simp [get_cons]; done) | (simp [get_cons, *]; done) | (refine congrArg (AV.int .i64) (wrap_eq ?_ ?_ ?_) <;> (first | omega | (simp; omega))))
    rintro ⟨p, a⟩ ⟨hp, hd, ha⟩
    simp only at hp hd ha ⊢
    have hpw : 10 ^ p ≤ 1000000 := Nat.le_trans (Nat.pow_le_pow_right (by decide) (show p ≤ 6 by omega)) (by decide)
    repeat' (first | refine Qa rfl ?_ | refine Ql ?_ | refine Qo rfl ?_)
    by_cases hpl : p < s.length
    · obtain ⟨b, hpb⟩ : ∃ b, s[p]? = some b := ⟨_, List.getElem?_eq_getElem hpl⟩
      rw [digs_at hpb] at hd
      have hdig : isDig b := Classical.byContradiction fun h => by rw [if_neg h] at hd; cases hd
      rw [if_pos hdig] at hd
      obtain ⟨d1, d2⟩ := hdig
      refine st_next_str (c := b.toNat) (q := 1) rfl rfl hpl (runeAt_lo hpb (by omega)) ?_
      first | refine nx rfl rfl ?_ | refine nx0 ?_
      repeat' (first | ((refine Qa rfl ?_); (first | refine Q0 ?_ | refine Q1 ?_ | refine Q2 rfl ?_ | refine QC rfl rfl ?_); (refine QX rfl rfl ?_)) | refine Qh ?_ | refine Ql ?_ | refine Qm ?_ | refine Qn ?_ | refine Qo rfl ?_ | refine Qp rfl ?_)
      rw [decide_eq_false (show ¬ (b.toNat : Int) < 48 by omega)]
      repeat' (first | ((refine Qa rfl ?_); (first | refine Q0 ?_ | refine Q2 rfl ?_ | refine Q5 rfl ?_); (refine QX rfl rfl ?_)) | refine Qh ?_ | refine Qs ?_)
      rw [decide_eq_false (show ¬ (57 : Int) < (b.toNat : Int) by omega)]
      repeat' (first | ((refine Qa rfl ?_); (first | refine Q0 ?_ | refine Q1 ?_ | refine Q2 rfl ?_ | refine QG rfl rfl rfl rfl ?_); (refine QX rfl rfl ?_)) | refine Qh ?_ | refine Qm ?_ | refine Qo rfl ?_ | refine Qq rfl ?_ | refine Qs ?_ | refine Qu ?_)
      refine ⟨(p + 1, 10 * a + (b.toNat - 48)), ⟨by show p + 1 ≤ _; omega, hd, by show 10 * a + (b.toNat - 48) < 10 ^ (p + 1); rw [Nat.pow_succ]; omega⟩, by show s.length - (p + 1) < s.length - p; omega, imp_cutk 1 (Nat.zero_le _) (hok_itr s (p + 1)) rfl (by simp) ?_⟩
      repeat' (first | exact fa_nil | refine fa_cons ⟨?_, ?_⟩ ?_)
      all_goals (try first | exact rfl | exact trivial | (simp [IdsLt]; done) | (simp [get_cons]; done) | (simp [get_cons, *]; done) | (refine congrArg (AV.int .i64) (wrap_eq ?_ ?_ ?_) <;> (first | omega | (simp; omega))))
      exact congrArg (AV.int .i64) (dig_wrap d1 d2 (by omega))
    · have hpe : p = s.length := by omega
      rw [hpe, List.drop_length, digs_nil] at hd
      cases hd
      refine st_next_end rfl rfl (by omega) ?_
      first | refine nx rfl rfl ?_ | refine nx0 ?_
      repeat' (first | ((refine Qa rfl ?_); (first | refine Q0 ?_ | refine Q1 ?_ | refine QC rfl rfl ?_); (refine QX rfl rfl ?_)) | refine Qh ?_ | refine Ql ?_ | refine Qo rfl ?_ | refine Qq rfl ?_ | refine Qr ?_ | refine Qs ?_)
      refine awp_ret ?_
      exact ⟨_, rfl, rfl⟩
set_option maxHeartbeats 0 in
theorem number_no (X : Nat → Prop) (s : List UInt8) (h : numP s = none) : APanics (E0 X) 32 [.str s] [] (fun _ => True) := by
  by_cases hb : badHead s
  · exact number_bad X s hb
  rw [numP, if_neg hb] at h
  have hs : ¬ s = [] := fun e => hb (.inl e)
  have h6 : ¬ 6 < s.length := fun e => hb (.inr (.inl e))
  have h0 : 0 < s.length := List.length_pos_iff.2 hs
  obtain ⟨b0, hb0⟩ : ∃ b, s[0]? = some b := ⟨_, List.getElem?_eq_getElem h0⟩
  refine apanics_of Proofs.Tryd.func32 rfl Proofs.Tryd.ntmps32 (by kernel_rfl) rfl ?_
  repeat' (first | ((refine Qa rfl ?_); (first | refine Q0 ?_ | refine Q1 ?_ | refine Q2 rfl ?_); (refine QX rfl rfl ?_)) | refine Qh ?_ | refine Ql ?_ | refine Qo rfl ?_)
  rw [decide_eq_false (show ¬ s = ({ data := #[] } : ByteArray).data.toList from hs)]
  repeat' ((refine Qa rfl ?_); (first | refine Q0 ?_ | refine Q2 rfl ?_ | refine Q5 rfl ?_ | refine Q8 rfl rfl rfl ?_); (refine QX rfl rfl ?_))
  rw [decide_eq_false (show ¬ (6 : Int) < (s.length : Int) by omega)]
  repeat' (first | ((refine Qa rfl ?_); (refine Q0 ?_); (refine QX rfl rfl ?_)) | refine Qa rfl ?_)
  refine st_index_str (l := s) (j := 0) rfl rfl rfl rfl hb0 rfl ?_
  first | refine nx rfl rfl ?_ | refine nx0 ?_
  by_cases hz : b0 = 48
  case' pos =>
    have h1 : ¬ 1 < s.length := fun h => hb (.inr (.inr ⟨by rw [hb0, hz], h⟩))
    repeat' ((refine Qa rfl ?_); (first | refine Q0 ?_ | refine Q2 rfl ?_); (refine QX rfl rfl ?_))
    rw [decide_eq_true (show ((b0.toNat : Int)) = 48 by rw [hz]; rfl)]
    repeat' (first | ((refine Qa rfl ?_); (first | refine Q0 ?_ | refine Q2 rfl ?_ | refine Q5 rfl ?_ | refine Q8 rfl rfl rfl ?_); (refine QX rfl rfl ?_)) | refine Qh ?_ | refine Qs ?_)
    rw [decide_eq_false (show ¬ (1 : Int) < (s.length : Int) by omega)]
    repeat' (first | ((refine Qa rfl ?_); (first | refine Q0 ?_ | refine Q1 ?_); (refine QX rfl rfl ?_)) | refine Qa rfl ?_ | refine Qh ?_ | refine Ql ?_ | refine Qm ?_ | refine Qo rfl ?_ | refine Qq rfl ?_)
  case' neg =>
    repeat' ((refine Qa rfl ?_); (first | refine Q0 ?_ | refine Q2 rfl ?_); (refine QX rfl rfl ?_))
    rw [decide_eq_false (show ¬ ((b0.toNat : Int)) = 48 from fun h => hz (UInt8.toNat_inj.1 (by show b0.toNat = 48; omega)))]
    repeat' (first | ((refine Qa rfl ?_); (first | refine Q0 ?_ | refine Q1 ?_ | refine Q5 rfl ?_); (refine QX rfl rfl ?_)) | refine Qa rfl ?_ | refine Qh ?_ | refine Qi rfl ?_ | refine Ql ?_ | refine Qm ?_ | refine Qo rfl ?_ | refine Qq rfl ?_)
  all_goals
    refine st_range_str rfl rfl rfl ?_
    first | refine nx rfl rfl ?_ | refine nx0 ?_
    repeat' (first | refine Qh ?_ | refine Qn ?_)
    refine awp_loop2 (fun i : Nat × Nat => ⟨[(0, .str s), (3, .int .i64 (i.2 : Int)), (26, .ptr 0 0)], [some (.itr s i.1)]⟩) (fun i => i.1 ≤ s.length ∧ digs (s.drop i.1) i.2 = none ∧ i.2 < 10 ^ i.1) (fun i => s.length - i.1) (0, 0) ⟨Nat.zero_le _, h, by decide⟩ ?_ ?_
    · refine imp_cutk 1 (Nat.zero_le _) (hok_itr s 0) rfl (by simp) ?_
      repeat' (first | exact fa_nil | refine fa_cons ⟨?_, ?_⟩ ?_)
      all_goals (try first | exact rfl | exact trivial | (simp [IdsLt]; done) | (simp [get_cons]; done) | (simp [get_cons, *]; done) | (refine congrArg (AV.int .i64) (wrap_eq ?_ ?_ ?_) <;> (first | omega | (simp; omega))))
    rintro ⟨p, a⟩ ⟨hp, hd, ha⟩
    simp only at hp hd ha ⊢
    have hpw : 10 ^ p ≤ 1000000 := Nat.le_trans (Nat.pow_le_pow_right (by decide) (show p ≤ 6 by omega)) (by decide)
    repeat' (first | refine Qa rfl ?_ | refine Ql ?_ | refine Qo rfl ?_)
    by_cases hpl : p < s.length
    · obtain ⟨b, hpb⟩ : ∃ b, s[p]? = some b := ⟨_, List.getElem?_eq_getElem hpl⟩
      rw [digs_at hpb] at hd
      by_cases hdig : isDig b
      rotate_left
      · clear hd
        rcases Nat.lt_or_ge b.toNat 128 with h7 | h7
        · refine st_next_str (c := b.toNat) (q := 1) rfl rfl hpl (runeAt_lo hpb h7) ?_
          first | refine nx rfl rfl ?_ | refine nx0 ?_
          by_cases h8 : b.toNat < 48
          · repeat' (first | ((refine Qa rfl ?_); (first | refine Q0 ?_ | refine Q1 ?_ | refine Q2 rfl ?_ | refine QC rfl rfl ?_); (refine QX rfl rfl ?_)) | refine Qh ?_ | refine Ql ?_ | refine Qm ?_ | refine Qn ?_ | refine Qo rfl ?_ | refine Qp rfl ?_)
            rw [decide_eq_true (show (b.toNat : Int) < 48 by omega)]
            repeat' (first | ((refine Qa rfl ?_); (refine Q5 rfl ?_); (refine QX rfl rfl ?_)) | refine Qh ?_ | refine Qi rfl ?_ | refine Qp rfl ?_)
            refine boom_h (by kernel_rfl) fun ch sl hch => ?_
            exact ⟨hch, trivial⟩
          · repeat' (first | ((refine Qa rfl ?_); (first | refine Q0 ?_ | refine Q1 ?_ | refine Q2 rfl ?_ | refine QC rfl rfl ?_); (refine QX rfl rfl ?_)) | refine Qh ?_ | refine Ql ?_ | refine Qm ?_ | refine Qn ?_ | refine Qo rfl ?_ | refine Qp rfl ?_)
            rw [decide_eq_false (show ¬ (b.toNat : Int) < 48 by omega)]
            repeat' (first | ((refine Qa rfl ?_); (first | refine Q0 ?_ | refine Q2 rfl ?_ | refine Q5 rfl ?_); (refine QX rfl rfl ?_)) | refine Qh ?_ | refine Qs ?_)
            rw [decide_eq_true (show (57 : Int) < (b.toNat : Int) by simp only [isDig] at hdig; omega)]
            repeat' (refine Qp rfl ?_)
            refine boom_h (by kernel_rfl) fun ch sl hch => ?_
            exact ⟨hch, trivial⟩
        · have h8 := runeAt_hi hpb h7
          obtain ⟨c, q, hcq⟩ : ∃ c q, runeAt s p = (c, q) := ⟨_, _, rfl⟩
          rw [hcq] at h8
          simp only at h8
          refine st_next_str (c := c) (q := q) rfl rfl hpl hcq ?_
          first | refine nx rfl rfl ?_ | refine nx0 ?_
          repeat' (first | ((refine Qa rfl ?_); (first | refine Q0 ?_ | refine Q1 ?_ | refine Q2 rfl ?_ | refine QC rfl rfl ?_); (refine QX rfl rfl ?_)) | refine Qh ?_ | refine Ql ?_ | refine Qm ?_ | refine Qn ?_ | refine Qo rfl ?_ | refine Qp rfl ?_)
          rw [decide_eq_false (show ¬ (c : Int) < 48 by omega)]
          repeat' (first | ((refine Qa rfl ?_); (first | refine Q0 ?_ | refine Q2 rfl ?_ | refine Q5 rfl ?_); (refine QX rfl rfl ?_)) | refine Qh ?_ | refine Qs ?_)
          rw [decide_eq_true (show (57 : Int) < (c : Int) by omega)]
          repeat' (refine Qp rfl ?_)
          refine boom_h (by kernel_rfl) fun ch sl hch => ?_
          exact ⟨hch, trivial⟩
      rw [if_pos hdig] at hd
      obtain ⟨d1, d2⟩ := hdig
      refine st_next_str (c := b.toNat) (q := 1) rfl rfl hpl (runeAt_lo hpb (by omega)) ?_
      first | refine nx rfl rfl ?_ | refine nx0 ?_
      repeat' (first | ((refine Qa rfl ?_); (first | refine Q0 ?_ | refine Q1 ?_ | refine Q2 rfl ?_ | refine QC rfl rfl ?_); (refine QX rfl rfl ?_)) | refine Qh ?_ | refine Ql ?_ | refine Qm ?_ | refine Qn ?_ | refine Qo rfl ?_ | refine Qp rfl ?_)
      rw [decide_eq_false (show ¬ (b.toNat : Int) < 48 by omega)]
      repeat' (first | ((refine Qa rfl ?_); (first | refine Q0 ?_ | refine Q2 rfl ?_ | refine Q5 rfl ?_); (refine QX rfl rfl ?_)) | refine Qh ?_ | refine Qs ?_)
      rw [decide_eq_false (show ¬ (57 : Int) < (b.toNat : Int) by omega)]
      repeat' (first | ((refine Qa rfl ?_); (first | refine Q0 ?_ | refine Q1 ?_ | refine Q2 rfl ?_ | refine QG rfl rfl rfl rfl ?_); (refine QX rfl rfl ?_)) | refine Qh ?_ | refine Qm ?_ | refine Qo rfl ?_ | refine Qq rfl ?_ | refine Qs ?_ | refine Qu ?_)
      refine ⟨(p + 1, 10 * a + (b.toNat - 48)), ⟨by show p + 1 ≤ _; omega, hd, by show 10 * a + (b.toNat - 48) < 10 ^ (p + 1); rw [Nat.pow_succ]; omega⟩, by show s.length - (p + 1) < s.length - p; omega, imp_cutk 1 (Nat.zero_le _) (hok_itr s (p + 1)) rfl (by simp) ?_⟩
      repeat' (first | exact fa_nil | refine fa_cons ⟨?_, ?_⟩ ?_)
      all_goals (try first | exact rfl | exact trivial | (simp [IdsLt]; done) | (simp [get_cons]; done) | (simp [get_cons, *]; done) | (refine congrArg (AV.int .i64) (wrap_eq ?_ ?_ ?_) <;> (first | omega | (simp; omega))))
      exact congrArg (AV.int .i64) (dig_wrap d1 d2 (by omega))
    · have hpe : p = s.length := by omega
      rw [hpe, List.drop_length, digs_nil] at hd
      cases hd
end Go.Abs
namespace Go.Abs
def hexS : List UInt8 := [48, 49, 50, 51, 52, 53, 54, 55, 56, 57, 97, 98, 99, 100, 101, 102]
/-- The value of a hexadecimal digit. -/
def digV (c : UInt8) : Option UInt8 := if idxB hexS c < 0 then none else some (UInt8.ofNat (idxB hexS c).toNat)
theorem idx_hex (c : UInt8) : idxB hexS c < 16 := by
  have := idxB_lt c hexS
  have h : hexS.length = 16 := rfl
  omega
attribute [local irreducible] AStep aops AWp Nx awM
set_option maxHeartbeats 0 in
theorem digit_yes (X : Nat → Prop) (c d : UInt8) (h : digV c = some d) : ACalls (E0 X) 52 [.int .u8 (c.toNat : Int)] [] (fun r H' => r = .int .u8 (d.toNat : Int) ∧ H' = []) := by
  have h16 := idx_hex c
  have h0 : ¬ idxB hexS c < 0 := fun h1 => by rw [digV, if_pos h1] at h; cases h
  rw [digV, if_neg h0] at h
  have hd : d.toNat = (idxB hexS c).toNat := by
    cases h
    rw [UInt8.toNat_ofNat']
    omega
  refine acalls_of Proofs.Tryd.func52 rfl Proofs.Tryd.ntmps52 (by kernel_rfl) rfl ?_
  intro hH hargs
  clear hH hargs
  repeat' (first | ((refine Qa rfl ?_); (first | refine Q0 ?_ | refine Q1 ?_); (refine QX rfl rfl ?_)) | refine Qa rfl ?_ | refine Qh ?_ | refine Ql ?_ | refine Qo rfl ?_)
  refine st_call (fun _ => rfl) rfl ?_
  refine ACalls.mono (acalls_pure (E := E0 X) (fun X => sib_c X hexS c) (by simp [IdsLtL, IdsLt]) _) ?_
  rintro r H' ⟨rfl, rfl⟩
  first | refine nx rfl rfl ?_ | refine nx0 ?_
  repeat' (first | ((refine Qa rfl ?_); (first | refine Q0 ?_ | refine Q1 ?_ | refine Q2 rfl ?_); (refine QX rfl rfl ?_)) | refine Qh ?_ | refine Ql ?_ | refine Qo rfl ?_ | refine Qs ?_)
  refine awp_cond_dec rfl (fun h1 => ?_) (fun h1 => ?_)
  · exact absurd h1 h0
  repeat' (first | ((refine Qa rfl ?_); (first | refine Q0 ?_ | refine Q1 ?_ | refine QG rfl rfl rfl rfl ?_); (refine QX rfl rfl ?_)) | refine Qh ?_ | refine Ql ?_ | refine Qm ?_ | refine Qo rfl ?_ | refine Qs ?_)
  refine awp_ret ?_
  refine ⟨_, rfl, ?_, ?_⟩
  · refine congrArg (AV.int .u8) ?_
    rw [hd]
    simp only [IntKind.wrap, IntKind.signed, IntKind.bits]
    simp
    omega
  · rfl
set_option maxHeartbeats 0 in
theorem digit_no (X : Nat → Prop) (c : UInt8) (h : digV c = none) : APanics (E0 X) 52 [.int .u8 (c.toNat : Int)] [] (fun _ => True) := by
  have h0 : idxB hexS c < 0 := Classical.byContradiction fun h1 => by rw [digV, if_neg h1] at h; cases h
  refine apanics_of Proofs.Tryd.func52 rfl Proofs.Tryd.ntmps52 (by kernel_rfl) rfl ?_
  repeat' (first | ((refine Qa rfl ?_); (first | refine Q0 ?_ | refine Q1 ?_); (refine QX rfl rfl ?_)) | refine Qa rfl ?_ | refine Qh ?_ | refine Ql ?_ | refine Qo rfl ?_)
  refine st_call (fun _ => rfl) rfl ?_
  refine ACalls.mono (acalls_pure (E := E0 X) (fun X => sib_c X hexS c) (by simp [IdsLtL, IdsLt]) _) ?_
  rintro r H' ⟨rfl, rfl⟩
  first | refine nx rfl rfl ?_ | refine nx0 ?_
  repeat' (first | ((refine Qa rfl ?_); (first | refine Q0 ?_ | refine Q1 ?_ | refine Q2 rfl ?_); (refine QX rfl rfl ?_)) | refine Qh ?_ | refine Ql ?_ | refine Qo rfl ?_ | refine Qs ?_)
  refine awp_cond_dec rfl (fun h1 => ?_) (fun h1 => ?_)
  · skip
    refine boom_h (by kernel_rfl) fun ch sl hch => ?_
    exact ⟨hch, trivial⟩
  · exact absurd h0 h1
theorem digit_noP (X : Nat → Prop) (c : UInt8) (h : digV c = none) (H : Hp) : APanics (E0 X) 52 [.int .u8 (c.toNat : Int)] H (fun _ => True) := by
  have h1 : ∀ Y, APanics ((E0 X).wX Y) 52 [.int .u8 (c.toNat : Int)] [] (fun _ => True) := fun Y => digit_no Y c h
  have h2 := apanics_pure (E := E0 X) h1 (by simp [IdsLtL, IdsLt]) H
  exact h2.mono fun _ _ => trivial
end Go.Abs
namespace Go.Abs
/-- The byte of two hexadecimal digits. -/
def hexJ (x y : UInt8) : UInt8 := UInt8.ofNat (16 * x.toNat + y.toNat)
theorem digV_lt {c d : UInt8} (h : digV c = some d) : d.toNat < 16 := by
  have h16 := idx_hex c
  have h0 : ¬ idxB hexS c < 0 := fun h1 => by rw [digV, if_pos h1] at h; cases h
  rw [digV, if_neg h0] at h
  cases h
  rw [UInt8.toNat_ofNat']
  omega
theorem or_hex {x y : UInt8} (hx : x.toNat < 16) (hy : y.toNat < 16) : ibits .or .u8 (IntKind.u8.wrap ((x.toNat : Int) * 2 ^ (min (4 : Int).toNat IntKind.u8.bits))) (y.toNat : Int) = ((hexJ x y).toNat : Int) := by
  have h : ((List.range 16).all fun a => (List.range 16).all fun b => decide (ibits .or .u8 (IntKind.u8.wrap ((a : Int) * 2 ^ (min (4 : Int).toNat IntKind.u8.bits))) (b : Int) = ((16 * a + b : Nat) : Int))) = true := by kernel_rfl
  have h1 := List.all_eq_true.1 (List.all_eq_true.1 h x.toNat (by simpa using hx)) y.toNat (by simpa using hy)
  have h2 : (hexJ x y).toNat = 16 * x.toNat + y.toNat := by rw [hexJ, UInt8.toNat_ofNat']; omega
  rw [h2]
  simpa using h1
def pairs : List UInt8 → Option (List UInt8)
  | a :: b :: l => match digV a, digV b with
    | some x, some y => (pairs l).map (hexJ x y :: ·)
    | _, _ => none
  | [] => some []
  | [_] => none
/-- The bytes that a word denotes. -/
def textP (s : List UInt8) : Option (List UInt8) := if s = [45] then some [] else if s = [] ∨ s.length % 2 ≠ 0 then none else pairs s
/-- Bytes as a slice: nil where there are none. -/
def bA (l : List UInt8) : AV := if l = [] then .nils else .sl 1 (l.map u8A)
theorem drop_two {s : List UInt8} {k : Nat} {a b : UInt8} (ha : s[k]? = some a) (hb : s[k + 1]? = some b) : s.drop k = a :: b :: s.drop (k + 2) := by
  have hk : k < s.length := (List.getElem?_eq_some_iff.1 ha).1
  have hk2 : k + 1 < s.length := (List.getElem?_eq_some_iff.1 hb).1
  rw [List.drop_eq_getElem_cons hk, (List.getElem?_eq_some_iff.1 ha).2, List.drop_eq_getElem_cons hk2, (List.getElem?_eq_some_iff.1 hb).2]
theorem u8_ids' (l : List UInt8) {n : Nat} : IdsLtL n (l.map u8A) := idsL_map fun _ => trivial
theorem hok_u8 (es : List UInt8) : HOk 1 [some (.arr (es.map u8A) 5)] := fun j o ho => by
  match j, ho with
  | 0, ho => cases ho; exact u8_ids' _
attribute [local irreducible] AStep aops AWp Nx awM
set_option maxHeartbeats 0 in
theorem text_nil (X : Nat → Prop) : ACalls (E0 X) 31 [.str [45]] [] (fun r H' => r = bA [] ∧ H' = []) := by
  refine acalls_of Proofs.Tryd.func31 rfl Proofs.Tryd.ntmps31 (by kernel_rfl) rfl ?_
  intro hH hargs
  clear hH hargs
  repeat' (first | ((refine Qa rfl ?_); (first | refine Q0 ?_ | refine Q1 ?_ | refine Q2 rfl ?_); (refine QX rfl rfl ?_)) | refine Qh ?_ | refine Ql ?_ | refine Qo rfl ?_ | refine Qp rfl ?_ | refine Qs ?_)
  refine awp_ret ?_
  refine ⟨_, rfl, ?_, ?_⟩
  · rfl
  · rfl
set_option maxHeartbeats 0 in
theorem text_go (X : Nat → Prop) (s l : List UInt8) (h1 : s ≠ [45]) (h2 : s ≠ []) (h3 : s.length % 2 = 0) (hs : s.length ≤ 1073741824) (h : pairs s = some l) : ACalls (E0 X) 31 [.str s] [] (fun r H' => r = .sl 1 (l.map u8A) ∧ H' = []) := by
  refine ACalls.frz0 (e := 5) 1 ?_ rfl rfl (u8_ids' _)
  refine acalls_of Proofs.Tryd.func31 rfl Proofs.Tryd.ntmps31 (by kernel_rfl) rfl ?_
  intro hH hargs
  clear hH hargs
  repeat' (first | ((refine Qa rfl ?_); (first | refine Q0 ?_ | refine Q1 ?_ | refine Q2 rfl ?_); (refine QX rfl rfl ?_)) | refine Qh ?_ | refine Ql ?_ | refine Qo rfl ?_ | refine Qs ?_)
  rw [decide_eq_false (show ¬ s = ({ data := #[45] } : ByteArray).data.toList from h1)]
  repeat' (first | ((refine Qa rfl ?_); (first | refine Q0 ?_ | refine Q2 rfl ?_); (refine QX rfl rfl ?_)) | refine Ql ?_ | refine Qm ?_ | refine Qo rfl ?_ | refine Qq rfl ?_)
  rw [decide_eq_false (show ¬ s = ({ data := #[] } : ByteArray).data.toList from h2)]
  repeat' (first | ((refine Qa rfl ?_); (first | refine Q0 ?_ | refine Q2 rfl ?_ | refine Q5 rfl ?_ | refine Q8 rfl rfl rfl ?_ | refine QB rfl rfl (by decide) ?_); (refine QX rfl rfl ?_)) | refine Qh ?_ | refine Qs ?_)
  have htm : ((s.length : Int)).tmod 2 = ((s.length % 2 : Nat) : Int) := rfl
  refine awp_cond_dec rfl (fun h4 => ?_) (fun h4 => ?_)
  · exact absurd (by rw [htm, h3]; rfl) h4
  repeat' (first | ((refine Qa rfl ?_); (refine Q1 ?_); (refine QX rfl rfl ?_)) | refine Qh ?_ | refine Ql ?_ | refine Qm ?_ | refine Qn ?_ | refine Qo rfl ?_)
  refine awp_loop2 (fun i : Nat × List UInt8 => ⟨[(0, .str s), (3, .own 0 0 i.2.length), (4, .int .i64 ((2 * i.1 : Nat) : Int))], [some (.arr (i.2.map u8A) 5)]⟩) (fun i => 2 * i.1 ≤ s.length ∧ i.2.length = i.1 ∧ (pairs (s.drop (2 * i.1))).map (i.2 ++ ·) = some l) (fun i => s.length - i.1) (0, []) ⟨Nat.zero_le _, rfl, by simp [h]⟩ ?_ ?_
  · refine Imp.trans (imp_nil 3 5 rfl) (imp_cutk 1 (Nat.zero_le _) (hok_u8 []) rfl (by simp) ?_)
    repeat' (first | exact fa_nil | refine fa_cons ⟨?_, ?_⟩ ?_)
    all_goals (try first | exact rfl | exact trivial | (simp [IdsLt]; done) | (simp [get_cons]; done) | (simp [get_cons, *]; done) | (refine congrArg (AV.int .i64) (wrap_eq ?_ ?_ ?_) <;> (first | omega | (simp; omega))))
  rintro ⟨k, o⟩ ⟨hk, ho, hp⟩
  simp only at hk ho hp ⊢
  repeat' (first | ((refine Qa rfl ?_); (first | refine Q0 ?_ | refine Q2 rfl ?_ | refine Q8 rfl rfl rfl ?_); (refine QX rfl rfl ?_)) | refine Qh ?_ | refine Ql ?_ | refine Qo rfl ?_ | refine Qs ?_)
  refine awp_cond_dec rfl (fun h5 => ?_) (fun h5 => ?_)
  · obtain ⟨a, ha⟩ : ∃ a, s[2 * k]? = some a := ⟨_, List.getElem?_eq_getElem (by omega)⟩
    obtain ⟨b, hb⟩ : ∃ b, s[2 * k + 1]? = some b := ⟨_, List.getElem?_eq_getElem (by omega)⟩
    rw [drop_two ha hb] at hp
    unfold pairs at hp
    cases hx : digV a with
    | none => rw [hx] at hp; simp at hp
    | some x =>
      cases hy : digV b with
      | none => rw [hx, hy] at hp; simp at hp
      | some y =>
        rw [hx, hy] at hp
        have hx16 := digV_lt hx
        have hy16 := digV_lt hy
        have e1 : IntKind.i64.wrap (((2 * k : Nat) : Int) + 1) = ((2 * k + 1 : Nat) : Int) := by rw [wrap_in (by omega) (by omega)]; simp
        have e2 : IntKind.i64.wrap (((2 * k : Nat) : Int) + 2) = ((2 * (k + 1) : Nat) : Int) := by rw [wrap_in (by omega) (by omega)]; omega
        repeat' (first | refine Ql ?_ | refine Qm ?_ | refine Qn ?_)
        refine awp_region_any [13] [14] (by exact rfl) ?_
        refine any_lin (fuel := 0) [0, 1, 2, 3, 4, 5, 6, 7, 8, 9, 10, 11, 12, 13, 14] (by exact rfl) (by kernel_rfl) (by kernel_rfl) ?_
        repeat' ((apply Qd rfl rfl rfl rfl); (refine Q0 ?_); (exact QX rfl rfl ⟨rfl, rfl⟩))
        apply ds rfl rfl rfl rfl
        · refine st_index_str (j := 2 * k) rfl rfl rfl rfl (ha) (rfl) ?_
          first | exact nx rfl rfl ⟨rfl, rfl⟩ | exact nx0 ⟨rfl, rfl⟩
        skip
        apply ds rfl rfl rfl rfl
        · refine st_call (fun _ => rfl) rfl ?_
          refine ACalls.mono (acalls_pure (E := E0 X) (fun X => digit_yes X a x hx) (by simp [IdsLtL, IdsLt]) _) ?_
          rintro r H' ⟨rfl, rfl⟩
          first
          | exact nx rfl rfl ⟨rfl, rfl⟩
          | exact nx0 ⟨rfl, rfl⟩
        apply ds rfl rfl rfl rfl
        · refine st_shl rfl rfl (by decide) ?_
          first | exact nx rfl rfl ⟨rfl, rfl⟩ | exact nx0 ⟨rfl, rfl⟩
        repeat' ((apply Qd rfl rfl rfl rfl); (first | refine Q0 ?_ | refine Q2 rfl ?_); (exact QX rfl rfl ⟨rfl, rfl⟩))
        apply ds rfl rfl rfl rfl
        · refine st_index_str (j := 2 * k + 1) rfl rfl rfl rfl (hb) (e1) ?_
          first | exact nx rfl rfl ⟨rfl, rfl⟩ | exact nx0 ⟨rfl, rfl⟩
        skip
        apply ds rfl rfl rfl rfl
        · refine st_call (fun _ => rfl) rfl ?_
          refine ACalls.mono (acalls_pure (E := E0 X) (fun X => digit_yes X b y hy) (by simp [IdsLtL, IdsLt]) _) ?_
          rintro r H' ⟨rfl, rfl⟩
          first
          | exact nx rfl rfl ⟨rfl, rfl⟩
          | exact nx0 ⟨rfl, rfl⟩
        repeat' ((first | refine Qc rfl rfl rfl ?_ | apply Qd rfl rfl rfl rfl); (first | refine Q2 rfl ?_ | refine QR rfl rfl rfl rfl rfl rfl rfl rfl rfl rfl rfl rfl ?_); (exact QX rfl rfl ⟨rfl, rfl⟩))
        rw [or_hex hx16 hy16]
        refine ds_ef rfl rfl rfl ?_
        refine st_app (oid := some 0) (es := o.map u8A) (out := (o ++ [hexJ x y]).map u8A) (n := o.length + 1) (dst_own rfl (List.length_map _).symm) (rfl) (oneEs_u8 [hexJ x y]) (by rw [List.map_append]; rfl) (by rw [List.length_map]; rfl) (by show _ ≤ 9223372036854775807; omega) (by show _ * 1 ≤ _; omega) rfl rfl rfl rfl rfl rfl rfl rfl ?_
        first | refine nx rfl rfl ?_ | refine nx0 ?_
        repeat' (first | ((apply Qe rfl rfl rfl rfl; intro H9); (refine Q1 ?_); (exact QY rfl ⟨rfl, rfl⟩)) | refine Qk ?_ | refine Qw (by kernel_rfl) ?_)
        repeat' (first | ((refine Qa rfl ?_); (first | refine Q0 ?_ | refine Q1 ?_ | refine Q2 rfl ?_); (refine QX rfl rfl ?_)) | refine Qh ?_ | refine Qo rfl ?_ | refine Qs ?_)
        refine ⟨(k + 1, o ++ [hexJ x y]), ⟨by show 2 * (k + 1) ≤ _; omega, by simp [ho], ?_⟩, by show s.length - (k + 1) < s.length - k; omega, imp_tidy [1] (os := [.arr ((o ++ [hexJ x y]).map u8A) 5]) (by simp) rfl ?_ ?_⟩
        · show (pairs (s.drop (2 * (k + 1)))).map ((o ++ [hexJ x y]) ++ ·) = some l
          rw [← hp, Option.map_map, show 2 * k + 2 = 2 * (k + 1) by omega]
          congr 1
          funext z
          simp
        · refine fa_cons (ren_val rfl trivial) (fa_cons ?_ (fa_cons (ren_val ?_ trivial) fa_nil))
          · show Ren _ (.own 1 0 (o.length + 1)) (.own 0 0 (o ++ [hexJ x y]).length)
            rw [List.length_append]
            exact ren_own rfl
          · exact congrArg (AV.int .i64) e2
        · exact os_cons rfl (renO_val rfl (u8_ids' _)) os_nil
  · have hke : 2 * k = s.length := by omega
    rw [hke, List.drop_length] at hp
    have hl : o = l := by simpa [pairs] using hp
    repeat' (first | ((refine Qa rfl ?_); (first | refine Q0 ?_ | refine Q1 ?_); (refine QX rfl rfl ?_)) | refine Qh ?_ | refine Ql ?_ | refine Qo rfl ?_ | refine Qr ?_ | refine Qs ?_)
    refine awp_ret ?_
    subst hl
    exact ⟨_, rfl, 0, _, rfl, by simp, rfl⟩
theorem pairs_len : ∀ (s l : List UInt8), pairs s = some l → s.length = 2 * l.length
  | [], l, h => by simp [pairs] at h; subst h; rfl
  | [_], l, h => by simp [pairs] at h
  | a :: b :: s, l, h => by
    unfold pairs at h
    cases hx : digV a with
    | none => rw [hx] at h; simp at h
    | some x =>
      cases hy : digV b with
      | none => rw [hx, hy] at h; simp at h
      | some y =>
        rw [hx, hy] at h
        cases hr : pairs s with
        | none => rw [hr] at h; simp at h
        | some r =>
          rw [hr] at h
          simp only [Option.map_some, Option.some.injEq] at h
          subst h
          have := pairs_len s r hr
          simp
          omega
theorem text_yes (X : Nat → Prop) (s l : List UInt8) (hs : s.length ≤ 1073741824) (h : textP s = some l) : ACalls (E0 X) 31 [.str s] [] (fun r H' => r = bA l ∧ H' = []) := by
  by_cases h1 : s = [45]
  · rw [textP, if_pos h1] at h
    cases h
    subst h1
    exact text_nil X
  · rw [textP, if_neg h1] at h
    by_cases h2 : s = [] ∨ s.length % 2 ≠ 0
    · rw [if_pos h2] at h; cases h
    · rw [if_neg h2] at h
      have h3 : s ≠ [] := fun e => h2 (.inl e)
      have hl := pairs_len s l h
      have h0 : 0 < s.length := List.length_pos_iff.2 h3
      have hne : l ≠ [] := fun e => by subst e; rw [List.length_nil] at hl; omega
      rw [bA, if_neg hne]
      exact text_go X s l h1 h3 (by omega) hs h
end Go.Abs
namespace Go.Abs
attribute [local irreducible] AStep aops AWp Nx awM APanic
set_option maxHeartbeats 0 in
theorem text_bad (X : Nat → Prop) (s : List UInt8) (h1 : s ≠ [45]) (h2 : s = [] ∨ s.length % 2 ≠ 0) : APanics (E0 X) 31 [.str s] [] (fun _ => True) := by
  by_cases hs : s = []
  · subst hs
    refine apanics_of Proofs.Tryd.func31 rfl Proofs.Tryd.ntmps31 (by kernel_rfl) rfl ?_
    repeat' (refine Ql ?_)
    refine Qo rfl ?_
    repeat' (first | ((refine Qa rfl ?_); (refine Q1 ?_); (refine QX rfl rfl ?_)) | refine Qh ?_ | refine Ql ?_)
    refine Qo rfl ?_
    repeat' (first | ((refine Qa rfl ?_); (first | refine Q0 ?_ | refine Q2 rfl ?_); (refine QX rfl rfl ?_)) | refine Qh ?_ | refine Ql ?_ | refine Qm ?_ | refine Qq rfl ?_)
    refine Qo rfl ?_
    repeat' (first | ((refine Qa rfl ?_); (first | refine Q0 ?_ | refine Q2 rfl ?_ | refine Q5 rfl ?_); (refine QX rfl rfl ?_)) | refine Qh ?_ | refine Qi rfl ?_ | refine Qp rfl ?_)
    refine boom_h (by kernel_rfl) fun ch sl hch => ?_
    exact ⟨hch, trivial⟩
  · have hm : s.length % 2 ≠ 0 := h2.resolve_left hs
    have htm : ((s.length : Int)).tmod 2 = ((s.length % 2 : Nat) : Int) := rfl
    refine apanics_of Proofs.Tryd.func31 rfl Proofs.Tryd.ntmps31 (by kernel_rfl) rfl ?_
    repeat' (first | ((refine Qa rfl ?_); (first | refine Q0 ?_ | refine Q1 ?_ | refine Q2 rfl ?_); (refine QX rfl rfl ?_)) | refine Qh ?_ | refine Ql ?_ | refine Qo rfl ?_ | refine Qs ?_)
    rw [decide_eq_false (show ¬ s = ({ data := #[45] } : ByteArray).data.toList from h1)]
    repeat' (first | ((refine Qa rfl ?_); (first | refine Q0 ?_ | refine Q2 rfl ?_); (refine QX rfl rfl ?_)) | refine Ql ?_ | refine Qm ?_ | refine Qo rfl ?_ | refine Qq rfl ?_)
    rw [decide_eq_false (show ¬ s = ({ data := #[] } : ByteArray).data.toList from hs)]
    repeat' (first | ((refine Qa rfl ?_); (first | refine Q0 ?_ | refine Q2 rfl ?_ | refine Q5 rfl ?_ | refine Q8 rfl rfl rfl ?_ | refine QB rfl rfl (by decide) ?_); (refine QX rfl rfl ?_)) | refine Qh ?_ | refine Qs ?_)
    refine awp_cond_dec rfl (fun h4 => ?_) (fun h4 => ?_)
    · skip
      refine boom_h (by kernel_rfl) fun ch sl hch => ?_
      exact ⟨hch, trivial⟩
    · exact absurd (show ((s.length : Int)).tmod 2 ≠ 0 by rw [htm]; omega) h4
set_option maxHeartbeats 0 in
theorem text_stop (X : Nat → Prop) (s : List UInt8) (h1 : s ≠ [45]) (h2 : s ≠ []) (h3 : s.length % 2 = 0) (hs : s.length ≤ 1073741824) (h : pairs s = none) : APanics (E0 X) 31 [.str s] [] (fun _ => True) := by
  refine apanics_of Proofs.Tryd.func31 rfl Proofs.Tryd.ntmps31 (by kernel_rfl) rfl ?_
  repeat' (first | ((refine Qa rfl ?_); (first | refine Q0 ?_ | refine Q1 ?_ | refine Q2 rfl ?_); (refine QX rfl rfl ?_)) | refine Qh ?_ | refine Ql ?_ | refine Qo rfl ?_ | refine Qs ?_)
  rw [decide_eq_false (show ¬ s = ({ data := #[45] } : ByteArray).data.toList from h1)]
  repeat' (first | ((refine Qa rfl ?_); (first | refine Q0 ?_ | refine Q2 rfl ?_); (refine QX rfl rfl ?_)) | refine Ql ?_ | refine Qm ?_ | refine Qo rfl ?_ | refine Qq rfl ?_)
  rw [decide_eq_false (show ¬ s = ({ data := #[] } : ByteArray).data.toList from h2)]
  repeat' (first | ((refine Qa rfl ?_); (first | refine Q0 ?_ | refine Q2 rfl ?_ | refine Q5 rfl ?_ | refine Q8 rfl rfl rfl ?_ | refine QB rfl rfl (by decide) ?_); (refine QX rfl rfl ?_)) | refine Qh ?_ | refine Qs ?_)
  have htm : ((s.length : Int)).tmod 2 = ((s.length % 2 : Nat) : Int) := rfl
  refine awp_cond_dec rfl (fun h4 => ?_) (fun h4 => ?_)
  · exact absurd (by rw [htm, h3]; rfl) h4
  repeat' (first | ((refine Qa rfl ?_); (refine Q1 ?_); (refine QX rfl rfl ?_)) | refine Qh ?_ | refine Ql ?_ | refine Qm ?_ | refine Qn ?_ | refine Qo rfl ?_)
  refine awp_loop2 (fun i : Nat × List UInt8 => ⟨[(0, .str s), (3, .own 0 0 i.2.length), (4, .int .i64 ((2 * i.1 : Nat) : Int))], [some (.arr (i.2.map u8A) 5)]⟩) (fun i => 2 * i.1 ≤ s.length ∧ i.2.length = i.1 ∧ pairs (s.drop (2 * i.1)) = none) (fun i => s.length - i.1) (0, []) ⟨Nat.zero_le _, rfl, by simp [h]⟩ ?_ ?_
  · refine Imp.trans (imp_nil 3 5 rfl) (imp_cutk 1 (Nat.zero_le _) (hok_u8 []) rfl (by simp) ?_)
    repeat' (first | exact fa_nil | refine fa_cons ⟨?_, ?_⟩ ?_)
    all_goals (try first | exact rfl | exact trivial | (simp [IdsLt]; done) | (simp [get_cons]; done) | (simp [get_cons, *]; done) | (refine congrArg (AV.int .i64) (wrap_eq ?_ ?_ ?_) <;> (first | omega | (simp; omega))))
  rintro ⟨k, o⟩ ⟨hk, ho, hp⟩
  simp only at hk ho hp ⊢
  repeat' (first | ((refine Qa rfl ?_); (first | refine Q0 ?_ | refine Q2 rfl ?_ | refine Q8 rfl rfl rfl ?_); (refine QX rfl rfl ?_)) | refine Qh ?_ | refine Ql ?_ | refine Qo rfl ?_ | refine Qs ?_)
  refine awp_cond_dec rfl (fun h5 => ?_) (fun h5 => ?_)
  · obtain ⟨a, ha⟩ : ∃ a, s[2 * k]? = some a := ⟨_, List.getElem?_eq_getElem (by omega)⟩
    obtain ⟨b, hb⟩ : ∃ b, s[2 * k + 1]? = some b := ⟨_, List.getElem?_eq_getElem (by omega)⟩
    rw [drop_two ha hb] at hp
    unfold pairs at hp
    have e1 : IntKind.i64.wrap (((2 * k : Nat) : Int) + 1) = ((2 * k + 1 : Nat) : Int) := by rw [wrap_in (by omega) (by omega)]; simp
    have e2 : IntKind.i64.wrap (((2 * k : Nat) : Int) + 2) = ((2 * (k + 1) : Nat) : Int) := by rw [wrap_in (by omega) (by omega)]; omega
    cases hx : digV a with
    | none =>
      cases hy : digV b with
      | none =>
        repeat' (first | refine Ql ?_ | refine Qm ?_ | refine Qn ?_)
        refine awp_region_panicD [0, 1, 2, 3, 6, 7, 8, 9] [4, 10] 4 [(23, .own 0 0 o.length), (24, .str s), (25, .int .i64 ((2 * k : Nat) : Int)), (26, .int .u8 (a.toNat : Int)), (29, .str s), (30, .int .i64 ((2 * k : Nat) : Int)), (31, .int .i64 (IntKind.i64.wrap (((2 * k : Nat) : Int) + 1))), (32, .int .u8 (b.toNat : Int))] (K := fun _ => True) (by exact rfl) (by kernel_rfl) ?_ ?_ ?_
        · refine okL_cons rfl ?_ ?_
          · first | refine st_move ?_ | refine st_assign ?_ | refine st_bin rfl ?_ | refine st_shl rfl rfl (by decide) ?_ | refine st_load rfl rfl rfl ?_
            exact ⟨fun d hd => by cases hd; rfl, rfl⟩
          refine okL_cons rfl ?_ ?_
          · first | refine st_move ?_ | refine st_assign ?_ | refine st_bin rfl ?_ | refine st_shl rfl rfl (by decide) ?_ | refine st_load rfl rfl rfl ?_
            exact ⟨fun d hd => by cases hd; rfl, rfl⟩
          refine okL_cons rfl ?_ ?_
          · first | refine st_move ?_ | refine st_assign ?_ | refine st_bin rfl ?_ | refine st_shl rfl rfl (by decide) ?_ | refine st_load rfl rfl rfl ?_
            exact ⟨fun d hd => by cases hd; rfl, rfl⟩
          refine okL_cons rfl ?_ ?_
          · refine st_index_str (j := 2 * k) rfl rfl rfl rfl (ha) (rfl) ?_
            exact ⟨fun d hd => by cases hd; rfl, rfl⟩
          refine okL_cons rfl ?_ ?_
          · first | refine st_move ?_ | refine st_assign ?_ | refine st_bin rfl ?_ | refine st_shl rfl rfl (by decide) ?_ | refine st_load rfl rfl rfl ?_
            exact ⟨fun d hd => by cases hd; rfl, rfl⟩
          refine okL_cons rfl ?_ ?_
          · first | refine st_move ?_ | refine st_assign ?_ | refine st_bin rfl ?_ | refine st_shl rfl rfl (by decide) ?_ | refine st_load rfl rfl rfl ?_
            exact ⟨fun d hd => by cases hd; rfl, rfl⟩
          refine okL_cons rfl ?_ ?_
          · first | refine st_move ?_ | refine st_assign ?_ | refine st_bin rfl ?_ | refine st_shl rfl rfl (by decide) ?_ | refine st_load rfl rfl rfl ?_
            exact ⟨fun d hd => by cases hd; rfl, rfl⟩
          refine okL_cons rfl ?_ ?_
          · refine st_index_str (j := 2 * k + 1) rfl rfl rfl rfl (hb) (e1) ?_
            exact ⟨fun d hd => by cases hd; rfl, rfl⟩
          exact okL_nil
        · refine pnL_cons rfl ?_ ?_
          · refine pn_call (fun _ => rfl) rfl ?_
            exact digit_noP X a hx _
          refine pnL_cons rfl ?_ ?_
          · refine pn_call (fun _ => rfl) rfl ?_
            exact digit_noP X b hy _
          exact pnL_nil
        · intro ch H' hch _
          exact ⟨hch, trivial⟩
      | some y =>
        repeat' (first | refine Ql ?_ | refine Qm ?_ | refine Qn ?_)
        refine awp_region_panicD [0, 1, 2, 3, 6, 7, 8, 9, 10] [4] 4 [(23, .own 0 0 o.length), (24, .str s), (25, .int .i64 ((2 * k : Nat) : Int)), (26, .int .u8 (a.toNat : Int)), (29, .str s), (30, .int .i64 ((2 * k : Nat) : Int)), (31, .int .i64 (IntKind.i64.wrap (((2 * k : Nat) : Int) + 1))), (32, .int .u8 (b.toNat : Int)), (33, .int .u8 (y.toNat : Int))] (K := fun _ => True) (by exact rfl) (by kernel_rfl) ?_ ?_ ?_
        · refine okL_cons rfl ?_ ?_
          · first | refine st_move ?_ | refine st_assign ?_ | refine st_bin rfl ?_ | refine st_shl rfl rfl (by decide) ?_ | refine st_load rfl rfl rfl ?_
            exact ⟨fun d hd => by cases hd; rfl, rfl⟩
          refine okL_cons rfl ?_ ?_
          · first | refine st_move ?_ | refine st_assign ?_ | refine st_bin rfl ?_ | refine st_shl rfl rfl (by decide) ?_ | refine st_load rfl rfl rfl ?_
            exact ⟨fun d hd => by cases hd; rfl, rfl⟩
          refine okL_cons rfl ?_ ?_
          · first | refine st_move ?_ | refine st_assign ?_ | refine st_bin rfl ?_ | refine st_shl rfl rfl (by decide) ?_ | refine st_load rfl rfl rfl ?_
            exact ⟨fun d hd => by cases hd; rfl, rfl⟩
          refine okL_cons rfl ?_ ?_
          · refine st_index_str (j := 2 * k) rfl rfl rfl rfl (ha) (rfl) ?_
            exact ⟨fun d hd => by cases hd; rfl, rfl⟩
          refine okL_cons rfl ?_ ?_
          · first | refine st_move ?_ | refine st_assign ?_ | refine st_bin rfl ?_ | refine st_shl rfl rfl (by decide) ?_ | refine st_load rfl rfl rfl ?_
            exact ⟨fun d hd => by cases hd; rfl, rfl⟩
          refine okL_cons rfl ?_ ?_
          · first | refine st_move ?_ | refine st_assign ?_ | refine st_bin rfl ?_ | refine st_shl rfl rfl (by decide) ?_ | refine st_load rfl rfl rfl ?_
            exact ⟨fun d hd => by cases hd; rfl, rfl⟩
          refine okL_cons rfl ?_ ?_
          · first | refine st_move ?_ | refine st_assign ?_ | refine st_bin rfl ?_ | refine st_shl rfl rfl (by decide) ?_ | refine st_load rfl rfl rfl ?_
            exact ⟨fun d hd => by cases hd; rfl, rfl⟩
          refine okL_cons rfl ?_ ?_
          · refine st_index_str (j := 2 * k + 1) rfl rfl rfl rfl (hb) (e1) ?_
            exact ⟨fun d hd => by cases hd; rfl, rfl⟩
          refine okL_cons rfl ?_ ?_
          · refine st_call (fun _ => rfl) rfl ?_
            refine ACalls.mono (acalls_pure (E := E0 X) (fun X => digit_yes X b y hy) (by simp [IdsLtL, IdsLt]) _) ?_
            rintro r H' ⟨rfl, rfl⟩
            exact ⟨fun d hd => by cases hd; rfl, rfl⟩
          exact okL_nil
        · refine pnL_cons rfl ?_ ?_
          · refine pn_call (fun _ => rfl) rfl ?_
            exact digit_noP X a hx _
          exact pnL_nil
        · intro ch H' hch _
          exact ⟨hch, trivial⟩
    | some x =>
      have hx16 := digV_lt hx
      cases hy : digV b with
      | none =>
        repeat' (first | refine Ql ?_ | refine Qm ?_ | refine Qn ?_)
        refine awp_region_panicD [0, 1, 2, 3, 4, 5, 6, 7, 8, 9] [10] 10 [(23, .own 0 0 o.length), (24, .str s), (25, .int .i64 ((2 * k : Nat) : Int)), (26, .int .u8 (a.toNat : Int)), (27, .int .u8 (x.toNat : Int)), (28, .int .u8 (IntKind.u8.wrap ((x.toNat : Int) * 2 ^ (min (4 : Int).toNat IntKind.u8.bits)))), (29, .str s), (30, .int .i64 ((2 * k : Nat) : Int)), (31, .int .i64 (IntKind.i64.wrap (((2 * k : Nat) : Int) + 1))), (32, .int .u8 (b.toNat : Int))] (K := fun _ => True) (by exact rfl) (by kernel_rfl) ?_ ?_ ?_
        · refine okL_cons rfl ?_ ?_
          · first | refine st_move ?_ | refine st_assign ?_ | refine st_bin rfl ?_ | refine st_shl rfl rfl (by decide) ?_ | refine st_load rfl rfl rfl ?_
            exact ⟨fun d hd => by cases hd; rfl, rfl⟩
          refine okL_cons rfl ?_ ?_
          · first | refine st_move ?_ | refine st_assign ?_ | refine st_bin rfl ?_ | refine st_shl rfl rfl (by decide) ?_ | refine st_load rfl rfl rfl ?_
            exact ⟨fun d hd => by cases hd; rfl, rfl⟩
          refine okL_cons rfl ?_ ?_
          · first | refine st_move ?_ | refine st_assign ?_ | refine st_bin rfl ?_ | refine st_shl rfl rfl (by decide) ?_ | refine st_load rfl rfl rfl ?_
            exact ⟨fun d hd => by cases hd; rfl, rfl⟩
          refine okL_cons rfl ?_ ?_
          · refine st_index_str (j := 2 * k) rfl rfl rfl rfl (ha) (rfl) ?_
            exact ⟨fun d hd => by cases hd; rfl, rfl⟩
          refine okL_cons rfl ?_ ?_
          · refine st_call (fun _ => rfl) rfl ?_
            refine ACalls.mono (acalls_pure (E := E0 X) (fun X => digit_yes X a x hx) (by simp [IdsLtL, IdsLt]) _) ?_
            rintro r H' ⟨rfl, rfl⟩
            exact ⟨fun d hd => by cases hd; rfl, rfl⟩
          refine okL_cons rfl ?_ ?_
          · first | refine st_move ?_ | refine st_assign ?_ | refine st_bin rfl ?_ | refine st_shl rfl rfl (by decide) ?_ | refine st_load rfl rfl rfl ?_
            exact ⟨fun d hd => by cases hd; rfl, rfl⟩
          refine okL_cons rfl ?_ ?_
          · first | refine st_move ?_ | refine st_assign ?_ | refine st_bin rfl ?_ | refine st_shl rfl rfl (by decide) ?_ | refine st_load rfl rfl rfl ?_
            exact ⟨fun d hd => by cases hd; rfl, rfl⟩
          refine okL_cons rfl ?_ ?_
          · first | refine st_move ?_ | refine st_assign ?_ | refine st_bin rfl ?_ | refine st_shl rfl rfl (by decide) ?_ | refine st_load rfl rfl rfl ?_
            exact ⟨fun d hd => by cases hd; rfl, rfl⟩
          refine okL_cons rfl ?_ ?_
          · first | refine st_move ?_ | refine st_assign ?_ | refine st_bin rfl ?_ | refine st_shl rfl rfl (by decide) ?_ | refine st_load rfl rfl rfl ?_
            exact ⟨fun d hd => by cases hd; rfl, rfl⟩
          refine okL_cons rfl ?_ ?_
          · refine st_index_str (j := 2 * k + 1) rfl rfl rfl rfl (hb) (e1) ?_
            exact ⟨fun d hd => by cases hd; rfl, rfl⟩
          exact okL_nil
        · refine pnL_cons rfl ?_ ?_
          · refine pn_call (fun _ => rfl) rfl ?_
            exact digit_noP X b hy _
          exact pnL_nil
        · intro ch H' hch _
          exact ⟨hch, trivial⟩
      | some y =>
        have hy16 := digV_lt hy
        rw [hx, hy] at hp
        repeat' (first | refine Ql ?_ | refine Qm ?_ | refine Qn ?_)
        refine awp_region_any [13] [14] (by exact rfl) ?_
        refine any_lin (fuel := 0) [0, 1, 2, 3, 4, 5, 6, 7, 8, 9, 10, 11, 12, 13, 14] (by exact rfl) (by kernel_rfl) (by kernel_rfl) ?_
        repeat' ((apply Qd rfl rfl rfl rfl); (refine Q0 ?_); (exact QX rfl rfl ⟨rfl, rfl⟩))
        apply ds rfl rfl rfl rfl
        · refine st_index_str (j := 2 * k) rfl rfl rfl rfl (ha) (rfl) ?_
          first | exact nx rfl rfl ⟨rfl, rfl⟩ | exact nx0 ⟨rfl, rfl⟩
        skip
        apply ds rfl rfl rfl rfl
        · refine st_call (fun _ => rfl) rfl ?_
          refine ACalls.mono (acalls_pure (E := E0 X) (fun X => digit_yes X a x hx) (by simp [IdsLtL, IdsLt]) _) ?_
          rintro r H' ⟨rfl, rfl⟩
          first
          | exact nx rfl rfl ⟨rfl, rfl⟩
          | exact nx0 ⟨rfl, rfl⟩
        apply ds rfl rfl rfl rfl
        · refine st_shl rfl rfl (by decide) ?_
          first | exact nx rfl rfl ⟨rfl, rfl⟩ | exact nx0 ⟨rfl, rfl⟩
        repeat' ((apply Qd rfl rfl rfl rfl); (first | refine Q0 ?_ | refine Q2 rfl ?_); (exact QX rfl rfl ⟨rfl, rfl⟩))
        apply ds rfl rfl rfl rfl
        · refine st_index_str (j := 2 * k + 1) rfl rfl rfl rfl (hb) (e1) ?_
          first | exact nx rfl rfl ⟨rfl, rfl⟩ | exact nx0 ⟨rfl, rfl⟩
        skip
        apply ds rfl rfl rfl rfl
        · refine st_call (fun _ => rfl) rfl ?_
          refine ACalls.mono (acalls_pure (E := E0 X) (fun X => digit_yes X b y hy) (by simp [IdsLtL, IdsLt]) _) ?_
          rintro r H' ⟨rfl, rfl⟩
          first
          | exact nx rfl rfl ⟨rfl, rfl⟩
          | exact nx0 ⟨rfl, rfl⟩
        repeat' ((first | refine Qc rfl rfl rfl ?_ | apply Qd rfl rfl rfl rfl); (first | refine Q2 rfl ?_ | refine QR rfl rfl rfl rfl rfl rfl rfl rfl rfl rfl rfl rfl ?_); (exact QX rfl rfl ⟨rfl, rfl⟩))
        rw [or_hex hx16 hy16]
        refine ds_ef rfl rfl rfl ?_
        refine st_app (oid := some 0) (es := o.map u8A) (out := (o ++ [hexJ x y]).map u8A) (n := o.length + 1) (dst_own rfl (List.length_map _).symm) (rfl) (oneEs_u8 [hexJ x y]) (by rw [List.map_append]; rfl) (by rw [List.length_map]; rfl) (by show _ ≤ 9223372036854775807; omega) (by show _ * 1 ≤ _; omega) rfl rfl rfl rfl rfl rfl rfl rfl ?_
        first | refine nx rfl rfl ?_ | refine nx0 ?_
        repeat' (first | ((apply Qe rfl rfl rfl rfl; intro H9); (refine Q1 ?_); (exact QY rfl ⟨rfl, rfl⟩)) | refine Qk ?_ | refine Qw (by kernel_rfl) ?_)
        repeat' (first | ((refine Qa rfl ?_); (first | refine Q0 ?_ | refine Q1 ?_ | refine Q2 rfl ?_); (refine QX rfl rfl ?_)) | refine Qh ?_ | refine Qo rfl ?_ | refine Qs ?_)
        refine ⟨(k + 1, o ++ [hexJ x y]), ⟨by show 2 * (k + 1) ≤ _; omega, by simp [ho], ?_⟩, by show s.length - (k + 1) < s.length - k; omega, imp_tidy [1] (os := [.arr ((o ++ [hexJ x y]).map u8A) 5]) (by simp) rfl ?_ ?_⟩
        · show pairs (s.drop (2 * (k + 1))) = none
          rw [show 2 * k + 2 = 2 * (k + 1) by omega] at hp
          simpa using hp
        · refine fa_cons (ren_val rfl trivial) (fa_cons ?_ (fa_cons (ren_val ?_ trivial) fa_nil))
          · show Ren _ (.own 1 0 (o.length + 1)) (.own 0 0 (o ++ [hexJ x y]).length)
            rw [List.length_append]
            exact ren_own rfl
          · exact congrArg (AV.int .i64) e2
        · exact os_cons rfl (renO_val rfl (u8_ids' _)) os_nil
  · have hke : 2 * k = s.length := by omega
    rw [hke, List.drop_length] at hp
    simp [pairs] at hp
theorem text_no (X : Nat → Prop) (s : List UInt8) (hs : s.length ≤ 1073741824) (h : textP s = none) : APanics (E0 X) 31 [.str s] [] (fun _ => True) := by
  by_cases h1 : s = [45]
  · rw [textP, if_pos h1] at h; cases h
  · rw [textP, if_neg h1] at h
    by_cases h2 : s = [] ∨ s.length % 2 ≠ 0
    · exact text_bad X s h1 h2
    · rw [if_neg h2] at h
      exact text_stop X s h1 (fun e => h2 (.inl e)) (by omega) hs h
theorem text_noP (X : Nat → Prop) (s : List UInt8) (hs : s.length ≤ 1073741824) (h : textP s = none) (H : Hp) : APanics (E0 X) 31 [.str s] H (fun _ => True) := by
  have h1 : ∀ Y, APanics ((E0 X).wX Y) 31 [.str s] [] (fun _ => True) := fun Y => text_no Y s hs h
  have h2 := apanics_pure (E := E0 X) h1 (by simp [IdsLtL, IdsLt]) H
  exact h2.mono fun _ _ => trivial
end Go.Abs

