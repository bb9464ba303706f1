/- Layings of the library's contracts at this seat. Printed by a program. Joined texts, each with what its own name promises; no condition beyond those stated. -/
import Derived.Shelf.Strings.SlTrimAscii
import Derived.Shelf.Strings.Split
import Derived.Shelf.Strings.Cut
import Derived.Shelf.Strings.OnBuilder
import Derived.Shelf.Strconv.Itoa3
import Derived.Shelf.Slices.Turned
import Derived.Test.YthiglfibmbnbeaaDoorProg
import Derived.KernelRfl
import Derived.Test.YthiglfibmbnbeaaDoorNA
namespace Go.Proofs
def Tryd.trimL_ren : Go.Shelf.Ren := ⟨fun | 160 => 53 | 232 => 64 | 231 => 63 | 227 => 65 | 234 => 67 | 233 => 66 | 236 => 69 | 235 => 68 | 228 => 79 | 271 => 81 | 151 => 80 | 197 => 72 | 120 => 92 | 152 => 91 | 260 => 82 | 137 => 62 | 119 => 99 | 224 => 84 | 225 => 83 | 217 => 78 | 266 => 90 | n => n, fun | 9 => 9 | 4 => 4 | 3 => 3 | 5 => 5 | 117 => 94 | 116 => 93 | 0 => 0 | 124 => 97 | 21 => 21 | 105 => 98 | 46 => 82 | 119 => 114 | 139 => 117 | 138 => 116 | n => n, fun | 3 => 1 | 4 => 2 | n => n⟩
theorem Tryd.trimL : Go.Proofs.Lays.n160 Tryd.prog Tryd.trimL_ren where
  mixed := by kernel_rfl
  f119 := Tryd.func99.trans (congrArg some (by kernel_rfl))
  f120 := Tryd.func92.trans (congrArg some (by kernel_rfl))
  f137 := Tryd.func62.trans (congrArg some (by kernel_rfl))
  f151 := Tryd.func80.trans (congrArg some (by kernel_rfl))
  f152 := Tryd.func91.trans (congrArg some (by kernel_rfl))
  f160 := Tryd.func53.trans (congrArg some (by kernel_rfl))
  f197 := Tryd.func72.trans (congrArg some (by kernel_rfl))
  f217 := Tryd.func78.trans (congrArg some (by kernel_rfl))
  f224 := Tryd.func84.trans (congrArg some (by kernel_rfl))
  f225 := Tryd.func83.trans (congrArg some (by kernel_rfl))
  f227 := Tryd.func65.trans (congrArg some (by kernel_rfl))
  f228 := Tryd.func79.trans (congrArg some (by kernel_rfl))
  f231 := Tryd.func63.trans (congrArg some (by kernel_rfl))
  f232 := Tryd.func64.trans (congrArg some (by kernel_rfl))
  f233 := Tryd.func66.trans (congrArg some (by kernel_rfl))
  f234 := Tryd.func67.trans (congrArg some (by kernel_rfl))
  f235 := Tryd.func68.trans (congrArg some (by kernel_rfl))
  f236 := Tryd.func69.trans (congrArg some (by kernel_rfl))
  f260 := Tryd.func82.trans (congrArg some (by kernel_rfl))
  f266 := Tryd.func90.trans (congrArg some (by kernel_rfl))
  f271 := Tryd.func81.trans (congrArg some (by kernel_rfl))
  t0 := Tryd.underlying0
  a0 := Tryd.isAgg0
  z0 := Tryd.sizeOf0
  v0 := Tryd.zeroValue0
  t3 := Tryd.underlying3
  a3 := Tryd.isAgg3
  z3 := Tryd.sizeOf3
  v3 := Tryd.zeroValue3
  t4 := Tryd.underlying4
  a4 := Tryd.isAgg4
  z4 := Tryd.sizeOf4
  v4 := Tryd.zeroValue4
  t5 := Tryd.underlying5
  a5 := Tryd.isAgg5
  z5 := Tryd.sizeOf5
  v5 := Tryd.zeroValue5
  t9 := Tryd.underlying9
  a9 := Tryd.isAgg9
  z9 := Tryd.sizeOf9
  v9 := Tryd.zeroValue9
  t21 := Tryd.underlying21
  a21 := Tryd.isAgg21
  z21 := Tryd.sizeOf21
  v21 := Tryd.zeroValue21
  t46 := Tryd.underlying82
  a46 := Tryd.isAgg82
  z46 := Tryd.sizeOf82
  v46 := Tryd.zeroValue82
  t105 := Tryd.underlying98
  a105 := Tryd.isAgg98
  z105 := Tryd.sizeOf98
  v105 := Tryd.zeroValue98
  t116 := Tryd.underlying93
  a116 := Tryd.isAgg93
  z116 := Tryd.sizeOf93
  t117 := Tryd.underlying94
  a117 := Tryd.isAgg94
  z117 := Tryd.sizeOf94
  v117 := Tryd.zeroValue94
  t119 := Tryd.underlying114
  a119 := Tryd.isAgg114
  z119 := Tryd.sizeOf114
  t124 := Tryd.underlying97
  a124 := Tryd.isAgg97
  z124 := Tryd.sizeOf97
  v124 := Tryd.zeroValue97
  t138 := Tryd.underlying116
  a138 := Tryd.isAgg116
  z138 := Tryd.sizeOf116
  v138 := Tryd.zeroValue116
  t139 := Tryd.underlying117
  a139 := Tryd.isAgg117
  z139 := Tryd.sizeOf117
  v139 := Tryd.zeroValue117
  g3 := by kernel_rfl
  g4 := by kernel_rfl
def Tryd.splitL_ren : Go.Shelf.Ren := ⟨fun | 146 => 19 | 221 => 35 | 268 => 55 | 138 => 56 | 143 => 57 | 195 => 71 | 197 => 72 | 218 => 73 | 219 => 74 | 260 => 82 | 217 => 78 | 225 => 83 | 224 => 84 | 267 => 85 | 266 => 90 | 314 => 93 | n => n, fun | 9 => 9 | 31 => 41 | 3 => 3 | 4 => 4 | 0 => 0 | 105 => 98 | 21 => 21 | 5 => 5 | 46 => 82 | 119 => 114 | 139 => 117 | 138 => 116 | 146 => 119 | 51 => 118 | n => n, fun | 1 => 0 | 3 => 1 | 4 => 2 | n => n⟩
def Tryd.cutL_ren : Go.Shelf.Ren := ⟨fun | 145 => 54 | 220 => 70 | 219 => 74 | 217 => 78 | 225 => 83 | 224 => 84 | 267 => 85 | 266 => 90 | 314 => 93 | n => n, fun | 9 => 9 | 4 => 4 | 59 => 84 | 3 => 3 | 5 => 5 | 46 => 82 | 146 => 119 | 51 => 118 | n => n, fun | 1 => 0 | n => n⟩
def Tryd.joinL_ren : Go.Shelf.Ren := ⟨fun | 156 => 23 | 165 => 41 | 166 => 42 | 169 => 43 | 240 => 59 | 241 => 60 | 276 => 75 | 277 => 76 | n => n, fun | 31 => 41 | 9 => 9 | 3 => 3 | 4 => 4 | 0 => 0 | 20 => 20 | 72 => 71 | 76 => 75 | 70 => 69 | 37 => 22 | 75 => 74 | 127 => 89 | 164 => 100 | 5 => 5 | 80 => 77 | n => n, fun | n => n⟩
theorem Tryd.joinL : Go.Proofs.Lays.n156 Tryd.prog Tryd.joinL_ren where
  mixed := by kernel_rfl
  f156 := Tryd.func23.trans (congrArg some (by kernel_rfl))
  f165 := Tryd.func41.trans (congrArg some (by kernel_rfl))
  f166 := Tryd.func42.trans (congrArg some (by kernel_rfl))
  f169 := Tryd.func43.trans (congrArg some (by kernel_rfl))
  f240 := Tryd.func59.trans (congrArg some (by kernel_rfl))
  f241 := Tryd.func60.trans (congrArg some (by kernel_rfl))
  f276 := Tryd.func75.trans (congrArg some (by kernel_rfl))
  f277 := Tryd.func76.trans (congrArg some (by kernel_rfl))
  t0 := Tryd.underlying0
  a0 := Tryd.isAgg0
  z0 := Tryd.sizeOf0
  v0 := Tryd.zeroValue0
  t3 := Tryd.underlying3
  a3 := Tryd.isAgg3
  z3 := Tryd.sizeOf3
  v3 := Tryd.zeroValue3
  t4 := Tryd.underlying4
  a4 := Tryd.isAgg4
  z4 := Tryd.sizeOf4
  v4 := Tryd.zeroValue4
  t9 := Tryd.underlying9
  a9 := Tryd.isAgg9
  z9 := Tryd.sizeOf9
  v9 := Tryd.zeroValue9
  t20 := Tryd.underlying20
  a20 := Tryd.isAgg20
  z20 := Tryd.sizeOf20
  v20 := Tryd.zeroValue20
  t31 := Tryd.underlying41
  a31 := Tryd.isAgg41
  z31 := Tryd.sizeOf41
  v31 := Tryd.zeroValue41
  t37 := Tryd.underlying22
  a37 := Tryd.isAgg22
  z37 := Tryd.sizeOf22
  v37 := Tryd.zeroValue22
  t70 := Tryd.underlying69
  a70 := Tryd.isAgg69
  z70 := Tryd.sizeOf69
  v70 := Tryd.zeroValue69
  t72 := Tryd.underlying71
  a72 := Tryd.isAgg71
  z72 := Tryd.sizeOf71
  v72 := Tryd.zeroValue71
  t75 := Tryd.underlying74
  a75 := Tryd.isAgg74
  z75 := Tryd.sizeOf74
  v75 := Tryd.zeroValue74
  t76 := Tryd.underlying75
  a76 := Tryd.isAgg75
  z76 := Tryd.sizeOf75
  v76 := Tryd.zeroValue75
  t127 := Tryd.underlying89
  a127 := Tryd.isAgg89
  z127 := Tryd.sizeOf89
  v127 := Tryd.zeroValue89
  t164 := Tryd.underlying100
  a164 := Tryd.isAgg100
  z164 := Tryd.sizeOf100
  v164 := Tryd.zeroValue100
def Tryd.itoaL_ren : Go.Shelf.Ren := ⟨fun | 171 => 44 | 243 => 61 | 246 => 77 | 283 => 86 | 284 => 87 | 285 => 88 | 286 => 89 | 129 => 95 | 317 => 94 | 318 => 96 | 319 => 97 | 320 => 98 | 337 => 100 | 338 => 101 | n => n, fun | 3 => 3 | 9 => 9 | 2 => 2 | 4 => 4 | 171 => 107 | 0 => 0 | 53 => 108 | 37 => 22 | 5 => 5 | 173 => 111 | 212 => 122 | 51 => 118 | 20 => 20 | 213 => 123 | 46 => 82 | 232 => 127 | 233 => 128 | n => n, fun | 17 => 3 | 18 => 4 | 19 => 5 | n => n⟩
theorem Tryd.itoaL : Go.Proofs.LaysM.n171 Tryd.prog Tryd.itoaL_ren where
  mixed := by kernel_rfl
  f129 := Tryd.func95.trans (congrArg some (by kernel_rfl))
  f171 := Tryd.func44.trans (congrArg some (by kernel_rfl))
  f243 := Tryd.func61.trans (congrArg some (by kernel_rfl))
  f246 := Tryd.func77.trans (congrArg some (by kernel_rfl))
  f283 := Tryd.func86.trans (congrArg some (by kernel_rfl))
  f284 := Tryd.func87.trans (congrArg some (by kernel_rfl))
  f285 := Tryd.func88.trans (congrArg some (by kernel_rfl))
  f286 := Tryd.func89.trans (congrArg some (by kernel_rfl))
  f317 := Tryd.func94.trans (congrArg some (by kernel_rfl))
  f318 := Tryd.func96.trans (congrArg some (by kernel_rfl))
  f319 := Tryd.func97.trans (congrArg some (by kernel_rfl))
  f320 := Tryd.func98.trans (congrArg some (by kernel_rfl))
  f337 := Tryd.func100.trans (congrArg some (by kernel_rfl))
  f338 := Tryd.func101.trans (congrArg some (by kernel_rfl))
  t0 := Tryd.underlying0
  a0 := Tryd.isAgg0
  z0 := Tryd.sizeOf0
  v0 := Tryd.zeroValue0
  t2 := Tryd.underlying2
  a2 := Tryd.isAgg2
  z2 := Tryd.sizeOf2
  v2 := Tryd.zeroValue2
  t3 := Tryd.underlying3
  a3 := Tryd.isAgg3
  z3 := Tryd.sizeOf3
  v3 := Tryd.zeroValue3
  t4 := Tryd.underlying4
  a4 := Tryd.isAgg4
  z4 := Tryd.sizeOf4
  v4 := Tryd.zeroValue4
  t5 := Tryd.underlying5
  a5 := Tryd.isAgg5
  z5 := Tryd.sizeOf5
  v5 := Tryd.zeroValue5
  t9 := Tryd.underlying9
  a9 := Tryd.isAgg9
  z9 := Tryd.sizeOf9
  v9 := Tryd.zeroValue9
  t20 := Tryd.underlying20
  a20 := Tryd.isAgg20
  z20 := Tryd.sizeOf20
  v20 := Tryd.zeroValue20
  t37 := Tryd.underlying22
  a37 := Tryd.isAgg22
  z37 := Tryd.sizeOf22
  v37 := Tryd.zeroValue22
  t46 := Tryd.underlying82
  a46 := Tryd.isAgg82
  z46 := Tryd.sizeOf82
  v46 := Tryd.zeroValue82
  t51 := Tryd.underlying118
  a51 := Tryd.isAgg118
  z51 := Tryd.sizeOf118
  v51 := Tryd.zeroValue118
  t53 := Tryd.underlying108
  a53 := Tryd.isAgg108
  z53 := Tryd.sizeOf108
  v53 := Tryd.zeroValue108
  t171 := Tryd.underlying107
  a171 := Tryd.isAgg107
  z171 := Tryd.sizeOf107
  v171 := Tryd.zeroValue107
  t173 := Tryd.underlying111
  a173 := Tryd.isAgg111
  z173 := Tryd.sizeOf111
  v173 := Tryd.zeroValue111
  t212 := Tryd.underlying122
  a212 := Tryd.isAgg122
  z212 := Tryd.sizeOf122
  v212 := Tryd.zeroValue122
  t213 := Tryd.underlying123
  a213 := Tryd.isAgg123
  z213 := Tryd.sizeOf123
  t232 := Tryd.underlying127
  a232 := Tryd.isAgg127
  z232 := Tryd.sizeOf127
  v232 := Tryd.zeroValue127
  t233 := Tryd.underlying128
  a233 := Tryd.isAgg128
  z233 := Tryd.sizeOf128
  v233 := Tryd.zeroValue128
  g17 := by kernel_rfl
  g18 := by kernel_rfl
  g19 := by kernel_rfl
  i0 := by kernel_rfl
  i2 := by kernel_rfl
  i3 := by kernel_rfl
  i4 := by kernel_rfl
  i5 := by kernel_rfl
  i9 := by kernel_rfl
  i20 := by kernel_rfl
  i37 := by kernel_rfl
  i46 := by kernel_rfl
  i51 := by kernel_rfl
  i53 := by kernel_rfl
  i171 := by kernel_rfl
  i173 := by kernel_rfl
  i212 := by kernel_rfl
  i232 := by kernel_rfl
  i233 := by kernel_rfl
  m17 := by kernel_rfl
  m18 := by kernel_rfl
  m19 := by kernel_rfl
def Tryd.indexL_ren : Go.Shelf.Ren := ⟨fun | 109 => 29 | n => n, fun | 31 => 41 | 9 => 9 | 3 => 3 | 0 => 0 | 4 => 4 | n => n, fun | n => n⟩
end Go.Proofs
namespace Go.Abs
open Go.Proofs Go.RowKit
theorem acalls_str2 {E : Env} {f : FuncId} {a b r : List UInt8} (hc : Callable E f)
    (h : ∀ w, Calls E.P f #[.string ⟨a.toArray⟩, .string ⟨b.toArray⟩] w fun e w' => e = .returned (.string ⟨r.toArray⟩) ∧ Below w.heap.size w w') : ACalls E f [.str a, .str b] [] (fun r' H' => r' = .str r ∧ H' = []) := by
  refine ⟨hc, fun m w vs hok hglob hargs hsim => ?_⟩
  obtain ⟨u1, us, rfl, h1, h2⟩ := relL_cons.1 hargs
  obtain ⟨u2, us2, rfl, h3, h4⟩ := relL_cons.1 h2
  rw [relL_nil] at h4
  subst h4
  have e1 := rel_str h1
  have e2 := rel_str h3
  subst e1 e2
  have hm : m = [] := List.eq_nil_of_length_eq_zero (by rw [hsim.len]; rfl)
  subst hm
  refine (h w).mono ?_
  rintro e w' ⟨rfl, hb⟩
  have hext := ext_below (m' := []) hb (fun b h => by simp at h)
  exact ⟨_, [], .str r, [], rfl, hext, mk_str, hsim.of_ext hext fun b hb2 => absurd hb2 (by simp), rfl, rfl⟩
theorem trim_c (X : Nat → Prop) (s : List UInt8) (hs : s.length ≤ 1073741824) : ACalls (E0 X) 53 [.str s, .str [48, 49]] [] (fun r H' => r = .str (Lib.trimS s [48, 49]) ∧ H' = []) :=
  acalls_str2 ⟨_, Proofs.Tryd.func53, rfl, rfl⟩ fun w =>
    Any.strings_Trim_laid Proofs.Tryd.trimL (by kernel_rfl) ⟨s.toArray⟩ ⟨#[48, 49]⟩ w (by show s.length ≤ _; omega) (by decide) (ascii_of_all (by decide))
end Go.Abs
namespace Go.Abs
open Go
def bit1 (b : UInt8) : Bool := b == 48 || b == 49
theorem bit1_c (b : UInt8) : ([48, 49] : List UInt8).contains b = bit1 b := by
  simp only [List.contains_cons, List.contains_nil, Bool.or_false]
  rfl
theorem dw_nil {α : Type} (p : α → Bool) : ∀ l : List α, l.dropWhile p = [] ↔ ∀ x ∈ l, p x = true
  | [] => by simp
  | a :: l => by
    rw [List.dropWhile_cons]
    cases h : p a with
    | true =>
      rw [if_pos rfl, dw_nil p l]
      simp [h]
    | false => simp [h]
theorem dw_head {α : Type} (p : α → Bool) : ∀ (l : List α) {y : α} {ys : List α}, l.dropWhile p = y :: ys → p y = false
  | [], y, ys, h => by simp at h
  | a :: l, y, ys, h => by
    rw [List.dropWhile_cons] at h
    cases ha : p a with
    | true => rw [ha, if_pos rfl] at h; exact dw_head p l h
    | false => rw [ha] at h; simp at h; rw [← h.1]; exact ha
theorem trim_nil (s : List UInt8) : Lib.trimS s [48, 49] = [] ↔ s.all bit1 = true := by
  have hp : (fun b => ([48, 49] : List UInt8).contains b) = bit1 := funext bit1_c
  simp only [Lib.trimS, Lib.trimLeftS, Lib.trimRightS, hp]
  rw [dw_nil, List.all_eq_true]
  constructor
  · intro h
    cases hd : s.reverse.dropWhile bit1 with
    | nil => intro x hx; exact (dw_nil bit1 _).1 hd x (by simpa using hx)
    | cons y ys =>
      have h1 := dw_head bit1 _ hd
      rw [h y (by rw [hd]; simp)] at h1
      cases h1
  · intro h x hx
    have h1 : s.reverse.dropWhile bit1 = [] := (dw_nil bit1 _).2 fun y hy => h y (by simpa using hy)
    rw [h1] at hx
    simp at hx
/-- The choices that a word denotes. -/
def bitsP (s : List UInt8) : Option (List Bool) := if s = [45] then some [] else if s = [] ∨ s.all bit1 = false then none else some (s.map (· == 49))
def boL (l : List Bool) : AV := if l = [] then .nils else .sl 1 (l.map boA)
theorem bo_ids' (l : List Bool) {n : Nat} : IdsLtL n (l.map boA) := idsL_map fun _ => trivial
theorem oneEs_bo (l : List Bool) : OneEs (l.map boA) := fun y hy => by
  obtain ⟨b, _, rfl⟩ := List.mem_map.1 hy; exact ⟨rfl, rfl⟩
theorem hok_bi (es : List Bool) (s : List UInt8) (p : Nat) : HOk 2 [some (.itr s p), some (.arr (es.map boA) 4)] := fun j o ho => by
  match j, ho with
  | 0, ho => cases ho; trivial
  | 1, ho => cases ho; exact bo_ids' _
theorem bit_eq (b : UInt8) : decide ((b.toNat : Int) = 49) = (b == 49) := by
  have : (b == 49) = decide (b = 49) := rfl
  rw [this]
  refine decide_eq_decide.2 ⟨fun h => UInt8.toNat_inj.1 (by show b.toNat = 49; omega), fun h => by rw [h]; rfl⟩
attribute [local irreducible] AStep aops AWp Nx awM APanic
set_option maxHeartbeats 0 in
theorem bits_nil (X : Nat → Prop) : ACalls (E0 X) 33 [.str [45]] [] (fun r H' => r = boL [] ∧ H' = []) := by
  refine acalls_of Proofs.Tryd.func33 rfl Proofs.Tryd.ntmps33 (by kernel_rfl) rfl ?_
  intro hH hargs
  clear hH hargs
  repeat' (first | ((refine Qa rfl ?_); (first | refine Q0 ?_ | refine Q1 ?_ | refine Q2 rfl ?_); (refine QX rfl rfl ?_)) | refine Qh ?_ | refine Ql ?_ | refine Qo rfl ?_ | refine Qp rfl ?_ | refine Qs ?_)
  refine awp_ret ?_
  refine ⟨_, rfl, ?_, ?_⟩
  · rfl
  · rfl
set_option maxHeartbeats 0 in
theorem bits_no (X : Nat → Prop) (s : List UInt8) (hs : s.length ≤ 1073741824) (h : bitsP s = none) : APanics (E0 X) 33 [.str s] [] (fun _ => True) := by
  have h1 : s ≠ [45] := fun e => by rw [bitsP, if_pos e] at h; cases h
  rw [bitsP, if_neg h1] at h
  have h2 : s = [] ∨ s.all bit1 = false := Classical.byContradiction fun e => by rw [if_neg e] at h; cases h
  refine apanics_of Proofs.Tryd.func33 rfl Proofs.Tryd.ntmps33 (by kernel_rfl) rfl ?_
  repeat' (first | ((refine Qa rfl ?_); (first | refine Q0 ?_ | refine Q1 ?_ | refine Q2 rfl ?_); (refine QX rfl rfl ?_)) | refine Qh ?_ | refine Ql ?_ | refine Qo rfl ?_ | refine Qs ?_)
  rw [decide_eq_false (show ¬ s = ({ data := #[45] } : ByteArray).data.toList from h1)]
  repeat' (first | ((refine Qa rfl ?_); (refine Q0 ?_); (refine QX rfl rfl ?_)) | refine Qa rfl ?_ | refine Ql ?_ | refine Qm ?_ | refine Qo rfl ?_ | refine Qq rfl ?_)
  refine st_call (fun _ => rfl) rfl ?_
  refine ACalls.mono (acalls_pure (E := E0 X) (fun X => trim_c X s hs) (by simp [IdsLtL, IdsLt]) _) ?_
  rintro r H' ⟨rfl, rfl⟩
  first | refine nx rfl rfl ?_ | refine nx0 ?_
  by_cases h3 : Lib.trimS s [48, 49] = []
  · have h4 : s = [] := by
      rcases h2 with h2 | h2
      · exact h2
      · rw [(trim_nil s).1 h3] at h2; cases h2
    repeat' ((refine Qa rfl ?_); (first | refine Q0 ?_ | refine Q2 rfl ?_); (refine QX rfl rfl ?_))
    rw [decide_eq_false (show ¬ (Lib.trimS s [48, 49] ≠ ({ data := #[] } : ByteArray).data.toList) from fun e => e h3)]
    repeat' (first | ((refine Qa rfl ?_); (first | refine Q0 ?_ | refine Q2 rfl ?_ | refine Q5 rfl ?_); (refine QX rfl rfl ?_)) | refine Qh ?_ | refine Qs ?_)
    rw [decide_eq_true (show s = ({ data := #[] } : ByteArray).data.toList from h4)]
    repeat' (refine Qp rfl ?_)
    refine boom_h (by kernel_rfl) fun ch sl hch => ?_
    exact ⟨hch, trivial⟩
  · repeat' ((refine Qa rfl ?_); (first | refine Q0 ?_ | refine Q2 rfl ?_); (refine QX rfl rfl ?_))
    rw [decide_eq_true (show Lib.trimS s [48, 49] ≠ ({ data := #[] } : ByteArray).data.toList from h3)]
    repeat' (first | ((refine Qa rfl ?_); (refine Q5 rfl ?_); (refine QX rfl rfl ?_)) | refine Qh ?_ | refine Qi rfl ?_ | refine Qp rfl ?_)
    refine boom_h (by kernel_rfl) fun ch sl hch => ?_
    exact ⟨hch, trivial⟩
theorem bits_noP (X : Nat → Prop) (s : List UInt8) (hs : s.length ≤ 1073741824) (h : bitsP s = none) (H : Hp) : APanics (E0 X) 33 [.str s] H (fun _ => True) := by
  have h1 : ∀ Y, APanics ((E0 X).wX Y) 33 [.str s] [] (fun _ => True) := fun Y => bits_no Y s hs h
  have h2 := apanics_pure (E := E0 X) h1 (by simp [IdsLtL, IdsLt]) H
  exact h2.mono fun _ _ => trivial
set_option maxHeartbeats 0 in
theorem bits_go (X : Nat → Prop) (s : List UInt8) (h1 : s ≠ [45]) (h2 : s ≠ []) (h3 : s.all bit1 = true) (hs : s.length ≤ 1073741824) : ACalls (E0 X) 33 [.str s] [] (fun r H' => r = .sl 1 ((s.map (· == 49)).map boA) ∧ H' = []) := by
  refine ACalls.frz0 (e := 4) 1 ?_ rfl rfl (bo_ids' _)
  have h4 := (trim_nil s).2 h3
  refine acalls_of Proofs.Tryd.func33 rfl Proofs.Tryd.ntmps33 (by kernel_rfl) rfl ?_
  intro hH hargs
  clear hH hargs
  repeat' (first | ((refine Qa rfl ?_); (first | refine Q0 ?_ | refine Q1 ?_ | refine Q2 rfl ?_); (refine QX rfl rfl ?_)) | refine Qh ?_ | refine Ql ?_ | refine Qo rfl ?_ | refine Qs ?_)
  rw [decide_eq_false (show ¬ s = ({ data := #[45] } : ByteArray).data.toList from h1)]
  repeat' (first | ((refine Qa rfl ?_); (refine Q0 ?_); (refine QX rfl rfl ?_)) | refine Qa rfl ?_ | refine Ql ?_ | refine Qm ?_ | refine Qo rfl ?_ | refine Qq rfl ?_)
  refine st_call (fun _ => rfl) rfl ?_
  refine ACalls.mono (acalls_pure (E := E0 X) (fun X => trim_c X s hs) (by simp [IdsLtL, IdsLt]) _) ?_
  rintro r H' ⟨rfl, rfl⟩
  first | refine nx rfl rfl ?_ | refine nx0 ?_
  repeat' ((refine Qa rfl ?_); (first | refine Q0 ?_ | refine Q2 rfl ?_); (refine QX rfl rfl ?_))
  rw [decide_eq_false (show ¬ (Lib.trimS s [48, 49] ≠ ({ data := #[] } : ByteArray).data.toList) from fun e => e h4)]
  repeat' (first | ((refine Qa rfl ?_); (first | refine Q0 ?_ | refine Q2 rfl ?_ | refine Q5 rfl ?_); (refine QX rfl rfl ?_)) | refine Qh ?_ | refine Qs ?_)
  rw [decide_eq_false (show ¬ s = ({ data := #[] } : ByteArray).data.toList from h2)]
  repeat' (first | ((refine Qa rfl ?_); (first | refine Q0 ?_ | refine Q1 ?_); (refine QX rfl rfl ?_)) | refine Qa rfl ?_ | refine Qh ?_ | refine Ql ?_ | refine Qm ?_ | refine Qo rfl ?_ | refine Qq rfl ?_)
  refine st_range_str rfl rfl rfl ?_
  first | refine nx rfl rfl ?_ | refine nx0 ?_
  repeat' (first | refine Qh ?_ | refine Qn ?_)
  refine awp_loop2 (fun p : Nat => ⟨[(0, .str s), (3, .own 1 0 p), (18, .ptr 0 0)], [some (.itr s p), some (.arr (((s.take p).map (· == 49)).map boA) 4)]⟩) (fun p => p ≤ s.length) (fun p => s.length - p) 0 (Nat.zero_le _) ?_ ?_
  · refine Imp.trans (imp_nil 3 4 rfl) (imp_cutk 2 (Nat.zero_le _) (hok_bi [] s 0) rfl (by simp) ?_)
    repeat' (first | exact fa_nil | refine fa_cons ⟨?_, ?_⟩ ?_)
    all_goals (try first | exact rfl | exact trivial | (simp [IdsLt]; done) | (simp [get_cons]; done) | (simp [get_cons, *]; done) | (refine congrArg (AV.int .i64) (wrap_eq ?_ ?_ ?_) <;> (first | omega | (simp; omega))))
  intro p hp
  have hl : ((s.take p).map (· == 49)).length = p := by simp; omega
  repeat' (first | refine Qa rfl ?_ | refine Ql ?_ | refine Qo rfl ?_)
  by_cases hpl : p < s.length
  · obtain ⟨b, hpb⟩ : ∃ b, s[p]? = some b := ⟨_, List.getElem?_eq_getElem hpl⟩
    have hb1 : bit1 b = true := List.all_eq_true.1 h3 b (List.mem_of_getElem? hpb)
    have hb2 : b.toNat < 128 := by
      simp only [bit1, Bool.or_eq_true, beq_iff_eq] at hb1
      rcases hb1 with rfl | rfl <;> decide
    have htk : (s.take (p + 1)).map (· == 49) = (s.take p).map (· == 49) ++ [b == 49] := by
      rw [List.take_add_one, hpb, List.map_append]; rfl
    refine st_next_str (c := b.toNat) (q := 1) rfl rfl hpl (runeAt_lo hpb hb2) ?_
    first | refine nx rfl rfl ?_ | refine nx0 ?_
    repeat' (first | ((refine Qa rfl ?_); (first | refine Q0 ?_ | refine Q1 ?_ | refine Q2 rfl ?_ | refine QC rfl rfl ?_ | refine QR rfl rfl rfl rfl rfl rfl rfl rfl rfl rfl rfl rfl ?_); (refine QX rfl rfl ?_)) | refine Qa rfl ?_ | refine Qh ?_ | refine Ql ?_ | refine Qm ?_ | refine Qn ?_ | refine Qo rfl ?_ | refine Qp rfl ?_)
    rw [bit_eq]
    refine st_app (oid := some 1) (es := ((s.take p).map (· == 49)).map boA) (out := ((s.take (p + 1)).map (· == 49)).map boA) (n := p + 1) (dst_own rfl (by rw [List.length_map, hl])) (rfl) (oneEs_bo [b == 49]) (by rw [htk, List.map_append]; rfl) (by rw [List.length_map, hl]; rfl) (by show _ ≤ 9223372036854775807; omega) (by show _ * 1 ≤ _; omega) rfl rfl rfl rfl rfl rfl rfl rfl ?_
    first | refine nx rfl rfl ?_ | refine nx0 ?_
    repeat' (first | ((refine Qa rfl ?_); (refine Q1 ?_); (refine QX rfl rfl ?_)) | refine Qh ?_ | refine Qs ?_ | refine Qu ?_)
    refine ⟨p + 1, hpl, by omega, imp_tid 1 [2] (H' := [some (.itr s (p + 1)), some (.arr (((s.take (p + 1)).map (· == 49)).map boA) 4)]) (os := [.arr (((s.take (p + 1)).map (· == 49)).map boA) 4]) (Nat.zero_le _) ?_ ?_ ?_ ?_ rfl ?_ ?_ ?_⟩
    · simp
    · simp
    · simp
    · intro j o ho
      match j, ho with
      | 0, ho => cases ho; trivial
    · rfl
    · refine fa_cons (ren_lt rfl trivial) (fa_cons (ren_own rfl) (fa_cons (ren_lt rfl (by simp [IdsLt])) fa_nil))
    · exact os_cons rfl (renO_old 1 gcF_lt (bo_ids' _)) os_nil
  · have hpe : p = s.length := by omega
    refine st_next_end rfl rfl (by omega) ?_
    first | refine nx rfl rfl ?_ | refine nx0 ?_
    repeat' (first | ((refine Qa rfl ?_); (first | refine Q0 ?_ | refine Q1 ?_ | refine QC rfl rfl ?_); (refine QX rfl rfl ?_)) | refine Qh ?_ | refine Ql ?_ | refine Qo rfl ?_ | refine Qq rfl ?_ | refine Qr ?_ | refine Qs ?_)
    refine awp_ret ?_
    refine ⟨_, rfl, 1, _, rfl, ?_, ?_⟩
    · rw [hpe]; simp
    · rw [hpe, List.take_length]; rfl
theorem bits_yes (X : Nat → Prop) (s : List UInt8) (l : List Bool) (hs : s.length ≤ 1073741824) (h : bitsP s = some l) : ACalls (E0 X) 33 [.str s] [] (fun r H' => r = boL l ∧ H' = []) := by
  by_cases h1 : s = [45]
  · rw [bitsP, if_pos h1] at h
    cases h
    subst h1
    exact bits_nil X
  · rw [bitsP, if_neg h1] at h
    by_cases h2 : s = [] ∨ s.all bit1 = false
    · rw [if_pos h2] at h; cases h
    · rw [if_neg h2] at h
      cases h
      have h3 : s ≠ [] := fun e => h2 (.inl e)
      have hne : s.map (· == 49) ≠ [] := by simpa using h3
      rw [boL, if_neg hne]
      exact bits_go X s h1 h3 (by cases h4 : s.all bit1 with | true => rfl | false => exact absurd (.inr h4) h2) hs
end Go.Abs
namespace Go.Abs
structure Tr where
  k : Int
  n : Int
def trA (t : Tr) : AV := .agg [.int .i64 t.k, .int .i64 t.n]
def tearP (s : List UInt8) : Option Tr := match numP (cutB s 58).1, numP (cutB s 58).2.1 with
  | some a, some b => some ⟨a, b⟩
  | _, _ => none
def tearsP : List (List UInt8) → Option (List Tr)
  | [] => some []
  | s :: l => match tearP s with
    | some t => (tearsP l).map (t :: ·)
    | none => none
theorem tr_ids (l : List Tr) {n : Nat} : IdsLtL n (l.map trA) := idsL_map fun _ => ⟨trivial, trivial, trivial⟩
theorem oneEs_tr (l : List Tr) : OneEs (l.map trA) := fun y hy => by
  obtain ⟨b, _, rfl⟩ := List.mem_map.1 hy; exact ⟨rfl, rfl⟩
theorem hok_tr (es : List Tr) : HOk 1 [some (.arr (es.map trA) 47)] := fun j o ho => by
  match j, ho with
  | 0, ho => cases ho; exact tr_ids _
theorem numP_lt {s : List UInt8} {n : Nat} (h : numP s = some n) : n < 1000000 := by
  have hb : ¬ badHead s := fun hb => by rw [numP, if_pos hb] at h; cases h
  rw [numP, if_neg hb] at h
  have h6 : ¬ 6 < s.length := fun e => hb (.inr (.inl e))
  have key : ∀ (l : List UInt8) (a p : Nat), a < 10 ^ p → digs l a = some n → n < 10 ^ (p + l.length) := by
    intro l
    induction l with
    | nil => intro a p ha hd; rw [digs_nil] at hd; cases hd; simpa using ha
    | cons b l ih =>
      intro a p ha hd
      rw [digs_cons] at hd
      by_cases hdg : isDig b
      · rw [if_pos hdg] at hd
        obtain ⟨d1, d2⟩ := hdg
        have := ih _ (p + 1) (by rw [Nat.pow_succ]; omega) hd
        rw [List.length_cons, show p + (l.length + 1) = p + 1 + l.length by omega]
        exact this
      · rw [if_neg hdg] at hd; cases hd
  have := key s 0 0 (by decide) h
  exact Nat.lt_of_lt_of_le this (Nat.le_trans (Nat.pow_le_pow_right (by decide) (show 0 + s.length ≤ 6 by omega)) (by decide))
theorem drop_at {α : Type} {l : List α} {i : Nat} {x : α} (h : l[i]? = some x) : l.drop i = x :: l.drop (i + 1) := by
  have hp : i < l.length := (List.getElem?_eq_some_iff.1 h).1
  rw [List.drop_eq_getElem_cons hp, (List.getElem?_eq_some_iff.1 h).2]
theorem tearsP_len : ∀ (l : List (List UInt8)) (ts : List Tr), tearsP l = some ts → ts.length = l.length
  | [], ts, h => by simp [tearsP] at h; subst h; rfl
  | s :: l, ts, h => by
    unfold tearsP at h
    cases ht : tearP s with
    | none => rw [ht] at h; simp at h
    | some t =>
      rw [ht] at h
      cases hr : tearsP l with
      | none => rw [hr] at h; simp at h
      | some r => rw [hr] at h; simp at h; subst h; simp [tearsP_len l r hr]
attribute [local irreducible] AStep aops AWp Nx awM APanic
set_option maxHeartbeats 0 in
theorem tears_go (X : Nat → Prop) (l : List (List UInt8)) (ts : List Tr) (_h0 : l ≠ []) (hl : l.length ≤ 1000000) (hs : ∀ s ∈ l, s.length ≤ 1073741824) (h : tearsP l = some ts) : ACalls (E0 X) 34 [.sl 1 (l.map strA)] [] (fun r H' => r = .sl 2 (ts.map trA) ∧ H' = []) := by
  refine ACalls.frz0 (e := 47) 2 ?_ rfl rfl (tr_ids _)
  refine acalls_of Proofs.Tryd.func34 rfl Proofs.Tryd.ntmps34 (by kernel_rfl) rfl ?_
  intro hH hargs
  clear hH hargs
  repeat' (first | ((refine Qa rfl ?_); (first | refine Q0 ?_ | refine Q1 ?_ | refine Q7 rfl rfl rfl ?_); (refine QX rfl rfl ?_)) | refine Qh ?_ | refine Ql ?_ | refine Qn ?_ | refine Qo rfl ?_)
  refine awp_loop2 (fun i : Nat × List Tr => ⟨[(9, .sl 1 (l.map strA)), (10, .int .i64 (l.length : Int)), (11, .int .i64 (i.1 : Int)), (3, .own 0 0 i.1)], [some (.arr (i.2.map trA) 47)]⟩) (fun i => i.1 ≤ l.length ∧ i.2.length = i.1 ∧ (tearsP (l.drop i.1)).map (i.2 ++ ·) = some ts) (fun i => l.length - i.1) (0, []) ⟨Nat.zero_le _, rfl, by simp [h]⟩ ?_ ?_
  · refine Imp.trans (imp_nil 3 47 rfl) (imp_cutk 1 (Nat.zero_le _) (hok_tr []) rfl (by simp) ?_)
    repeat' (first | exact fa_nil | refine fa_cons ⟨?_, ?_⟩ ?_)
    all_goals (try first | exact rfl | exact trivial | (simp [IdsLt]; done) | (simp [get_cons]; done) | (simp [get_cons, *]; done) | (refine congrArg (AV.int .i64) (wrap_eq ?_ ?_ ?_) <;> (first | omega | (simp; omega))))
    all_goals first | (rw [List.length_map]) | skip
  rintro ⟨k, o⟩ ⟨hk, ho, hp⟩
  simp only at hk ho hp ⊢
  repeat' (first | ((refine Qa rfl ?_); (refine Q2 rfl ?_); (refine QX rfl rfl ?_)) | refine Qh ?_ | refine Ql ?_ | refine Qo rfl ?_)
  refine awp_cond_dec rfl (fun h5 => ?_) (fun h5 => ?_)
  · obtain ⟨w, hw⟩ : ∃ w, l[k]? = some w := ⟨_, List.getElem?_eq_getElem (by omega)⟩
    have hwl := hs w (List.mem_of_getElem? hw)
    rw [drop_at hw] at hp
    unfold tearsP tearP at hp
    cases ha : numP (cutB w 58).1 with
    | none => rw [ha] at hp; simp at hp
    | some a =>
      cases hb : numP (cutB w 58).2.1 with
      | none => rw [ha, hb] at hp; simp at hp
      | some b =>
        rw [ha, hb] at hp
        repeat' (first | refine Qa rfl ?_ | refine Ql ?_ | refine Qm ?_ | refine Qn ?_ | refine Qo rfl ?_)
        refine st_ixm hw rfl rfl rfl rfl rfl rfl rfl (by first | rfl | omega) rfl ?_
        first | refine nx rfl rfl ?_ | refine nx0 ?_
        repeat' (first | ((refine Qa rfl ?_); (first | refine Q0 ?_ | refine Q1 ?_ | refine Q3 rfl rfl rfl ?_); (refine QX rfl rfl ?_)) | refine Qa rfl ?_ | refine Qh ?_ | refine Ql ?_ | refine Qo rfl ?_)
        refine st_call (fun _ => rfl) rfl ?_
        refine ACalls.mono (acalls_pure (E := E0 X) (fun X => scut_c X w 58 hwl) (by simp [IdsLtL, IdsLt]) _) ?_
        rintro r H' ⟨rfl, rfl⟩
        first | refine nx rfl rfl ?_ | refine nx0 ?_
        repeat' (first | ((refine Qa rfl ?_); (first | refine Q0 ?_ | refine Q1 ?_ | refine QC rfl rfl ?_); (refine QX rfl rfl ?_)) | refine Qa rfl ?_ | refine Qh ?_ | refine Qo rfl ?_)
        refine st_call (fun _ => rfl) rfl ?_
        refine ACalls.mono (acalls_pure (E := E0 X) (fun X => number_go X (cutB w 58).1 a ha) (by simp [IdsLtL, IdsLt]) _) ?_
        rintro r H' ⟨rfl, rfl⟩
        first | refine nx rfl rfl ?_ | refine nx0 ?_
        repeat' (first | ((refine Qa rfl ?_); (refine Q0 ?_); (refine QX rfl rfl ?_)) | refine Qa rfl ?_)
        refine st_call (fun _ => rfl) rfl ?_
        refine ACalls.mono (acalls_pure (E := E0 X) (fun X => number_go X (cutB w 58).2.1 b hb) (by simp [IdsLtL, IdsLt]) _) ?_
        rintro r H' ⟨rfl, rfl⟩
        first | refine nx rfl rfl ?_ | refine nx0 ?_
        repeat' (first | ((refine Qa rfl ?_); (first | refine QP rfl rfl rfl rfl rfl rfl ?_ | refine QQ rfl rfl rfl rfl rfl rfl rfl rfl rfl rfl rfl ?_); (refine QX rfl rfl ?_)) | refine Qa rfl ?_)
        refine st_app (oid := some 0) (es := o.map trA) (out := (o ++ [Tr.mk (a : Int) (b : Int)]).map trA) (n := k + 1) (dst_own rfl (by rw [List.length_map, ho])) (rfl) (oneEs_tr [Tr.mk (a : Int) (b : Int)]) (by rw [List.map_append]; rfl) (by rw [List.length_map, ho]; rfl) (by show _ ≤ 9223372036854775807; omega) (by show _ * 16 ≤ _; omega) rfl rfl rfl rfl rfl rfl rfl rfl ?_
        first | refine nx rfl rfl ?_ | refine nx0 ?_
        repeat' (first | ((refine Qa rfl ?_); (first | refine Q0 ?_ | refine Q1 ?_ | refine Q2 rfl ?_); (refine QX rfl rfl ?_)) | refine Qh ?_ | refine Qo rfl ?_ | refine Qs ?_)
        refine ⟨(k + 1, o ++ [Tr.mk (a : Int) (b : Int)]), ⟨by show k + 1 ≤ _; omega, by simp [ho], ?_⟩, by show l.length - (k + 1) < l.length - k; omega, imp_tidy [1] (os := [.arr ((o ++ [Tr.mk (a : Int) (b : Int)]).map trA) 47]) (by simp) rfl ?_ ?_⟩
        · show (tearsP (l.drop (k + 1))).map ((o ++ [Tr.mk (a : Int) (b : Int)]) ++ ·) = some ts
          rw [← hp, Option.map_map]
          congr 1
          funext z
          simp
        · refine fa_cons (ren_val rfl (ids_str l)) (fa_cons (ren_val rfl trivial) (fa_cons (ren_val ?_ trivial) (fa_cons (ren_own rfl) fa_nil)))
          exact congrArg (AV.int .i64) (by rw [wrap_in (by omega) (by omega)]; simp)
        · exact os_cons rfl (renO_val rfl (tr_ids _)) os_nil
  · have hke : k = l.length := by omega
    rw [hke, List.drop_length] at hp
    have hl2 : o = ts := by simpa [tearsP] using hp
    repeat' (first | ((refine Qa rfl ?_); (first | refine Q0 ?_ | refine Q1 ?_); (refine QX rfl rfl ?_)) | refine Qh ?_ | refine Ql ?_ | refine Qo rfl ?_ | refine Qr ?_ | refine Qs ?_)
    refine awp_ret ?_
    subst hl2
    refine ⟨_, rfl, 0, _, rfl, ?_, rfl⟩
    rw [List.length_map, ho]
end Go.Abs
namespace Go.Abs
def trL (l : List Tr) : AV := if l = [] then .nils else .sl 2 (l.map trA)
attribute [local irreducible] AStep aops AWp Nx awM APanic
set_option maxHeartbeats 0 in
theorem tears_nil (X : Nat → Prop) : ACalls (E0 X) 34 [.sl 1 (([] : List (List UInt8)).map strA)] [] (fun r H' => r = trL [] ∧ H' = []) := by
  refine acalls_of Proofs.Tryd.func34 rfl Proofs.Tryd.ntmps34 (by kernel_rfl) rfl ?_
  intro hH hargs
  clear hH hargs
  repeat' (first | ((refine Qa rfl ?_); (first | refine Q0 ?_ | refine Q1 ?_ | refine Q7 rfl rfl rfl ?_); (refine QX rfl rfl ?_)) | refine Qh ?_ | refine Ql ?_ | refine Qn ?_ | refine Qo rfl ?_)
  refine awp_loop2 (fun _ : Unit => ⟨[(9, .sl 1 []), (10, .int .i64 0), (11, .int .i64 0), (3, .nils)], []⟩) (fun _ => True) (fun _ => 0) () trivial ?_ ?_
  · refine imp_tidy0 ?_
    refine fa_cons (ren_val rfl trivial) (fa_cons (ren_val rfl trivial) (fa_cons (ren_val rfl trivial) (fa_cons (ren_val rfl trivial) fa_nil)))
  rintro _ _
  repeat' (first | ((refine Qa rfl ?_); (first | refine Q0 ?_ | refine Q1 ?_ | refine Q2 rfl ?_); (refine QX rfl rfl ?_)) | refine Qh ?_ | refine Ql ?_ | refine Qo rfl ?_ | refine Qq rfl ?_ | refine Qr ?_ | refine Qs ?_)
  refine awp_ret ?_
  refine ⟨_, rfl, ?_, ?_⟩
  · rfl
  · rfl
theorem tears_yes (X : Nat → Prop) (l : List (List UInt8)) (ts : List Tr) (hl : l.length ≤ 1000000) (hs : ∀ s ∈ l, s.length ≤ 1073741824) (h : tearsP l = some ts) : ACalls (E0 X) 34 [.sl 1 (l.map strA)] [] (fun r H' => r = trL ts ∧ H' = []) := by
  by_cases h0 : l = []
  · subst h0
    cases h
    exact tears_nil X
  · have hne : ts ≠ [] := fun e => by
      have := tearsP_len l ts h
      rw [e] at this
      exact h0 (List.eq_nil_of_length_eq_zero this.symm)
    rw [trL, if_neg hne]
    exact tears_go X l ts h0 hl hs h
end Go.Abs
namespace Go.Abs
attribute [local irreducible] AStep aops AWp Nx awM APanic
theorem number_noP (X : Nat → Prop) (s : List UInt8) (h : numP s = none) (H : Hp) : APanics (E0 X) 32 [.str s] H (fun _ => True) := by
  have h1 : ∀ Y, APanics ((E0 X).wX Y) 32 [.str s] [] (fun _ => True) := fun Y => number_no Y s h
  have h2 := apanics_pure (E := E0 X) h1 (by simp [IdsLtL, IdsLt]) H
  exact h2.mono fun _ _ => trivial
set_option maxHeartbeats 0 in
theorem tears_stop (X : Nat → Prop) (l : List (List UInt8)) (_h0 : l ≠ []) (hl : l.length ≤ 1000000) (hs : ∀ s ∈ l, s.length ≤ 1073741824) (h : tearsP l = none) : APanics (E0 X) 34 [.sl 1 (l.map strA)] [] (fun _ => True) := by
  refine apanics_of Proofs.Tryd.func34 rfl Proofs.Tryd.ntmps34 (by kernel_rfl) rfl ?_
  repeat' (first | ((refine Qa rfl ?_); (first | refine Q0 ?_ | refine Q1 ?_ | refine Q7 rfl rfl rfl ?_); (refine QX rfl rfl ?_)) | refine Qh ?_ | refine Ql ?_ | refine Qn ?_ | refine Qo rfl ?_)
  refine awp_loop2 (fun i : Nat × List Tr => ⟨[(9, .sl 1 (l.map strA)), (10, .int .i64 (l.length : Int)), (11, .int .i64 (i.1 : Int)), (3, .own 0 0 i.1)], [some (.arr (i.2.map trA) 47)]⟩) (fun i => i.1 ≤ l.length ∧ i.2.length = i.1 ∧ tearsP (l.drop i.1) = none) (fun i => l.length - i.1) (0, []) ⟨Nat.zero_le _, rfl, by simp [h]⟩ ?_ ?_
  · refine Imp.trans (imp_nil 3 47 rfl) (imp_cutk 1 (Nat.zero_le _) (hok_tr []) rfl (by simp) ?_)
    repeat' (first | exact fa_nil | refine fa_cons ⟨?_, ?_⟩ ?_)
    all_goals (try first | exact rfl | exact trivial | (simp [IdsLt]; done) | (simp [get_cons]; done) | (simp [get_cons, *]; done) | (refine congrArg (AV.int .i64) (wrap_eq ?_ ?_ ?_) <;> (first | omega | (simp; omega))))
    all_goals first | (rw [List.length_map]) | skip
  rintro ⟨k, o⟩ ⟨hk, ho, hp⟩
  simp only at hk ho hp ⊢
  repeat' (first | ((refine Qa rfl ?_); (refine Q2 rfl ?_); (refine QX rfl rfl ?_)) | refine Qh ?_ | refine Ql ?_ | refine Qo rfl ?_)
  refine awp_cond_dec rfl (fun h5 => ?_) (fun h5 => ?_)
  · obtain ⟨w, hw⟩ : ∃ w, l[k]? = some w := ⟨_, List.getElem?_eq_getElem (by omega)⟩
    have hwl := hs w (List.mem_of_getElem? hw)
    rw [drop_at hw] at hp
    unfold tearsP tearP at hp
    cases ha : numP (cutB w 58).1 with
    | none =>
      repeat' (first | refine Qa rfl ?_ | refine Ql ?_ | refine Qm ?_ | refine Qn ?_ | refine Qo rfl ?_)
      refine st_ixm hw rfl rfl rfl rfl rfl rfl rfl (by first | rfl | omega) rfl ?_
      first | refine nx rfl rfl ?_ | refine nx0 ?_
      repeat' (first | ((refine Qa rfl ?_); (first | refine Q0 ?_ | refine Q1 ?_ | refine Q3 rfl rfl rfl ?_); (refine QX rfl rfl ?_)) | refine Qa rfl ?_ | refine Qh ?_ | refine Ql ?_ | refine Qo rfl ?_)
      refine st_call (fun _ => rfl) rfl ?_
      refine ACalls.mono (acalls_pure (E := E0 X) (fun X => scut_c X w 58 hwl) (by simp [IdsLtL, IdsLt]) _) ?_
      rintro r H' ⟨rfl, rfl⟩
      first | refine nx rfl rfl ?_ | refine nx0 ?_
      repeat' (first | ((refine Qa rfl ?_); (first | refine Q0 ?_ | refine Q1 ?_ | refine QC rfl rfl ?_); (refine QX rfl rfl ?_)) | refine Qh ?_ | refine Qs ?_)
      refine awp_region_panicK 2 rfl rfl (by exact rfl) ?_
      repeat' (first | ((refine Qa rfl ?_); (refine Q0 ?_); (refine QX rfl rfl ?_)) | refine Qh ?_)
      refine ⟨rfl, ?_⟩
      refine pn_call (fun _ => rfl) rfl ?_
      exact (number_noP X _ ha _).mono fun _ _ ch hch => ⟨hch, trivial⟩
    | some a =>
      cases hb : numP (cutB w 58).2.1 with
      | none =>
        repeat' (first | refine Qa rfl ?_ | refine Ql ?_ | refine Qm ?_ | refine Qn ?_ | refine Qo rfl ?_)
        refine st_ixm hw rfl rfl rfl rfl rfl rfl rfl (by first | rfl | omega) rfl ?_
        first | refine nx rfl rfl ?_ | refine nx0 ?_
        repeat' (first | ((refine Qa rfl ?_); (first | refine Q0 ?_ | refine Q1 ?_ | refine Q3 rfl rfl rfl ?_); (refine QX rfl rfl ?_)) | refine Qa rfl ?_ | refine Qh ?_ | refine Ql ?_ | refine Qo rfl ?_)
        refine st_call (fun _ => rfl) rfl ?_
        refine ACalls.mono (acalls_pure (E := E0 X) (fun X => scut_c X w 58 hwl) (by simp [IdsLtL, IdsLt]) _) ?_
        rintro r H' ⟨rfl, rfl⟩
        first | refine nx rfl rfl ?_ | refine nx0 ?_
        repeat' (first | ((refine Qa rfl ?_); (first | refine Q0 ?_ | refine Q1 ?_ | refine QC rfl rfl ?_); (refine QX rfl rfl ?_)) | refine Qh ?_ | refine Qs ?_)
        refine awp_region_panicK 4 rfl rfl (by exact rfl) ?_
        repeat' (first | ((refine Qa rfl ?_); (refine Q0 ?_); (refine QX rfl rfl ?_)) | refine Qa rfl ?_)
        refine st_call (fun _ => rfl) rfl ?_
        refine ACalls.mono (acalls_pure (E := E0 X) (fun X => number_go X (cutB w 58).1 a ha) (by simp [IdsLtL, IdsLt]) _) ?_
        rintro r H' ⟨rfl, rfl⟩
        first | refine nx rfl rfl ?_ | refine nx0 ?_
        repeat' (first | ((refine Qa rfl ?_); (refine Q0 ?_); (refine QX rfl rfl ?_)) | refine Qh ?_)
        refine ⟨rfl, ?_⟩
        refine pn_call (fun _ => rfl) rfl ?_
        exact (number_noP X _ hb _).mono fun _ _ ch hch => ⟨hch, trivial⟩
      | some b =>
        rw [ha, hb] at hp
        repeat' (first | refine Qa rfl ?_ | refine Ql ?_ | refine Qm ?_ | refine Qn ?_ | refine Qo rfl ?_)
        refine st_ixm hw rfl rfl rfl rfl rfl rfl rfl (by first | rfl | omega) rfl ?_
        first | refine nx rfl rfl ?_ | refine nx0 ?_
        repeat' (first | ((refine Qa rfl ?_); (first | refine Q0 ?_ | refine Q1 ?_ | refine Q3 rfl rfl rfl ?_); (refine QX rfl rfl ?_)) | refine Qa rfl ?_ | refine Qh ?_ | refine Ql ?_ | refine Qo rfl ?_)
        refine st_call (fun _ => rfl) rfl ?_
        refine ACalls.mono (acalls_pure (E := E0 X) (fun X => scut_c X w 58 hwl) (by simp [IdsLtL, IdsLt]) _) ?_
        rintro r H' ⟨rfl, rfl⟩
        first | refine nx rfl rfl ?_ | refine nx0 ?_
        repeat' (first | ((refine Qa rfl ?_); (first | refine Q0 ?_ | refine Q1 ?_ | refine QC rfl rfl ?_); (refine QX rfl rfl ?_)) | refine Qa rfl ?_ | refine Qh ?_ | refine Qo rfl ?_)
        refine st_call (fun _ => rfl) rfl ?_
        refine ACalls.mono (acalls_pure (E := E0 X) (fun X => number_go X (cutB w 58).1 a ha) (by simp [IdsLtL, IdsLt]) _) ?_
        rintro r H' ⟨rfl, rfl⟩
        first | refine nx rfl rfl ?_ | refine nx0 ?_
        repeat' (first | ((refine Qa rfl ?_); (refine Q0 ?_); (refine QX rfl rfl ?_)) | refine Qa rfl ?_)
        refine st_call (fun _ => rfl) rfl ?_
        refine ACalls.mono (acalls_pure (E := E0 X) (fun X => number_go X (cutB w 58).2.1 b hb) (by simp [IdsLtL, IdsLt]) _) ?_
        rintro r H' ⟨rfl, rfl⟩
        first | refine nx rfl rfl ?_ | refine nx0 ?_
        repeat' (first | ((refine Qa rfl ?_); (first | refine QP rfl rfl rfl rfl rfl rfl ?_ | refine QQ rfl rfl rfl rfl rfl rfl rfl rfl rfl rfl rfl ?_); (refine QX rfl rfl ?_)) | refine Qa rfl ?_)
        refine st_app (oid := some 0) (es := o.map trA) (out := (o ++ [Tr.mk (a : Int) (b : Int)]).map trA) (n := k + 1) (dst_own rfl (by rw [List.length_map, ho])) (rfl) (oneEs_tr [Tr.mk (a : Int) (b : Int)]) (by rw [List.map_append]; rfl) (by rw [List.length_map, ho]; rfl) (by show _ ≤ 9223372036854775807; omega) (by show _ * 16 ≤ _; omega) rfl rfl rfl rfl rfl rfl rfl rfl ?_
        first | refine nx rfl rfl ?_ | refine nx0 ?_
        repeat' (first | ((refine Qa rfl ?_); (first | refine Q0 ?_ | refine Q1 ?_ | refine Q2 rfl ?_); (refine QX rfl rfl ?_)) | refine Qh ?_ | refine Qo rfl ?_ | refine Qs ?_)
        refine ⟨(k + 1, o ++ [Tr.mk (a : Int) (b : Int)]), ⟨by show k + 1 ≤ _; omega, by simp [ho], ?_⟩, by show l.length - (k + 1) < l.length - k; omega, imp_tidy [1] (os := [.arr ((o ++ [Tr.mk (a : Int) (b : Int)]).map trA) 47]) (by simp) rfl ?_ ?_⟩
        · show tearsP (l.drop (k + 1)) = none
          simpa using hp
        · refine fa_cons (ren_val rfl (ids_str l)) (fa_cons (ren_val rfl trivial) (fa_cons (ren_val ?_ trivial) (fa_cons (ren_own rfl) fa_nil)))
          exact congrArg (AV.int .i64) (by rw [wrap_in (by omega) (by omega)]; simp)
        · exact os_cons rfl (renO_val rfl (tr_ids _)) os_nil
  · have hke : k = l.length := by omega
    rw [hke, List.drop_length] at hp
    simp [tearsP] at hp
theorem tears_no (X : Nat → Prop) (l : List (List UInt8)) (hl : l.length ≤ 1000000) (hs : ∀ s ∈ l, s.length ≤ 1073741824) (h : tearsP l = none) : APanics (E0 X) 34 [.sl 1 (l.map strA)] [] (fun _ => True) :=
  tears_stop X l (fun e => by subst e; cases h) hl hs h
end Go.Abs
namespace Go.Abs
def plainL : List (List UInt8) := [[], [], [], [], [102, 108, 117, 115, 104], [115, 121, 110, 99], [], [], [117, 112, 103, 114, 97, 100, 101], [115, 116, 101, 112], [97, 98, 111, 114, 116]]
attribute [local irreducible] AStep aops AWp Nx awM APanic
set_option maxHeartbeats 0 in
theorem plain_c (X : Nat → Prop) : ACalls (E0 X) 30 [] [] (fun r H' => r = .sl 1 (plainL.map strA) ∧ H' = []) := by
  refine acalls_of Proofs.Tryd.func30 rfl Proofs.Tryd.ntmps30 (by kernel_rfl) rfl ?_
  intro hH hargs
  clear hH hargs
  repeat' (first | ((refine Qa rfl ?_); (first | refine Q1 ?_ | refine QR rfl rfl rfl rfl rfl rfl rfl rfl rfl rfl rfl rfl ?_); (refine QX rfl rfl ?_)) | refine Qh ?_ | refine Ql ?_ | refine Qo rfl ?_ | refine Qs ?_)
  refine awp_ret ?_
  refine ⟨_, rfl, ?_, ?_⟩
  · rfl
  · rfl
end Go.Abs
namespace Go.Abs
def idxS : List (List UInt8) → List UInt8 → Nat → Int
  | [], _, _ => -1
  | w :: l, x, i => if x = w then (i : Int) else idxS l x (i + 1)
theorem idxS_cons (w : List UInt8) (l : List (List UInt8)) (x : List UInt8) (i : Nat) : idxS (w :: l) x i = if x = w then (i : Int) else idxS l x (i + 1) := rfl
attribute [local irreducible] AStep aops AWp Nx awM APanic
set_option maxHeartbeats 0 in
theorem index_c (X : Nat → Prop) (l : List (List UInt8)) (x : List UInt8) (hl : l.length ≤ 1000000) : ACalls (E0 X) 29 [.sl 1 (l.map strA), .str x] [] (fun r H' => r = .int .i64 (idxS l x 0) ∧ H' = []) := by
  refine acalls_of Proofs.Tryd.func29 rfl Proofs.Tryd.ntmps29 (by kernel_rfl) rfl ?_
  intro hH hargs
  clear hH hargs
  repeat' (first | ((refine Qa rfl ?_); (first | refine Q0 ?_ | refine Q1 ?_ | refine Q7 rfl rfl rfl ?_); (refine QX rfl rfl ?_)) | refine Qh ?_ | refine Ql ?_ | refine Qn ?_ | refine Qo rfl ?_)
  refine awp_loop2 (fun i : Nat => ⟨[(0, .sl 1 (l.map strA)), (1, .str x), (7, .int .i64 (l.length : Int)), (8, .int .i64 (i : Int))], []⟩) (fun i => i ≤ l.length ∧ idxS l x 0 = idxS (l.drop i) x i) (fun i => l.length - i) 0 ⟨Nat.zero_le _, rfl⟩ ?_ ?_
  · refine imp_tidy0 ?_
    refine fa_cons (ren_val rfl (ids_str l)) (fa_cons (ren_val rfl trivial) (fa_cons (ren_val (congrArg (AV.int .i64) (by rw [List.length_map])) trivial) (fa_cons (ren_val rfl trivial) fa_nil)))
  rintro k ⟨hk, hi⟩
  repeat' (first | ((refine Qa rfl ?_); (refine Q2 rfl ?_); (refine QX rfl rfl ?_)) | refine Qh ?_ | refine Ql ?_ | refine Qo rfl ?_)
  refine awp_cond_dec rfl (fun h5 => ?_) (fun h5 => ?_)
  · obtain ⟨w, hw⟩ : ∃ w, l[k]? = some w := ⟨_, List.getElem?_eq_getElem (by omega)⟩
    rw [drop_at hw] at hi
    rw [idxS_cons] at hi
    repeat' (first | ((refine Qa rfl ?_); (first | refine Q0 ?_ | refine Q1 ?_); (refine QX rfl rfl ?_)) | refine Qa rfl ?_ | refine Qh ?_ | refine Ql ?_ | refine Qm ?_ | refine Qn ?_ | refine Qo rfl ?_)
    refine st_ixm hw rfl rfl rfl rfl rfl rfl rfl (by first | rfl | omega) rfl ?_
    first | refine nx rfl rfl ?_ | refine nx0 ?_
    repeat' (first | ((refine Qa rfl ?_); (first | refine Q2 rfl ?_ | refine Q3 rfl rfl rfl ?_); (refine QX rfl rfl ?_)) | refine Qh ?_ | refine Qs ?_)
    refine awp_cond_dec rfl (fun h6 => ?_) (fun h6 => ?_)
    · rw [if_pos h6] at hi
      repeat' (first | ((refine Qa rfl ?_); (first | refine Q0 ?_ | refine Q1 ?_); (refine QX rfl rfl ?_)) | refine Qh ?_ | refine Ql ?_ | refine Qo rfl ?_ | refine Qs ?_)
      refine awp_ret ?_
      refine ⟨_, rfl, ?_, ?_⟩
      · rw [hi]; rfl
      · rfl
    · rw [if_neg h6] at hi
      repeat' (first | ((refine Qa rfl ?_); (first | refine Q0 ?_ | refine Q2 rfl ?_); (refine QX rfl rfl ?_)) | refine Qh ?_ | refine Qm ?_ | refine Qo rfl ?_ | refine Qs ?_)
      refine ⟨k + 1, ⟨by omega, hi⟩, by omega, imp_tidy0 ?_⟩
      refine fa_cons (ren_val rfl (ids_str l)) (fa_cons (ren_val rfl trivial) (fa_cons (ren_val rfl trivial) (fa_cons (ren_val (congrArg (AV.int .i64) (by rw [wrap_in (by omega) (by omega)]; simp)) trivial) fa_nil)))
  · have hke : k = l.length := by omega
    rw [hke, List.drop_length] at hi
    repeat' (first | ((refine Qa rfl ?_); (refine Q1 ?_); (refine QX rfl rfl ?_)) | refine Qh ?_ | refine Ql ?_ | refine Qo rfl ?_ | refine Qr ?_ | refine Qs ?_)
    refine awp_ret ?_
    refine ⟨_, rfl, ?_, ?_⟩
    · rw [hi]; rfl
    · rfl
end Go.Abs
namespace Go.Abs
structure Opv where
  kind : Int
  key : List UInt8
  val : List UInt8
  n : Int
  a : Int
  b : Int
  keep : List Bool
  tears : List Tr
def opA (o : Opv) : AV := .agg [.int .i64 o.kind, bA o.key, bA o.val, .int .i64 o.n, .int .i64 o.a, .int .i64 o.b, boL o.keep, trL o.tears]
def op0 (kind : Int) : Opv := ⟨kind, [], [], 0, 0, 0, [], []⟩
/-- The operation that words denote (at least one word). -/
def cmdP (w : List UInt8) (l : List (List UInt8)) : Option Opv :=
  if 0 < idxS plainL w 0 ∧ l = [] then some (op0 (idxS plainL w 0))
  else if w = [103, 101, 116] ∧ l.length = 1 then (textP (l.getD 0 [])).map fun k => { op0 1 with key := k }
  else if w = [100, 101, 108, 101, 116, 101] ∧ l.length = 1 then (textP (l.getD 0 [])).map fun k => { op0 3 with key := k }
  else if w = [115, 101, 116] ∧ l.length = 3 then match textP (l.getD 0 []), textP (l.getD 1 []), numP (l.getD 2 []) with
    | some k, some v, some n => some { op0 2 with key := k, val := v, n := n }
    | _, _, _ => none
  else if w = [116, 105, 99, 107] ∧ l.length = 1 then (numP (l.getD 0 [])).map fun n : Nat => { op0 6 with n := (n : Int) }
  else if w = [102, 117, 115, 101] ∧ l.length = 1 then (numP (l.getD 0 [])).map fun n : Nat => { op0 11 with n := (n : Int) }
  else if w = [114, 101, 115, 105, 122, 101] ∧ l.length = 2 then match numP (l.getD 0 []), numP (l.getD 1 []) with
    | some a, some b => some { op0 7 with a := a, b := b }
    | _, _ => none
  else if w = [99, 114, 97, 115, 104] ∧ 0 < l.length then match bitsP (l.getD 0 []), tearsP (l.drop 1) with
    | some k, some t => some { op0 12 with keep := k, tears := t }
    | _, _ => none
  else none
end Go.Abs

