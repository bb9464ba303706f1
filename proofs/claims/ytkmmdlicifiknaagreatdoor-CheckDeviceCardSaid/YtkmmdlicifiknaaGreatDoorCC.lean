/- The types of this seat, as the abstract values see them. Printed by a program. Joined texts, each with what its own name promises; no condition beyond those stated. -/
import Derived.Test.YtkmmdlicifiknaaGreatDoorCB
import Derived.Test.YtkmmdlicifiknaaGreatDoorProg
import Derived.KernelRfl
import Derived.Test.YtkmmdlicifiknaaGreatDoorCA
import Derived.Below
import Derived.Lib.AppendZeros
import Derived.Laws.BytesString
set_option maxHeartbeats 0
set_option maxRecDepth 100000
set_option linter.unusedVariables false
set_option linter.unusedSimpArgs false
namespace Go.Abs
def tj0:Ty:=⟨1,0,.other,(some [.any]),false⟩
def tj1:Ty:=⟨1,8,.fn,(some [.nilf]),false⟩
def tj2:Ty:=⟨1,8,(.int .i64),(some [.int .i64 0]),false⟩
def tj3:Ty:=⟨1,1,(.int .u8),(some [.int .u8 0]),false⟩
def tj4:Ty:=⟨4,24,(.struct [(0,2),(1,3),(2,4),(3,6)]),(some [.int .i64 0,.int .i64 0,.bool false,.int .u8 0]),true⟩
def tj5:Ty:=⟨1,16,.str,(some [.str []]),false⟩
def tj6:Ty:=⟨1,8,(.int .u64),(some [.int .u64 0]),false⟩
def tj7:Ty:=⟨2,24,(.struct [(0,9),(1,12)]),(some [.str [],.int .u64 0]),false⟩
def tj8:Ty:=⟨1,8,(.struct [(0,17)]),(some [.nilp]),false⟩
def tj9:Ty:=⟨1,4,(.int .i32),(some [.int .i32 0]),false⟩
def c6T:Ty:=⟨4,32,(.struct [(0,3),(1,3),(2,3),(3,3)]),(some [.int .i64 0,.int .i64 0,.int .i64 0,.int .i64 0]),true⟩
def c6U:Ty:=⟨14,128,(.struct [(0,3),(1,3),(2,3),(3,3),(4,3),(5,23),(9,23),(13,24)]),(some [.int .i64 0,.int .i64 0,.int .i64 0,.int .i64 0,.int .i64 0,.int .i64 0,.int .i64 0,.int .i64 0,.int .i64 0,.int .i64 0,.int .i64 0,.int .i64 0,.int .i64 0,.nils]),true⟩
def c6o:Ty:=⟨7,40,(.struct [(0,3),(1,3),(2,3),(3,3),(4,4),(5,4),(6,4)]),(some [.int .i64 0,.int .i64 0,.int .i64 0,.int .i64 0,.bool false,.bool false,.bool false]),true⟩
def c6p:Ty:=⟨20,208,(.struct [(0,26),(14,49),(15,3),(16,3),(17,3),(18,3),(19,28)]),(some [.int .i64 0,.int .i64 0,.int .i64 0,.int .i64 0,.int .i64 0,.int .i64 0,.int .i64 0,.int .i64 0,.int .i64 0,.int .i64 0,.int .i64 0,.int .i64 0,.int .i64 0,.nils,.nils,.int .i64 0,.int .i64 0,.int .i64 0,.int .i64 0,.nils]),true⟩
def c6V:Ty:=⟨6,48,(.struct [(0,3),(1,3),(2,3),(3,3),(4,3),(5,3)]),(some [.int .i64 0,.int .i64 0,.int .i64 0,.int .i64 0,.int .i64 0,.int .i64 0]),true⟩
def c6W:Ty:=⟨10,80,(.struct [(0,61),(6,23)]),(some (List.replicate 10 (.int .i64 0))),true⟩
def c6X:Ty:=⟨5,40,(.struct [(0,3),(1,3),(2,3),(3,3),(4,4)]),(some [.int .i64 0,.int .i64 0,.int .i64 0,.int .i64 0,.bool false]),true⟩
def c6Y:Ty:=⟨6,56,(.struct [(0,9),(1,67)]),(some [.str [],.int .i64 0,.int .i64 0,.int .i64 0,.int .i64 0,.bool false]),true⟩
def c6Z:Ty:=⟨4,64,(.struct [(0,3),(1,29),(2,29),(3,3)]),(some [.int .i64 0,.nils,.nils,.int .i64 0]),true⟩
def c7a:Ty:=⟨17,168,(.struct [(0,26),(14,27),(15,3),(16,3)]),(some [.int .i64 0,.int .i64 0,.int .i64 0,.int .i64 0,.int .i64 0,.int .i64 0,.int .i64 0,.int .i64 0,.int .i64 0,.int .i64 0,.int .i64 0,.int .i64 0,.int .i64 0,.nils,.nils,.int .i64 0,.int .i64 0]),true⟩
def c7b:Ty:=⟨8,64,(.struct [(0,3),(1,3),(2,3),(3,3),(4,23)]),(some [.int .i64 0,.int .i64 0,.int .i64 0,.int .i64 0,.int .i64 0,.int .i64 0,.int .i64 0,.int .i64 0]),true⟩
def c7c:Ty:=⟨33,296,(.struct [(0,3),(1,3),(2,61),(8,87),(9,89),(17,26),(31,3),(32,5)]),(some [.int .i64 0,.int .i64 0,.int .i64 0,.int .i64 0,.int .i64 0,.int .i64 0,.int .i64 0,.int .i64 0,.nils,.int .i64 0,.int .i64 0,.int .i64 0,.int .i64 0,.int .i64 0,.int .i64 0,.int .i64 0,.int .i64 0,.int .i64 0,.int .i64 0,.int .i64 0,.int .i64 0,.int .i64 0,.int .i64 0,.int .i64 0,.int .i64 0,.int .i64 0,.int .i64 0,.int .i64 0,.int .i64 0,.int .i64 0,.nils,.int .i64 0,.int .u8 0]),true⟩
def c7d:Ty:=⟨7,104,(.struct [(0,29),(1,29),(2,103),(3,4),(4,3),(5,4),(6,3)]),(some [.nils,.nils,.nils,.bool false,.int .i64 0,.bool false,.int .i64 0]),true⟩
def c6q:Ty:=⟨5,56,(.struct [(0,29),(1,110),(2,3),(3,3),(4,4)]),(some [.nils,.nilm,.int .i64 0,.int .i64 0,.bool false]),true⟩
def c7e:Ty:=⟨6,80,(.struct [(0,3),(1,3),(2,72)]),(some [.int .i64 0,.int .i64 0,.int .i64 0,.nils,.nils,.int .i64 0]),true⟩
def c6r:Ty:=⟨2,32,(.struct [(0,3),(1,115)]),(some [.int .i64 0,.nils]),true⟩
def c7f:Ty:=⟨64,64,(.arr 64 5),(some (List.replicate 64 (.int .u8 0))),false⟩
def c7g:Ty:=⟨8,80,(.struct [(0,23),(4,3),(5,3),(6,29),(7,3)]),(some [.int .i64 0,.int .i64 0,.int .i64 0,.int .i64 0,.int .i64 0,.int .i64 0,.nils,.int .i64 0]),true⟩
def c7h:Ty:=⟨8,64,(.struct [(0,83),(1,61),(7,170)]),(some [.nilp,.int .i64 0,.int .i64 0,.int .i64 0,.int .i64 0,.int .i64 0,.int .i64 0,.nilp]),true⟩
def c7i:Ty:=⟨1,24,(.struct [(0,28)]),(some [.nils]),true⟩
def c7j:Ty:=⟨2,16,(.struct [(0,3),(1,3)]),(some [.int .i64 0,.int .i64 0]),true⟩
def c7k:Ty:=⟨2,32,(.struct [(0,3),(1,239)]),(some [.int .i64 0,.nils]),true⟩
def c7l:Ty:=⟨8,96,(.struct [(0,241),(2,241),(4,3),(5,3),(6,3),(7,3)]),(some [.int .i64 0,.nils,.int .i64 0,.nils,.int .i64 0,.int .i64 0,.int .i64 0,.int .i64 0]),true⟩
def c7m:Ty:=⟨7,64,(.struct [(0,3),(1,9),(2,67)]),(some [.int .i64 0,.str [],.int .i64 0,.int .i64 0,.int .i64 0,.int .i64 0,.bool false]),true⟩
def c7n:Ty:=⟨7,88,(.struct [(0,3),(1,118)]),(some [.int .i64 0,.int .i64 0,.int .i64 0,.int .i64 0,.nils,.nils,.int .i64 0]),true⟩
def c7o:Ty:=⟨2,32,(.struct [(0,29),(1,4)]),(some [.nils,.bool false]),true⟩
def c7p:Ty:=⟨4,40,(.struct [(0,17),(1,17),(2,17),(3,9)]),(some [.nilp,.nilp,.nilp,.str []]),false⟩
def c7q:Ty:=⟨0,0,(.struct [(0,322)]),(some []),false⟩
def c7r:Ty:=⟨11,48,(.struct [(0,12),(1,12),(2,213),(3,325),(4,5),(5,5),(6,326),(7,327),(8,328),(9,329),(10,330)]),(some [.int .u64 0,.int .u64 0,.int .u32 0,.int .u8 0,.int .u8 0,.int .u8 0,.int .u8 0,.nilf,.nilp,.int .i32 0,.int .i32 0]),false⟩
def ti0(t:Nat):Ty:=cond (Nat.blt t 7) (cond (Nat.blt t 2) (cond (Nat.blt t 1) tj0 tj1) (cond (Nat.blt t 4) tj2 (cond (Nat.blt t 5) ⟨1,1,.bool,(some [.bool false]),false⟩ tj3))) (cond (Nat.blt t 12) (cond (Nat.blt t 9) tj4 tj5) (cond (Nat.blt t 13) tj6 (cond (Nat.blt t 15) tj7 ⟨1,8,(.ptr 321),(some [.nilp]),false⟩)))
def ti1(t:Nat):Ty:=cond (Nat.blt t 24) (cond (Nat.blt t 20) (cond (Nat.blt t 18) (cond (Nat.blt t 17) ⟨1,8,(.ptr 324),(some [.nilp]),false⟩ ⟨1,8,(.ptr 332),(some [.nilp]),false⟩) tj8) (cond (Nat.blt t 22) (cond (Nat.blt t 21) ⟨1,16,.ifc,(some [.nili]),false⟩ tj9) c6T)) (cond (Nat.blt t 28) (cond (Nat.blt t 25) ⟨1,24,(.sl 23),(some [.nils]),false⟩ (cond (Nat.blt t 27) c6U ⟨1,24,(.sl 91),(some [.nils]),false⟩)) (cond (Nat.blt t 30) (cond (Nat.blt t 29) ⟨1,24,(.sl 69),(some [.nils]),false⟩ ⟨1,24,(.sl 5),(some [.nils]),false⟩) (cond (Nat.blt t 31) tj0 tj1)))
def ti2(t:Nat):Ty:=cond (Nat.blt t 40) (cond (Nat.blt t 35) (cond (Nat.blt t 33) tj1 (cond (Nat.blt t 34) ⟨1,8,(.ptr 112),(some [.nilp]),false⟩ tj1)) (cond (Nat.blt t 37) c6o (cond (Nat.blt t 38) tj2 (cond (Nat.blt t 39) tj0 tj1)))) (cond (Nat.blt t 42) (cond (Nat.blt t 41) c6o tj0) tj1)
def ti3(t:Nat):Ty:=cond (Nat.blt t 56) (cond (Nat.blt t 52) (cond (Nat.blt t 50) (cond (Nat.blt t 49) tj1 ⟨1,24,(.sl 63),(some [.nils]),false⟩) c6p) (cond (Nat.blt t 54) (cond (Nat.blt t 53) tj0 tj1) (cond (Nat.blt t 55) c6p tj0))) (cond (Nat.blt t 60) tj1 (cond (Nat.blt t 62) c6V c6W))
def ti4(t:Nat):Ty:=cond (Nat.blt t 71) (cond (Nat.blt t 66) tj1 (cond (Nat.blt t 68) c6X (cond (Nat.blt t 70) c6Y tj1))) (cond (Nat.blt t 75) (cond (Nat.blt t 73) c6Z (cond (Nat.blt t 74) tj0 tj1)) (cond (Nat.blt t 77) c7a tj1))
def ti5(t:Nat):Ty:=cond (Nat.blt t 88) (cond (Nat.blt t 84) (cond (Nat.blt t 83) tj1 ⟨1,8,(.ptr 105),(some [.nilp]),false⟩) (cond (Nat.blt t 87) tj1 ⟨1,24,(.sl 72),(some [.nils]),false⟩)) (cond (Nat.blt t 92) (cond (Nat.blt t 90) c7b c7c) (cond (Nat.blt t 94) (cond (Nat.blt t 93) tj1 ⟨1,8,(.ptr 174),(some [.nilp]),false⟩) (cond (Nat.blt t 95) tj0 tj1)))
def ti6(t:Nat):Ty:=cond (Nat.blt t 104) (cond (Nat.blt t 97) tj0 (cond (Nat.blt t 103) tj1 ⟨1,24,(.sl 4),(some [.nils]),false⟩)) (cond (Nat.blt t 106) c7d (cond (Nat.blt t 110) tj1 (cond (Nat.blt t 111) ⟨1,8,(.map 3 161),(some [.nilm]),false⟩ c6q)))
def ti7(t:Nat):Ty:=cond (Nat.blt t 120) (cond (Nat.blt t 116) (cond (Nat.blt t 114) (cond (Nat.blt t 113) c6q tj0) (cond (Nat.blt t 115) tj1 ⟨1,24,(.sl 118),(some [.nils]),false⟩)) (cond (Nat.blt t 117) tj1 (cond (Nat.blt t 119) c7e tj0))) (cond (Nat.blt t 126) tj1 (cond (Nat.blt t 127) tj0 tj1))
def ti8(t:Nat):Ty:=cond (Nat.blt t 136) (cond (Nat.blt t 132) tj1 (cond (Nat.blt t 133) ⟨1,24,(.sl 89),(some [.nils]),false⟩ tj1)) (cond (Nat.blt t 139) (cond (Nat.blt t 137) ⟨1,24,(.sl 138),(some [.nils]),false⟩ c6r) (cond (Nat.blt t 142) tj1 (cond (Nat.blt t 143) ⟨1,24,(.sl 143),(some [.nils]),false⟩ c6r)))
def ti9(t:Nat):Ty:=cond (Nat.blt t 151) (cond (Nat.blt t 147) (cond (Nat.blt t 146) tj1 ⟨1,24,(.sl 3),(some [.nils]),false⟩) (cond (Nat.blt t 150) tj1 tj6)) (cond (Nat.blt t 155) tj1 (cond (Nat.blt t 156) ⟨1,24,(.sl 219),(some [.nils]),false⟩ tj1))
def c6I(t:Nat):Ty:=cond (Nat.blt t 170) (cond (Nat.blt t 162) c7f tj1) (cond (Nat.blt t 173) (cond (Nat.blt t 171) ⟨1,8,(.ptr 172),(some [.nilp]),false⟩ c7g) (cond (Nat.blt t 175) c7h tj1))
def c6J(t:Nat):Ty:=cond (Nat.blt t 183) (cond (Nat.blt t 178) (cond (Nat.blt t 177) tj1 tj6) (cond (Nat.blt t 182) tj1 tj0)) (cond (Nat.blt t 187) tj1 (cond (Nat.blt t 188) tj0 tj1))
def c6K(t:Nat):Ty:=cond (Nat.blt t 201) (cond (Nat.blt t 193) tj0 tj1) (cond (Nat.blt t 202) ⟨1,8,(.ptr 244),(some [.nilp]),false⟩ tj1)
def c6L(t:Nat):Ty:=cond (Nat.blt t 214) (cond (Nat.blt t 211) (cond (Nat.blt t 209) ⟨1,8,(.ptr 210),(some [.nilp]),false⟩ c7i) (cond (Nat.blt t 212) tj0 (cond (Nat.blt t 213) tj1 ⟨1,4,(.int .u32),(some [.int .u32 0]),false⟩))) (cond (Nat.blt t 218) tj1 (cond (Nat.blt t 221) (cond (Nat.blt t 220) c7j tj1) (cond (Nat.blt t 222) ⟨1,24,(.sl 29),(some [.nils]),false⟩ (cond (Nat.blt t 223) tj0 tj1))))
def c6M(t:Nat):Ty:=cond (Nat.blt t 228) (cond (Nat.blt t 226) (cond (Nat.blt t 225) tj1 tj0) (cond (Nat.blt t 227) tj1 ⟨1,8,(.ptr 268),(some [.nilp]),false⟩)) (cond (Nat.blt t 239) tj1 ⟨1,24,(.sl 251),(some [.nils]),false⟩)
def c6N(t:Nat):Ty:=cond (Nat.blt t 248) (cond (Nat.blt t 243) (cond (Nat.blt t 242) c7k tj1) (cond (Nat.blt t 245) c7l (cond (Nat.blt t 246) tj0 tj1))) (cond (Nat.blt t 252) (cond (Nat.blt t 250) (cond (Nat.blt t 249) ⟨1,8,(.map 9 67),(some [.nilm]),false⟩ ⟨1,24,(.sl 239),(some [.nils]),false⟩) c7m) (cond (Nat.blt t 253) ⟨1,24,(.sl 9),(some [.nils]),false⟩ tj1))
def c6O(t:Nat):Ty:=cond (Nat.blt t 262) (cond (Nat.blt t 259) tj1 (cond (Nat.blt t 260) ⟨1,24,(.sl 261),(some [.nils]),false⟩ c7n)) (cond (Nat.blt t 267) tj1 (cond (Nat.blt t 269) c7o tj1))
def c6P(t:Nat):Ty:=cond (Nat.blt t 280) (cond (Nat.blt t 276) (cond (Nat.blt t 275) tj1 ⟨1,8,(.ptr 251),(some [.nilp]),false⟩) tj1) (cond (Nat.blt t 282) (cond (Nat.blt t 281) tj2 tj0) tj1)
def c6Q(t:Nat):Ty:=cond (Nat.blt t 298) tj1 (cond (Nat.blt t 302) (cond (Nat.blt t 299) tj6 tj1) (cond (Nat.blt t 303) ⟨1,8,(.ptr 3),(some [.nilp]),false⟩ tj1))
def c6R(t:Nat):Ty:=cond (Nat.blt t 312) (cond (Nat.blt t 311) tj1 ⟨16,64,(.arr 16 213),(some (List.replicate 16 (.int .u32 0))),false⟩) (cond (Nat.blt t 314) (cond (Nat.blt t 313) ⟨1,8,(.ptr 298),(some [.nilp]),false⟩ tj0) tj1)
def c6S(t:Nat):Ty:=cond (Nat.blt t 327) (cond (Nat.blt t 323) (cond (Nat.blt t 322) c7p ⟨0,0,(.arr 0 16),(some []),false⟩) (cond (Nat.blt t 325) c7q tj3)) (cond (Nat.blt t 329) (cond (Nat.blt t 328) tj1 ⟨1,8,(.ptr 5),(some [.nilp]),false⟩) (cond (Nat.blt t 331) tj9 (cond (Nat.blt t 333) c7r ⟨1,8,.other,(some [.nilp]),false⟩)))
def tiT(t:Nat):Ty:=cond (Nat.blt t 160) (cond (Nat.blt t 80) (cond (Nat.blt t 32) (cond (Nat.blt t 16) (ti0 t) (ti1 t)) (cond (Nat.blt t 48) (ti2 t) (cond (Nat.blt t 64) (ti3 t) (ti4 t)))) (cond (Nat.blt t 112) (cond (Nat.blt t 96) (ti5 t) (ti6 t)) (cond (Nat.blt t 128) (ti7 t) (cond (Nat.blt t 144) (ti8 t) (ti9 t))))) (cond (Nat.blt t 240) (cond (Nat.blt t 192) (cond (Nat.blt t 176) (c6I t) (c6J t)) (cond (Nat.blt t 208) (c6K t) (cond (Nat.blt t 224) (c6L t) (c6M t)))) (cond (Nat.blt t 288) (cond (Nat.blt t 256) (c6N t) (cond (Nat.blt t 272) (c6O t) (c6P t))) (cond (Nat.blt t 304) (c6Q t) (cond (Nat.blt t 320) (c6R t) (c6S t)))))
theorem c3m:(List.range 334).map (c5z Proofs.Tryz.prog)=(List.range 334).map (fun t=>some (tiT t)):=by kernel_rfl
theorem mixed:Proofs.Tryz.prog.follows .mixedOrders=true:=by kernel_rfl
theorem c6a(t:Nat)(ht:t<334):c5z Proofs.Tryz.prog t=some (tiT t):=by
 have h:=congrArg (fun l:List (Option Ty)=>l[t]?) c3m
 simp only [List.getElem?_map,List.getElem?_range ht,Option.map_some,Option.some.injEq] at h
 exact h
end Go.Abs
namespace Go.Abs
/-! Steps of the machine -/
end Go.Abs
namespace Go.Abs
mutual
def b9v:AV->Bool
 | .any|.int _ _|.bool _|.str _|.nilp|.nils|.nilm|.nilf|.nili|.ptr _ _|.pe _ _ _|.own _ _ _|.mp _=>true
 | .agg cs=>a6p cs
 | .tup cs=>a6p cs
 | _=>false
def a6p:List AV->Bool
 | []=>true
 | x::xs=>b9v x&&a6p xs
end
def a8n:AO->Bool
 | .cells cs _=>a6p cs
 | .arr cs _=>a6p cs
 | .map es=>a6p (es.map (·.1))&&a6p (es.map (·.2))
 | .itr _ _=>true
def a8m(h:Hp):Bool:=h.all fun o=>match o with
 | none=>true
 | some o=>a8n o
theorem a2v{α:Type}{f:α->AV}(h:∀x,b9v (f x)=true):∀l:List α,a6p (l.map f)=true
 | []=>rfl
 | x::l=>by simp [a6p,h x,a2v h l]
section
variable{sz sz2:Cx}{m m':Mu}{w:World}
theorem a7r{k id:Nat}{x:MS}(hk:m.length=k)(h:id<m'.length)(hx:(m++m')[id+k]?=some x):m'[id]?=some x:=by
 rw [List.getElem?_append_right (by omega)] at hx
 have:id+k - m.length=id:=by omega
 rwa [this] at hx
theorem Own.shift{A:Option Addr}{c id lo k:Nat}(hz:sz2.sz=sz.sz)(hk:m.length=k)(h:Own sz m' w A c id lo):Own sz2 (m++m') w A c (id+k) lo :=
 ⟨by simp;have:=h.1;omega,fun hx=>h.2.1 (a7r hk h.1 hx),fun b hb=>by rw [hz];exact h.2.2 b (a7r hk h.1 hb)⟩
theorem b8v.shift{a:Addr}{id i off k:Nat}(hz:sz2.sz=sz.sz)(hk:m.length=k)(h:b8v sz m' w a id i off):b8v sz2 (m++m') w a (id+k) i off :=
 ⟨by simp;have:=h.1;omega,fun b hb=>by rw [hz];exact h.2 b (a7r hk h.1 hb)⟩
mutual
theorem Rel.shift{k:Nat}(hz:sz2.sz=sz.sz)(hk:m.length=k):∀(x:AV) {v:Value},b9v x=true->Rel sz m' w x v->Rel sz2 (m++m') w (rnA (·+k) x) v
 | .any,_,_,_=>by simp [rnA,Rel]
 | .int _ _,_,_,h|.bool _,_,_,h|.str _,_,_,h|.nilp,_,_,h|.nils,_,_,h|.nilm,_,_,h|.nilf,_,_,h|.nili,_,_,h=>by simpa [Rel,rnA] using h
 | .ptr id off,_,_,h=>by
  simp only [Rel,rnA] at h ⊢
  obtain ⟨a,h1,h2,h3⟩:=h
  exact ⟨a,h1,by simp;omega,fun b hb=>h3 b (a7r hk h2 hb)⟩
 | .pe id i off,_,_,h=>by
  simp only [Rel,rnA] at h ⊢
  obtain ⟨a,h1,h2⟩:=h
  exact ⟨a,h1,h2.shift hz hk⟩
 | .own id lo n,_,_,h=>by
  simp only [Rel,rnA] at h ⊢
  obtain ⟨a,c,h1,h2,h3,h4⟩:=h
  exact ⟨a,c,h1,h2,h3,h4.shift hz hk⟩
 | .mp id,_,_,h=>by
  simp only [Rel,rnA] at h ⊢
  obtain ⟨r,h1,h2,h3⟩:=h
  exact ⟨r,h1,by simp;omega,fun b hb=>h3 b (a7r hk h2 hb)⟩
 | .agg cs,_,hs,h=>by
  simp only [Rel,rnA] at h ⊢;simp only [b9v] at hs
  obtain ⟨us,h1,h2⟩:=h
  exact ⟨us,h1,RelL.shift hz hk cs hs h2⟩
 | .tup cs,_,hs,h=>by
  simp only [Rel,rnA] at h ⊢;simp only [b9v] at hs
  obtain ⟨us,h1,h2⟩:=h
  exact ⟨us,h1,RelL.shift hz hk cs hs h2⟩
 | .fp _,_,hs,_|.sl _ _,_,hs,_|.clo _ _ _,_,hs,_|.ifc _ _,_,hs,_|.gp _ _,_,hs,_=>by simp [b9v] at hs
theorem RelL.shift{k:Nat}(hz:sz2.sz=sz.sz)(hk:m.length=k):∀(xs:List AV) {vs:List Value},a6p xs=true->RelL sz m' w xs vs->RelL sz2 (m++m') w (rnL (·+k) xs) vs
 | [],_,_,h=>by simpa [RelL,rnL] using h
 | x::xs,_,hs,h=>by
  simp only [RelL,rnL] at h ⊢;simp only [a6p,Bool.and_eq_true] at hs
  obtain ⟨u,r,h1,h2,h3⟩:=h
  exact ⟨u,r,h1,Rel.shift hz hk x hs.1 h2,RelL.shift hz hk xs hs.2 h3⟩
end
theorem OB.shift{k:Nat}(hz:sz2.sz=sz.sz)(hk:m.length=k){o:AO}{x:MS}(hs:a8n o=true)(h:OB sz m' w o x):OB sz2 (m++m') w (rnO (·+k) o) x:=by
 cases x with
 | dead=>cases o<;>exact h.elim
 | nil =>
  cases o with
  | cells cs e=>exact h.elim
  | map es=>exact h.elim
  | itr s p=>exact h.elim
  | arr es e =>
   simp only [OB] at h
   subst h
   rfl
 | blk b =>
  cases o with
  | cells cs e =>
   obtain ⟨us,h2,h3⟩:=h
   exact ⟨us,h2,RelL.shift hz hk _ hs h3⟩
  | arr es e =>
   obtain ⟨us,vs,h2,h3,h4,h5⟩:=h
   exact ⟨us,vs,h2,RelL.shift hz hk _ hs h3,by rw [hz];exact h4,h5⟩
  | map es =>
   obtain ⟨us,clock,h3,h4,h5,h6,h7⟩:=h
   simp only [a8n,Bool.and_eq_true] at hs
   refine ⟨us,clock,h3,h4,h5,?_,?_⟩
   ·show RelL _ _ _ ((_:List (AV × AV)).map (·.1)) _
    rw [b2c];exact RelL.shift hz hk _ hs.1 h6
   ·show RelL _ _ _ ((_:List (AV × AV)).map (·.2)) _
    rw [b2d];exact RelL.shift hz hk _ hs.2 h7
  | itr s p=>exact h
end
theorem a1W{E:Env}{f:FuncId}{args args':List AV}{P:AV->Hp->Prop}{H:Hp}(h:∀X,a0b (E.wX X) f args' [] P)(hs:∀r h',P r h'->b9v r=true/\a8m h'=true)(hb:Bor E H args args') :
  a0b E f args H (fun r H'=>∃r0 h',P r0 h'/\r=rnA (·+H.length) r0/\H'=H++a1T (·+H.length) h'):=by
 refine ⟨(h E.X).1,fun m w vs hok hglob hargs hsim=>?_⟩
 have hc:Cmp (fun _=>none) E.cx (E.wX fun _=>False).cx m []:=⟨rfl,fun _ _ h=>absurd h (by simp),fun b hb=>hb.elim (fun h=>absurd h (by simp)) (fun h=>h.elim)⟩
 have hsim0:(E.wX fun _=>False).Sim [] w []:=⟨rfl,fun _ _ h=>by simp at h,fun _ h=>by simp at h,fun _ _ _ h=>by simp at h,fun b hb=>hb.elim,fun b hb=>absurd hb (by simp)⟩
 refine ((h fun _=>False).2 [] w vs hok (fun g=>Rel.cmp hc (fun i h=>absurd h (Nat.not_lt_zero _)) _ (hok.2.2 g) (hglob g)) (hb.rel hok hsim hargs) hsim0).mono ?_
 rintro e w' ⟨v,m',r',h',he,hext,hr,hs',hP⟩
 obtain ⟨hr0,hh0⟩:=hs _ _ hP
 have hlen:=hsim.len
 have hnew:∀b,.blk b∈m'->w.heap.size<=b:=fun b hb=>by
  rcases Nat.lt_or_ge b w.heap.size with h1|h1
  ·exact absurd (hext.fresh b h1 hb) (by simp)
  ·exact h1
 have hext2:Ext m w (m++m') w':=⟨hext.os,hext.tape,hext.output,hext.size,fun b hb _=>hext.keep b hb (by simp),fun b hb hm=>by
   rcases List.mem_append.1 hm with h1|h1
   ·exact h1
   ·exact absurd (hnew b h1) (by omega),by simp,fun id x hid _ hx=>by rwa [List.getElem?_append_left hid] at hx,hext.shape⟩
 refine ⟨v,m++m',rnA (·+H.length) r',H++a1T (·+H.length) h',he,hext2,Rel.shift (sz:=(E.wX fun _=>False).cx) (sz2:=E.cx) rfl hlen _ hr0 hr,?_,r',h',hP,rfl,rfl⟩
 have hl':=hs'.len
 refine ⟨by simp [a1T,hlen,hl'],fun id o ho=>?_,fun id ho=>?_,fun i j b hi hj=>?_,fun b hb=>Nat.lt_of_lt_of_le (hsim.xlt b hb) hext.size,fun b hb hX=>?_⟩
 ·rcases Nat.lt_or_ge id H.length with hlt|hge
  ·rw [List.getElem?_append_left hlt] at ho
   obtain ⟨x,h1,h2⟩:=hsim.live id o ho
   refine ⟨x,by rw [List.getElem?_append_left (by omega)];exact h1,h2.ext hext2 fun b hb=>hext.keep b ?_ (by simp)⟩
   subst hb
   exact hsim.lt (List.mem_of_getElem? h1)
  rw [List.getElem?_append_right hge] at ho
  simp only [a1T,List.getElem?_map,Option.map_eq_some_iff] at ho
  obtain ⟨o1,ho1,ho2⟩:=ho
  cases o1 with
  | none=>obtain ⟨_,h9,_⟩:=ho2;cases h9
  | some o1 =>
   obtain ⟨o2,h9,rfl⟩:=ho2
   cases h9
   obtain ⟨x,h1,h2⟩:=hs'.live _ o1 ho1
   refine ⟨x,by rw [List.getElem?_append_right (by omega),hlen];exact h1,?_⟩
   exact OB.shift (sz:=(E.wX fun _=>False).cx) (sz2:=E.cx) rfl hlen (by
    have:=List.all_eq_true.1 hh0 (some o1) (List.mem_of_getElem? ho1)
    simpa using this) h2
 ·rcases Nat.lt_or_ge id H.length with hlt|hge
  ·rw [List.getElem?_append_left hlt] at ho
   rw [List.getElem?_append_left (by omega)]
   exact hsim.dead id ho
  rw [List.getElem?_append_right hge] at ho
  simp only [a1T,List.getElem?_map,Option.map_eq_some_iff] at ho
  obtain ⟨o1,ho1,ho2⟩:=ho
  cases o1 with
  | some o1=>simp at ho2
  | none =>
   rw [List.getElem?_append_right (by omega),hlen]
   exact hs'.dead _ ho1
 ·rcases Nat.lt_or_ge i m.length with hi1|hi1<;>rcases Nat.lt_or_ge j m.length with hj1|hj1
  ·rw [List.getElem?_append_left hi1] at hi;rw [List.getElem?_append_left hj1] at hj
   exact hsim.inj i j b hi hj
  ·rw [List.getElem?_append_left hi1] at hi;rw [List.getElem?_append_right hj1] at hj
   have h1:=hsim.lt (List.mem_of_getElem? hi)
   have h2:=hnew b (List.mem_of_getElem? hj)
   omega
  ·rw [List.getElem?_append_right hi1] at hi;rw [List.getElem?_append_left hj1] at hj
   have h1:=hsim.lt (List.mem_of_getElem? hj)
   have h2:=hnew b (List.mem_of_getElem? hi)
   omega
  rw [List.getElem?_append_right hi1] at hi;rw [List.getElem?_append_right hj1] at hj
  have:=hs'.inj _ _ b hi hj
  omega
 rcases List.mem_append.1 hb with h1|h1
 ·exact hsim.disj b h1 hX
 have h2:=hsim.xlt b hX
 have h3:=hnew b h1
 omega
end Go.Abs
namespace Go.Abs
section
variable{E:Env}{ρ:Operand->AV}{H:Hp}{K:AV->Hp->Prop}{d:Option Nat}{ty:TypeId}{pos:String}{after:Array Edge}{g:Option (Nat × Bool)}
theorem a6R{x:Operand}{lo hi:Option Operand}{t e e':TypeId}{id o n:Nat}{es:List AV}{l h lo' n':Nat}(hl:Bnd ρ lo 0 l)(hh:Bnd ρ hi n h)(hlh:l<=h)(hle:h<=n)(e1:o+l=lo')(e2:h - l=n')
  (ht:Nat.blt t E.n=true) (htk:(E.ti t).k=.sl e) (he:Nat.blt e E.n=true) (he':Nat.blt e' E.n=true)
  (hx:ρ x=.own id o n) (ho:H[id]?=some (some (.arr es e'))) (hk:Nat.beq (E.ti e).sz (E.ti e').sz=true) (hK:K (.own id lo' n') H) :
  a0z E ⟨d,.slice t x lo hi none,ty,pos,after,g⟩ ρ H K:=a6Q ht htk he he' hx ho hk hl hh hlh hle (by rw [e1,e2];exact hK)
theorem a1f{α:Type}{f:α->AV}{xs:List α}{x:Operand}{lo hi:Option Operand}{t e:TypeId}{k:Nat}{l h:Nat}{ys:List α}(hl:Bnd ρ lo 0 l)(hh:Bnd ρ hi (xs.map f).length h)(hlh:l<=h)(hle:h<=xs.length)(e1:(xs.take h).drop l=ys)
  (ht:Nat.blt t E.n=true) (htk:(E.ti t).k=.sl e) (he:Nat.blt e E.n=true) (hx:ρ x=.sl k (xs.map f))
  (hk:Nat.beq (E.ti e).sz k=true) (hK:K (.sl k (ys.map f)) H) :
  a0z E ⟨d,.slice t x lo hi none,ty,pos,after,g⟩ ρ H K:=b2r ht htk he hx hk hl hh hlh (by simpa using hle) (by rw [<- List.map_take,<- List.map_drop,e1];exact hK)
theorem a5U{x i:Operand}{t e e':TypeId}{id lo len p:Nat}{es:List AV}{kk:IntKind}{n:Int}{j:Nat}(hn:n=(j:Int))(hj:j<len)(e1:lo+j=p)(ht:Nat.blt t E.n=true)(htk:(E.ti t).k=.sl e)(he:Nat.blt e E.n=true)(he':Nat.blt e' E.n=true)
  (hx:ρ x=.own id lo len) (hi:ρ i=.int kk n) (ho:H[id]?=some (some (.arr es e'))) (hk:Nat.beq (E.ti e).sz (E.ti e').sz=true) (h:K (.pe id p 0) H) :
  a0z E ⟨d,.indexAddr t x i,ty,pos,after,g⟩ ρ H K:=a3m ht htk he he' hx hi ho hk hn hj (by rw [e1];exact h)
theorem a0V{t t' e:TypeId}{x y:Operand}{z es new out:List AV}{oid:Option Nat}{n:Nat}(hd:b8y H e (ρ x)=some (oid,es))(hs:a6O E H (E.ti e).sz (ρ y)=some new)(hone:a2R new)(e1:es++new=out)(e2:es.length+new.length=n)
  (hm:n<=maxLen) (hb:n*(E.ti e).bt<=140737488355328) (ht:Nat.blt t E.n=true) (hk:(E.ti t).k=.sl e) (ht':Nat.blt t' E.n=true) (hk':(E.ti t').k=.sl e) (he:Nat.blt e E.n=true) (hz:(E.ti e).z=some z)
  (hzl:Nat.beq z.length (E.ti e).sz=true) (hz0:Nat.blt 0 (E.ti e).sz=true) (h:K (.own H.length 0 n) (a2V H oid++[some (.arr out e)])) :
  a0z E ⟨d,.call ⟨.builtin .append,#[x,y],#[t,t']⟩,ty,pos,after,g⟩ ρ H K:=a2E ht hk ht' hk' he hz hzl hz0 hd hs hone (by rw [e2];exact hm) (by rw [e2];exact hb) (by rw [e1,e2];exact h)
end
end Go.Abs
namespace Go.Abs
end Go.Abs
namespace Go.Abs
open Go.RowKit
end Go.Abs
namespace Go.Abs
def c1F(id:Nat)(cs:List AV):AV->AV
 | .ptr i off=>if i=id/\off=0 then .fp cs else .ptr i off
 | v=>v
section
variable{E:Env}{N n0:Nat}{s:St}
theorem a0w{id:Nat}{cs:List AV}{e:TypeId}(ho:s.hp[id]?=some (some (.cells cs e))) :
  Imp E N n0 s ⟨s.sl.map fun p=>(p.1,c1F id cs p.2),s.hp.set id none⟩:=by
 intro m0 w0 hn m w a hext hs
 have hid:id<s.hp.length:=(List.getElem?_eq_some_iff.1 ho).1
 have hidm:id<m.length:=by rw [hs.sim.len];exact hid
 have hget:∀(i:Nat) (x:MS),x≠.dead->(m.set id .dead)[i]?=some x->m[i]?=some x/\i≠id:=fun i x hx h=>by
  by_cases hi:id=i
  ·subst hi;rw [List.getElem?_set_self hidm] at h;cases h;exact absurd rfl hx
  ·rw [List.getElem?_set_ne hi] at h;exact ⟨h,Ne.symm hi⟩
 have hsub:∀b,MS.blk b∈m.set id .dead->MS.blk b∈m:=fun b hb=>by
  obtain ⟨i,hi,he⟩:=List.getElem_of_mem hb
  exact List.mem_of_getElem? (hget i _ (by simp) (by rw [List.getElem?_eq_getElem hi,he])).1
 have hc:Cmp some E.cx E.cx m (m.set id .dead):=⟨rfl,fun i j hij hi=>by
  cases hij
  exact ⟨by simpa using hi,fun x hx h=>(hget _ x hx h).1⟩,fun b h=>h.imp (hsub b) (fun h=>h)⟩
 refine ⟨m.set id .dead,⟨hext.os,hext.tape,hext.output,hext.size,hext.keep,fun b hb h=>hext.fresh b hb (hsub b h),by simpa using hext.len,fun i x hi hx h=>hext.ids i x hi hx (hget i x hx h).1,hext.shape⟩,?_⟩
 obtain ⟨q,hq,hob⟩:=hs.sim.live id _ ho
 refine ⟨hs.ok,fun j=>?_,hs.size,hs.defers,?_,fun g=>Rel.cmp_all hc (hs.glob g)⟩
 ·show Abs.Rel E.cx _ w (get (s.sl.map fun p=>(p.1,c1F id cs p.2)) j) _
  rw [get_map _ rfl]
  have hj:=hs.slots j
  generalize get s.sl j=v at hj ⊢
  generalize a.tmps.getD j undef=u at hj ⊢
  cases v with
  | ptr i off =>
   simp only [c1F]
   split
   ·rename_i hcond
    obtain ⟨rfl,rfl⟩:=hcond
    simp only [Env.Rel,Abs.Rel] at hj ⊢
    obtain ⟨ad,h1,h2,h3⟩:=hj
    cases q with
    | dead=>exact hob.elim
    | nil=>exact hob.elim
    | blk b =>
     obtain ⟨us,h7,h8⟩:=hob
     have hA:=h3 b hq
     subst hA
     refine ⟨_,us.toList,h1,RelL.cmp hc (n:=m.length) (fun _ _=>rfl) _ (RelL.ids _ h8) h8,fun _=>⟨_,rfl,(Array.getElem?_eq_some_iff.1 h7).1,fun hm=>?_,hs.sim.disj b (List.mem_of_getElem? hq),fun j u hu=>?_⟩⟩
     ·obtain ⟨i2,hi2,he2⟩:=List.getElem_of_mem hm
      obtain ⟨h14,h15⟩:=hget i2 (.blk b) (by simp) (by rw [List.getElem?_eq_getElem hi2,he2])
      exact h15 (hs.sim.inj i2 i b h14 hq)
     have hadd:(⟨b,0,none⟩:Addr).add j=⟨b,0+j,none⟩:=by unfold Addr.add;split<;>simp_all
     rw [hadd,cell_of_row w b _ us e (0,0) h7]
     simpa using hu
   ·exact Rel.cmp_all hc hj
  | _=>exact Rel.cmp_all hc hj
 refine ⟨by simp [hs.sim.len],fun i o hi=>?_,fun i hi=>?_,fun i j b hi hj=>?_,hs.sim.xlt,fun b hb=>hs.sim.disj b (hsub b hb)⟩
 ·by_cases h:id=i
  ·subst h;rw [List.getElem?_set_self hid] at hi;cases hi
  rw [List.getElem?_set_ne h] at hi
  obtain ⟨x,h1,h2⟩:=hs.sim.live i o hi
  exact ⟨x,by rw [List.getElem?_set_ne h];exact h1,h2.cmp hc (n:=m.length) (fun _ _=>rfl) h2.ids⟩
 ·by_cases h:id=i
  ·subst h;rw [List.getElem?_set_self hidm]
  ·rw [List.getElem?_set_ne h] at hi ⊢
   exact hs.sim.dead i hi
 ·exact hs.sim.inj i j b (hget i _ (by simp) hi).1 (hget j _ (by simp) hj).1
end
end Go.Abs
namespace Go.Abs
theorem a0b.imp{E:Env}{f:FuncId}{args:List AV}{H:Hp}{R R':AV->Hp->Prop}(h:a0b E f args H R)
  (k:∀r H',R r H'->∃r' H'',R' r' H''/\Imp E 1 H.length ⟨[(0,r)],H'⟩ ⟨[(0,r')],H''⟩):a0b E f args H R':=by
 refine ⟨h.1,fun m w vs hok hglob hargs hsim=>(h.2 m w vs hok hglob hargs hsim).mono ?_⟩
 rintro e w' ⟨v,m',r,H',rfl,hext,hr,hs,hR⟩
 obtain ⟨r',H'',hR',hi⟩:=k r H' hR
 obtain ⟨m2,h1,h2⟩:=hi m w hsim.len m' w' { tmps:=#[v],defers:=[] } hext ⟨hok,fun k=>by
  rw [a0R]
  split
  ·rename_i hk;subst hk;exact hr
  ·exact (by simp [get,Env.Rel,Abs.Rel]),rfl,rfl,hs,fun g=>(hglob g).ext hext⟩
 refine ⟨v,m2,r',H'',rfl,h1,?_,h2.sim,hR'⟩
 have:=h2.slots 0
 rw [a0R,if_pos rfl] at this
 exact this
theorem b9i{E:Env}{H:Hp}{es:List AV}{e:TypeId}{k n:Nat}(hn:n=es.length)(he:Nat.blt e E.n=true)(hk:Nat.beq (E.ti e).sz k=true)(hok:HOk H.length H)(hes:a0e H.length es) :
  Imp E 1 H.length ⟨[(0,.own H.length 0 n)],H++[some (.arr es e)]⟩ ⟨[(0,.sl k es)],H⟩:=by
 subst hn
 refine (a0N (id:=H.length) (k:=k) (es:=es) (e:=e) (by simp) he hk).trans ?_
 refine a0j H.length (Nat.le_refl _) hok (by simp) (by simp) ?_
 refine a0a ⟨?_,?_⟩ a0l
 ·simp [a0R,frz]
 ·exact hes
theorem a0b.froz{E:Env}{f:FuncId}{args:List AV}{H:Hp}{es:List AV}{e:TypeId}{n:Nat}(k:Nat)(h:a0b E f args H (fun r H'=>r=.own H.length 0 n/\H'=H++[some (.arr es e)]))(hn:n=es.length)(he:Nat.blt e E.n=true)
  (hk:Nat.beq (E.ti e).sz k=true) (hok:HOk H.length H) (hes:a0e H.length es):a0b E f args H (fun r H'=>r=.sl k es/\H'=H) :=
 h.imp fun r H' ⟨h1,h2⟩=>by
  subst h1;subst h2
  exact ⟨_,_,⟨rfl,rfl⟩,b9i hn he hk hok hes⟩
end Go.Abs
namespace Go.Abs
end Go.Abs
namespace Go.Abs
section
variable{E:Env}{ρ:Operand->AV}{H:Hp}{K:AV->Hp->Prop}{d:Option Nat}{ty:TypeId}{pos:String}{after:Array Edge}{g:Option (Nat × Bool)}
theorem foldl_push(l:List UInt8):∀s:ByteArray,(l.map fun b=>(b.toNat:Int)).foldl (fun r n=>r.push (UInt8.ofNat n.toNat)) s=⟨s.data++l.toArray⟩:=by
 induction l with
 | nil=>intro s;simp
 | cons b l ih =>
  intro s
  simp only [List.map_cons,List.foldl_cons]
  rw [ih]
  have hb:UInt8.ofNat ((b.toNat:Int).toNat)=b:=by simp
  rw [hb]
  simp [ByteArray.push]
theorem b3H{sz:Cx}{m:Mu}{w:World}:∀{l:List UInt8} {vs:List Value},RelL sz m w (l.map u8A) vs->vs=l.map fun b=>Value.int .u8 b.toNat
 | [],vs,h=>by simpa [RelL] using h
 | b::l,vs,h=>by
  obtain ⟨v,r,rfl,h1,h2⟩:=a0o.1 h
  simp only [u8A,Abs.Rel] at h1
  rw [h1,b3H h2];rfl
theorem a4u{x:Operand}{t u e:TypeId}{l:List UInt8}(hx:a6O E H 1 (ρ x)=some (l.map u8A))(ht:Nat.blt t E.n=true)(hkt:(E.ti t).k=.sl e)(hu:Nat.blt u E.n=true)(hk:(E.ti u).k=.str)(he:Nat.blt e E.n=true)(hke:(E.ti e).k=.int .u8)
  (h:K (.str l) H):a0z E ⟨d,.convert t u x,ty,pos,after,g⟩ ρ H K:=by
 refine a0G _ (fun m w a hok hr hsim=>⟨.string ⟨l.toArray⟩,?_,by simp [Env.Rel,Abs.Rel]⟩) h
 obtain ⟨A,c,vs,h1,h2,h3,h4,h5⟩:=a7m hok hsim (hr x) hx
 have hvs:=b3H h3
 subst hvs
 rw [a5z (c5k l)] at h5
 have hu1:=run_underlying (w:=w) (a3z hok ht hkt)
 have hu2:=run_underlying (w:=w) (a8O hok hu hk)
 have hu3:=run_underlying (w:=w) (a5V hok he hke)
 have hb:(Conv.bytesToString (a.eval x)).run E.P w=.ok (.string ⟨l.toArray⟩) w:=by
  rw [h1,List.length_map]
  cases A with
  | none =>
   have hl:l=[]:=by
    rcases l with _|⟨b,l⟩
    ·rfl
    ·obtain ⟨a,ha,_⟩:=h5 (by simp)
     cases ha
   subst hl
   simp [Conv.bytesToString,Sem.run_pure]
   rfl
  | some ad =>
   have hc:∀(j:Nat) (u:Value),(l.map fun b=>Value.int .u8 b.toNat)[j]?=some u->w.cell? (ad.add j)=some u:=fun j u hj=>by
    obtain ⟨a,ha,hcell⟩:=h5 (by intro h0;rw [h0] at hj;simp at hj)
    cases ha
    exact hcell j u hj
   have hrun:=b0P (E:=E) hc
   have h6:(l.map fun b=>Value.int .u8 b.toNat)=(l.map fun b=>(b.toNat:Int)).map (Value.int .u8):=by simp
   rw [h6] at hrun
   simp only [List.length_map] at hrun
   have:=run_bytesToString w ad l.length c (l.map fun b=>(b.toNat:Int)) hrun
   rw [this,foldl_push]
   simp
 simp only [execOp,convert,Sem.run_bind,hu1,hu2,hu3,Result.andThen_ok,h1]
 rw [h1] at hb
 generalize hcc:c=c' at *
 cases A with
 | none=>simp only [hu3,Sem.run_bind,Result.andThen_ok,hb,Sem.run_pure]
 | some ad=>simp only [hu3,Sem.run_bind,Result.andThen_ok,hb,Sem.run_pure]
theorem a8d{x i:Operand}{t e:TypeId}{N:Nat}{cs:List AV}{kk:IntKind}{n:Int}{j:Nat}{y:AV}(hn:n=(j:Int))(hj:j<N)(hy:cs[j]?=some y)(ht:Nat.blt t E.n=true)(htk:(E.ti t).k=.arr N e)(he:Nat.blt e E.n=true)
  (hs1:Nat.beq (E.ti e).sz 1=true) (hx:ρ x=.fp cs) (hi:ρ i=.int kk n) (h:K (.fp [y]) H):a0z E ⟨d,.indexAddr t x i,ty,pos,after,g⟩ ρ H K:=by
 refine a0G _ (fun m w a hok hr hsim=>?_) h
 have h1:=hr x;have h2:=hr i
 rw [hx] at h1;rw [hi] at h2
 simp only [Env.Rel,Abs.Rel] at h1
 obtain ⟨ad,us,h3,h4,h5⟩:=h1
 have hs1':=Nat.eq_of_beq_eq_true hs1
 obtain ⟨u,hu,hru⟩:=h4.get j hy
 have hne:us≠[]:=fun h0=>by subst h0;simp at hu
 obtain ⟨a2,ha2,h10,h11,hX,h12⟩:=h5 hne
 cases ha2
 subst hn
 have hin:(0:Int)<=(j:Int)/\(j:Int)<(N:Int):=by omega
 refine ⟨.pointer (some (ad.add (j*1))),?_,?_⟩
 ·simp only [execOp,Instr.indexAt,Sem.run_bind,a1m h2,asIntOf,Sem.run_pure,Result.andThen_ok,run_underlying (c1h hok ht htk),h3,Instr.sureAddr,hin.1,hin.2,and_self,if_true,a1V hok he,hs1',Int.toNat_natCast]
 show Abs.Rel _ _ _ _ _
 simp only [Abs.Rel]
 refine ⟨_,[u],rfl,RelL.cons hru (by simp [Abs.RelL]),fun _=>⟨_,rfl,by rw [a2d];exact h10,by rw [a2d];exact h11,by rw [a2d];exact hX,fun q z hz=>?_⟩⟩
 rw [add_add,Nat.mul_one]
 match q,hz with
 | 0,hz =>
  simp at hz
  subst hz
  exact h12 _ _ (by simpa using hu)
 | q+1,hz=>simp at hz
theorem b2k{t t' e:TypeId}{x y:Operand}{n:Nat}{kn kk:IntKind}{nn:Int}(hn:nn=(n:Int))(h0:0<n)(hm:n<=1073741824)(ht:Nat.blt t E.n=true)(hk:(E.ti t).k=.sl e)(ht':Nat.blt t' E.n=true)(hk':(E.ti t').k=.int kn)(he:Nat.blt e E.n=true)
  (hz:(E.ti e).z=some [.int .u8 0]) (hs1:Nat.beq (E.ti e).sz 1=true) (hb1:Nat.beq (E.ti e).bt 1=true) (hx:ρ x=.nils) (hy:ρ y=.int kk nn) (h:K (.own H.length 0 n) (H++[some (.arr (List.replicate n (u8A 0)) e)])) :
  a0z E ⟨d,.call ⟨.builtin .append,#[x,y],#[t,t']⟩,ty,pos,after,g⟩ ρ H K:=by
 refine a1L (fun m w a hok hr hsim=>?_)
 obtain ⟨v,_,h2,i,h3,h4,h5,h6⟩:=a2G hok he hz
 have hs1':=Nat.eq_of_beq_eq_true hs1
 have hb1':=Nat.eq_of_beq_eq_true hb1
 have hx':=hr x;have hy':=hr y
 rw [hx] at hx';rw [hy] at hy'
 subst hn
 have hnil:a.eval x=.slice none 0 0:=by simpa [Env.Rel,Abs.Rel] using hx'
 have hcells:v.cells=#[.int .u8 0]:=by
  have h7:v.cells.size=1:=by have:=congrArg List.length h2;simpa using this
  have h8:v.cells.toList.map b5d=[.int .u8 0]:=h2
  obtain ⟨c,hc⟩:∃c,v.cells.toList=[c]:=by
   have h9:v.cells.toList.length=1:=by simpa using h7
   rcases hl:v.cells.toList with _|⟨c,_|⟨c2,r⟩⟩
   ·rw [hl] at h9;cases h9
   ·exact ⟨c,rfl⟩
   ·rw [hl] at h9;simp at h9
  rw [hc] at h8
  have h10:b5d c=.int .u8 0:=by simpa using h8
  have:c=.int .u8 0:=by
   unfold b5d at h10
   split at h10<;>first|(cases h10;rfl)|contradiction|(cases h10)
  apply Array.ext'
  rw [hc,this]
 have hrun:=Lib.run_append_nil_zeros (P:=E.P) w t t' ty e i v kk kn (a3z hok ht hk) (a5V hok ht' hk') h3 h4 n h0 (by rw [h5,hs1'];decide) (by omega) (by rw [h6,hb1'];omega)
 rw [hcells] at hrun
 have hzc:∀k,(Builtin.zeroCells #[Value.int .u8 0] k).toList=List.replicate k (Value.int .u8 0):=fun k=>by
  apply List.ext_getElem
  ·simp [Builtin.zeroCells]
  ·intro j h1 h2;simp [Builtin.zeroCells,Nat.mod_one]
 have hge:=grownCap_ge w n 0 e
 have hcm:=grownCap_le_maxLen w n 0 e (by simp only [maxLen];omega)
 have hsz2:E.cx.sz e=(E.ti e).sz:=by obtain ⟨_,_,_,_,_,_,_,_,_,h⟩:=a0Q hok he;exact h
 have hrel:E.RelL m w.drew (List.replicate n (u8A 0)) (List.replicate n (Value.int .u8 0)):=by
  have h9:List.replicate n (u8A 0)=(List.replicate n (0:UInt8)).map u8A:=by simp
  have h10:List.replicate n (Value.int .u8 0)=(List.replicate n (0:UInt8)).map fun b=>Value.int .u8 b.toNat:=by simp
  rw [h9,h10];exact b7l _
 have hone:∀u∈List.replicate n (Value.int .u8 0),u.oneCell'=true:=fun u hu=>by rw [List.eq_of_mem_replicate hu];rfl
 obtain ⟨q1,q2,q3⟩:=b1Q (e:=e) (n:=n) (c:=grownCap w n 0 e) (k:=1) (w:=w.drew) hsim.drew rfl hge hcm hrel (fun u hu=>by rw [List.eq_of_mem_replicate hu];rfl) (us:=Builtin.zeroCells #[Value.int .u8 0] n++Builtin.zeroCells #[Value.int .u8 0] (grownCap w n 0 e - n)) (by
  rw [a5z hone,Array.toList_append,hzc,hzc,List.length_replicate,List.take_left' (by simp)]) (by rw [hsz2,hs1']) (by simp [Builtin.zeroCells];omega)
 refine ⟨_,_,_,_,_,?_,(Ext.drew m w).trans q1,q2,q3,h⟩
 simp only [execOp,resolve,invoke,builtin,Sem.run_bind,Sem.run_pure,Result.andThen_ok,List.map_toArray,List.map_cons,List.map_nil,hnil,a1m hy',hrun]
 rfl
theorem a8J{x:Operand}{t e:TypeId}(ht:Nat.blt t E.n=true)(hk:(E.ti t).k=.sl e)(hx:ρ x=.nils)(h:K (.int .i64 0) H):a0z E ⟨d,.call ⟨.builtin .cap,#[x],#[t]⟩,ty,pos,after,g⟩ ρ H K:=by
 refine a0G _ (fun m w a hok hr hsim=>⟨.int .i64 0,?_,a3v⟩) h
 have h1:=hr x
 rw [hx] at h1
 have h2:a.eval x=.slice none 0 0:=by simpa [Env.Rel,Abs.Rel] using h1
 simp [execOp,resolve,invoke,builtin,Builtin.cap_,run_underlying (a3z hok ht hk),h2,goInt]
end
section
variable{E:Env}{N n0:Nat}{sl:List (Nat × AV)}{hp:Hp}
theorem b4w{id n:Nat}{es:List AV}{e:TypeId}(ho:hp[id]?=some (some (.arr es e))):Imp E N n0 ⟨sl,hp⟩ ⟨sl,hp.set id (some (.arr (es.take n) e))⟩:=by
 intro m0 w0 hn m w a hext hs
 refine ⟨m,hext,hs.ok,hs.slots,hs.size,hs.defers,?_,hs.glob⟩
 have hid:id<hp.length:=(List.getElem?_eq_some_iff.1 ho).1
 refine ⟨by simp [hs.sim.len],fun i o hi=>?_,fun i hi=>?_,hs.sim.inj,hs.sim.xlt,hs.sim.disj⟩
 ·by_cases h:id=i
  ·subst h
   rw [List.getElem?_set_self hid] at hi
   simp only [Option.some.injEq] at hi
   subst hi
   obtain ⟨x,h1,h2⟩:=hs.sim.live id _ ho
   refine ⟨x,h1,?_⟩
   cases x with
   | dead=>exact h2.elim
   | nil =>
    have:es=[]:=h2
    subst this
    show List.take n []=[]
    simp
   | blk b =>
    obtain ⟨us,vs,h3,h4,h5,h6⟩:=h2
    refine ⟨us,vs.take n,h3,h4.take n,fun u hu=>h5 u (List.mem_of_mem_take hu),?_⟩
    have h7:=a2B h5 n
    rw [h7,List.length_take]
    conv=>rhs;rw [<- h6,List.take_take]
  ·rw [List.getElem?_set_ne h] at hi
   exact hs.sim.live i o hi
 by_cases h:id=i
 ·subst h;rw [List.getElem?_set_self hid] at hi;cases hi
 ·rw [List.getElem?_set_ne h] at hi
  exact hs.sim.dead i hi
end
end Go.Abs
namespace Go.Abs
def Fin(E:Env)(sl sl':List (Nat × AV)):Prop:=∀k m w v,E.Rel m w (get sl k) v->E.Rel m w (get sl' k) v
def mgA(b:Bool):AV->AV->Option AV
 | .bool x,.bool y=>some (.bool (cond b x y))
 | _,_=>some .any
def mgS(b:Bool):Nat->List (Nat × AV)->List (Nat × AV)->List (Nat × AV)->Option (List (Nat × AV))
 | 0,_,_,sl=>some sl
 | n+1,(k,x)::r1,(j,y)::r0,sl=>cond (Nat.beq k j) (match mgS b n r1 r0 sl with
  | some r=>match mgA b x y with
   | some z=>some ((k,z)::r)
   | none=>none
  | none=>none) none
 | _,_,_,_=>none
def hv:AV->Option AV
 | .any=>some .any
 | .int k n=>some (.int k n)
 | .bool b=>some (.bool b)
 | .str s=>some (.str s)
 | .ptr i o=>some (.ptr i o)
 | .pe i j o=>some (.pe i j o)
 | .sl k es=>some (.sl k es)
 | .own i l n=>some (.own i l n)
 | .agg cs=>some (.agg cs)
 | .tup cs=>some (.tup cs)
 | .fp cs=>some (.fp cs)
 | .nils=>some .nils
 | .nilp=>some .nilp
 | x=>some x
theorem c4k{x y:AV}(h:hv x=some y):x=y:=by
 unfold hv at h
 split at h<;>cases h<;>rfl
def clE(E:Env)(orc:FuncId->List AV->Option AV)(ρ:Operand->AV):Op->Option AV
 | .call ⟨.value f,args,_⟩=>match ρ f with
  | .clo (.func k) [] cap=>orc k (args.toList.map ρ++cap)
  | _=>none
 | .indexAddr t x i=>match ρ x,ρ i with
  | .sl k es,.int _ (.ofNat j)=>match (E.ti t).k with
   | .sl e=>match es[j]? with
    | some b=>cond (Nat.blt t E.n&&Nat.blt e E.n&&Nat.beq (E.ti e).sz k&&Nat.blt 0 k&&known b) (some (.fp (a0Z b))) none
    | none=>none
   | _=>none
  | _,_=>none
 | _=>none
def c4O(E:Env)(dr:Bool)(o:Oper)(sl:List (Nat × AV)):Operand->AV:=cond dr (evF E (a4w o) (get sl)) (ev E sl)
def pvE(E:Env)(orc:FuncId->List AV->Option AV)(dr:Bool)(sl:List (Nat × AV))(hp:Hp)(o:Oper):Option (List (Nat × AV)) :=
 match stP E (c4O E dr o sl) hp o.op with
 | some r=>match hv r with
  | some r2=>match o.dst with
   | some d=>some ((d,r2)::sl)
   | none=>some sl
  | none=>none
 | none=>match clE E orc (c4O E dr o sl) o.op with
  | some r=>match hv r with
   | some r2=>match o.dst with
    | some d=>some ((d,r2)::sl)
    | none=>none
   | none=>none
  | none=>none
def skE(sl:List (Nat × AV))(o:Oper):List (Nat × AV):=match o.dst with
 | some d=>(d,.tup [])::sl
 | none=>sl
def isLit(lt:List Nat):Operand->Bool
 | .tmp t=>lt.any fun i=>Nat.beq i t
 | .const (.bool _)=>true
 | _=>false
def c6w(lt:List Nat)(sl:List (Nat × AV)):Op->Bool
 | .move x=>isLit lt x
 | .assign x=>isLit lt x
 | .unOp _ _ x=>isLit lt x
 | .pick (.tmp c) x y=>cond (lt.any fun i=>Nat.beq i c) (match get sl c with
  | .bool true=>isLit lt x
  | .bool false=>isLit lt y
  | _=>false) false
 | _=>false
def rmN(d:Nat):List Nat->Option (List Nat)
 | []=>some []
 | i::l=>match rmN d l with
  | some r=>match Nat.beq i d with
   | true=>some r
   | false=>some (i::r)
  | none=>none
def ltU(lt:List Nat)(sl:List (Nat × AV))(o:Oper):Option (List Nat):=match o.dst with
 | some d=>match c6w lt sl o.op with
  | true=>some (d::lt)
  | false=>rmN d lt
 | none=>some lt
def a5Z(E:Env)(orc:FuncId->List AV->Option AV)(dr:Bool)(ops:Array Oper)(hp:Hp):Nat->List Nat->List Nat->List Oper->List (Nat × AV)->Option (List (Nat × AV))
 | 0,_,_,_,_=>none
 | _+1,_,_,[],sl=>some sl
 | n+1,kn,lt,o::rest,sl=>match o.guard with
  | none=>match pvE E orc dr sl hp o with
   | some s1=>match ltU lt sl o with
    | some l1=>a5Z E orc dr ops hp n kn l1 rest s1
    | none=>none
   | none=>none
  | some (j,_)=>cond (kn.any fun i=>Nat.beq i j)
    (match a0H ops o sl with
     | some true=>match pvE E orc dr sl hp o with
      | some s1=>match ltU lt sl o with
       | some l1=>a5Z E orc dr ops hp n kn l1 rest s1
       | none=>none
      | none=>none
     | some false=>a5Z E orc dr ops hp n kn lt rest (skE sl o)
     | none=>none)
    (match (ops[j]?).bind (·.dst) with
     | some d=>match get sl d with
      | .bool b=>cond (lt.any fun i=>Nat.beq i d)
       (match b with
        | true=>a5Z E orc dr ops hp n (j::kn) lt (o::rest) ((d,.bool true)::sl)
        | false=>a5Z E orc dr ops hp n (j::kn) lt (o::rest) ((d,.bool false)::sl))
       (match a5Z E orc dr ops hp n (j::kn) (d::lt) (o::rest) ((d,.bool true)::sl),a5Z E orc dr ops hp n (j::kn) (d::lt) (o::rest) ((d,.bool false)::sl) with
        | some s1,some s0=>cond (Nat.beq s1.length s0.length) (mgS b (s1.length - sl.length) s1 s0 sl) none
        | _,_=>none)
      | .tup []=>a5Z E orc dr ops hp n (j::kn) lt (o::rest) ((d,.tup [])::sl)
      | _=>none
     | none=>none)
theorem b9u{x y z:AV}{m:Mu}{w:World}{v:Value}{E:Env}(e:mgA true x y=some z)(h:E.Rel m w x v):E.Rel m w z v:=by
 unfold mgA at e
 split at e
 ·cases e;exact h
 ·cases e;simp [Env.Rel,Abs.Rel]
theorem b6C{x y z:AV}{m:Mu}{w:World}{v:Value}{E:Env}(e:mgA false x y=some z)(h:E.Rel m w y v):E.Rel m w z v:=by
 unfold mgA at e
 split at e
 ·cases e;exact h
 ·cases e;simp [Env.Rel,Abs.Rel]
theorem b3q(b:Bool)(x y:AV):∃z,mgA b x y=some z:=by
 unfold mgA
 split<;>exact ⟨_,rfl⟩
theorem b1G{E:Env}{b:Bool}:∀{n:Nat} {n1 n0 sl r:List (Nat × AV)},n1.length=n->n0.length=n->mgS b n (n1++sl) (n0++sl) sl=some r->(b=true->Fin E (n1++sl) r)/\(b=false->Fin E (n0++sl) r)
 | 0,[],[],sl,r,_,_,h=>by cases h;exact ⟨fun _ _ _ _ _ h=>h,fun _ _ _ _ _ h=>h⟩
 | n+1,(k,x)::n1,(j,y)::n0,sl,r,h1,h0,h=>by
  have hd:mgS b (n+1) ((k,x)::(n1++sl)) ((j,y)::(n0++sl)) sl=cond (Nat.beq k j) (match mgS b n (n1++sl) (n0++sl) sl with
    | some r=>match mgA b x y with
     | some z=>some ((k,z)::r)
     | none=>none
    | none=>none) none:=rfl
  have h':mgS b (n+1) ((k,x)::(n1++sl)) ((j,y)::(n0++sl)) sl=some r:=h
  rw [hd] at h'
  cases hk:Nat.beq k j with
  | false=>rw [hk] at h';cases h'
  | true =>
   have hkj:k=j:=Nat.eq_of_beq_eq_true hk
   subst hkj
   rw [hk] at h'
   simp only [cond_true] at h'
   cases hr:mgS b n (n1++sl) (n0++sl) sl with
   | none=>rw [hr] at h';cases h'
   | some r2 =>
    obtain ⟨z,hz⟩:=b3q b x y
    rw [hr] at h'
    simp only [hz] at h'
    cases h'
    obtain ⟨i1,i0⟩:=b1G (E:=E) (Nat.succ.inj h1) (Nat.succ.inj h0) hr
    refine ⟨fun hb q m w v hq=>?_,fun hb q m w v hq=>?_⟩
    ·have hq':E.Rel m w (cond (Nat.beq k q) x (get (n1++sl) q)) v:=hq
     show E.Rel m w (cond (Nat.beq k q) z (get r2 q)) v
     cases hc:Nat.beq k q with
     | true=>rw [hc] at hq';subst hb;exact b9u hz hq'
     | false=>rw [hc] at hq';exact i1 hb q m w v hq'
    have hq':E.Rel m w (cond (Nat.beq k q) y (get (n0++sl) q)) v:=hq
    show E.Rel m w (cond (Nat.beq k q) z (get r2 q)) v
    cases hc:Nat.beq k q with
    | true=>rw [hc] at hq';subst hb;exact b6C hz hq'
    | false=>rw [hc] at hq';exact i0 hb q m w v hq'
theorem b6D{b:Bool}:∀{n:Nat} {s1 s0 sl r:List (Nat × AV)},mgS b n s1 s0 sl=some r->∃nw,nw.length=n/\r=nw++sl
 | 0,_,_,sl,r,h=>by
  have h':some sl=some r:=by simpa [mgS] using h
  cases h'
  exact ⟨[],rfl,rfl⟩
 | n+1,(k,x)::s1,(j,y)::s0,sl,r,h=>by
  have h':cond (Nat.beq k j) (match mgS b n s1 s0 sl with
    | some r=>match mgA b x y with
     | some z=>some ((k,z)::r)
     | none=>none
    | none=>none) none=some r:=h
  cases hk:Nat.beq k j with
  | false=>rw [hk] at h';cases h'
  | true =>
   rw [hk] at h'
   simp only [cond_true] at h'
   cases hr:mgS b n s1 s0 sl with
   | none=>rw [hr] at h';cases h'
   | some r2 =>
    obtain ⟨z,hz⟩:=b3q b x y
    rw [hr] at h'
    simp only [hz] at h'
    cases h'
    obtain ⟨nw,h1,h2⟩:=b6D hr
    exact ⟨(k,z)::nw,by simp [h1],by rw [h2];rfl⟩
 | _+1,[],_,_,_,h=>by simp [mgS] at h
 | _+1,_::_,[],_,_,h=>by simp [mgS] at h
theorem b1W{E:Env}{orc:FuncId->List AV->Option AV}{dr:Bool}{sl s1:List (Nat × AV)}{hp:Hp}{o:Oper}(h:pvE E orc dr sl hp o=some s1):∃r,(stP E (c4O E dr o sl) hp o.op=some r\/clE E orc (c4O E dr o sl) o.op=some r)/\s1=put o.dst r sl:=by
 unfold pvE at h
 split at h
 ·rename_i r hr
  split at h
  ·rename_i r2 hn
   have e:=c4k hn
   subst e
   split at h
   ·rename_i d hd
    cases h;exact ⟨_,.inl hr,by rw [hd];rfl⟩
   ·rename_i hd
    cases h;exact ⟨_,.inl hr,by rw [hd];rfl⟩
  ·cases h
 split at h
 ·rename_i r hr
  split at h
  ·rename_i r2 hn
   have e:=c4k hn
   subst e
   split at h
   ·rename_i d hd
    cases h;exact ⟨_,.inr hr,by rw [hd];rfl⟩
   ·cases h
  ·cases h
 ·cases h
theorem a7v{E:Env}{orc:FuncId->List AV->Option AV}(ho:∀k a r,orc k a=some r->Pur E k a r){o:Oper}{ρ:Operand->AV}(hG:∀g,ρ (.global g)=E.G g){hp:Hp}{r:AV}{K:AV->Hp->Prop}(h:clE E orc ρ o.op=some r)(hK:K r hp):a0z E o ρ hp K:=by
 obtain ⟨d,op,ty,pos,after,g⟩:=o
 unfold clE at h
 split at h
 ·rename_i f args tys heq
  have heq':op=.call ⟨.value f,args,tys⟩:=heq
  subst heq'
  split at h
  ·rename_i k cap hf
   obtain ⟨l⟩:=args
   obtain ⟨h1,h2⟩:=ho _ _ _ h
   refine a1c (args:=l) hG hf ((a0f h2 h1 hp).mono ?_)
   rintro _ _ ⟨rfl,rfl⟩
   exact hK
  ·cases h
 ·rename_i t x i heq
  have heq':op=.indexAddr t x i:=heq
  subst heq'
  split at h
  ·rename_i k es kk j hx hi
   split at h
   ·rename_i e htk
    split at h
    ·rename_i b hb
     cases hc:(Nat.blt t E.n&&Nat.blt e E.n&&Nat.beq (E.ti e).sz k&&Nat.blt 0 k&&known b) with
     | false=>rw [hc] at h;cases h
     | true =>
      rw [hc] at h
      cases h
      simp only [Bool.and_eq_true] at hc
      obtain ⟨⟨⟨⟨c1,c2⟩,c3⟩,c4⟩,c5⟩:=hc
      exact a8e c1 htk c2 hx hi c3 c4 hb rfl c5 hK
    ·cases h
   ·cases h
  ·cases h
 ·cases h
theorem c0X{E:Env}{dr:Bool}{o:Oper}{sl:List (Nat × AV)}(g:Nat):c4O E dr o sl (.global g)=E.G g:=by
 cases dr<;>rfl
theorem b3Q(sl:List (Nat × AV))(o:Oper):skE sl o=put o.dst (.tup []) sl:=by
 unfold skE
 split
 ·rename_i d hd;rw [hd];rfl
 ·rename_i hd;rw [hd];rfl
theorem b7f(d:Option Nat)(v:AV)(sl:List (Nat × AV)):∃nw,put d v sl=nw++sl:=by
 cases d with
 | none=>exact ⟨[],rfl⟩
 | some d=>exact ⟨[(d,v)],rfl⟩
theorem a7l{E:Env}{orc:FuncId->List AV->Option AV}{dr:Bool}{ops:Array Oper}{hp:Hp}:∀{n:Nat} {kn lt:List Nat} {l:List Oper} {sl r:List (Nat × AV)},a5Z E orc dr ops hp n kn lt l sl=some r->∃nw,r=nw++sl:=by
 intro n
 induction n with
 | zero=>intro kn lt l sl r h;simp [a5Z] at h
 | succ n ih =>
  intro kn lt l sl r h
  cases l with
  | nil =>
   have h':some sl=some r:=by simpa [a5Z] using h
   cases h'
   exact ⟨[],rfl⟩
  | cons o rest =>
   unfold a5Z at h
   have step:∀{s1 k1},pvE E orc dr sl hp o=some s1->a5Z E orc dr ops hp n kn k1 rest s1=some r->∃nw,r=nw++sl:=fun hp1 h1=>by
    obtain ⟨v,_,rfl⟩:=b1W hp1
    obtain ⟨n1,rfl⟩:=ih h1
    obtain ⟨n2,e⟩:=b7f o.dst v sl
    exact ⟨n1++n2,by rw [e,List.append_assoc]⟩
   split at h
   ·split at h
    ·rename_i s1 h1
     split at h
     ·exact step h1 h
     ·cases h
    ·cases h
   rename_i j want hg
   cases hk:kn.any fun i=>Nat.beq i j with
   | true =>
    rw [hk] at h
    simp only [cond_true] at h
    split at h
    ·split at h
     ·rename_i s1 h1
      split at h
      ·exact step h1 h
      ·cases h
     ·cases h
    ·obtain ⟨n1,rfl⟩:=ih h
     obtain ⟨n2,e⟩:=b7f o.dst (.tup []) sl
     exact ⟨n1++n2,by rw [b3Q,e,List.append_assoc]⟩
    ·cases h
   | false =>
    rw [hk] at h
    simp only [cond_false] at h
    split at h
    ·rename_i d _
     split at h
     ·rename_i b hb
      cases hlt:lt.any fun i=>Nat.beq i d with
      | true =>
       rw [hlt] at h
       cases b with
       | true=>obtain ⟨n1,rfl⟩:=ih h;exact ⟨n1++[_],by rw [List.append_assoc];rfl⟩
       | false=>obtain ⟨n1,rfl⟩:=ih h;exact ⟨n1++[_],by rw [List.append_assoc];rfl⟩
      | false =>
       rw [hlt] at h
       simp only [cond_false] at h
       split at h
       ·rename_i s1 s0 _ _
        cases hl:Nat.beq s1.length s0.length with
        | true =>
         rw [hl] at h
         obtain ⟨nw,_,e⟩:=b6D h
         exact ⟨nw,e⟩
        | false=>rw [hl] at h;cases h
       ·cases h
     ·obtain ⟨n1,rfl⟩:=ih h
      exact ⟨n1++[_],by rw [List.append_assoc];rfl⟩
     ·cases h
    ·cases h
theorem a3M{sl:List (Nat × AV)}{d:Nat}{v:AV}(h:get sl d=v)(k:Nat):get sl k=get ((d,v)::sl) k:=by
 show get sl k=cond (Nat.beq d k) v (get sl k)
 cases hk:Nat.beq d k with
 | true=>rw [<- Nat.eq_of_beq_eq_true hk,h];rfl
 | false=>rfl
theorem a8F{E:Env}{orc:FuncId->List AV->Option AV}(ho:∀k a r,orc k a=some r->Pur E k a r){ops:Array Oper}{hp:Hp}{K:St->Prop}(hK:∀sl sl',Fin E sl sl'->K ⟨sl',hp⟩->K ⟨sl,hp⟩):∀{n:Nat} {kn lt:List Nat} {l:List Oper} {sl r:List (Nat × AV)},a5Z E orc false ops hp n kn lt l sl=some r->K ⟨r,hp⟩->a1p E ops l K ⟨sl,hp⟩:=by
 intro n
 induction n with
 | zero=>intro kn lt l sl r h;simp [a5Z] at h
 | succ n ih =>
  intro kn lt l sl r h hk0
  cases l with
  | nil =>
   have h':some sl=some r:=by simpa [a5Z] using h
   cases h'
   exact a4y hk0
  | cons o rest =>
   unfold a5Z at h
   have step:∀{s1 k1},a0H ops o sl=some true->pvE E orc false sl hp o=some s1->a5Z E orc false ops hp n kn k1 rest s1=some r->a1p E ops (o::rest) K ⟨sl,hp⟩:=fun hw hp1 h1=>by
    obtain ⟨v,hv,rfl⟩:=b1W hp1
    exact a1U hw (hv.elim (fun hv=>a3g hv (ih h1 hk0)) fun hv=>a7v ho c0X hv (ih h1 hk0))
   split at h
   ·rename_i hg
    split at h
    ·rename_i s1 h1
     split at h
     ·exact step (by unfold a0H;rw [hg]) h1 h
     ·cases h
    ·cases h
   rename_i j want hg
   cases hk:kn.any fun i=>Nat.beq i j with
   | true =>
    rw [hk] at h
    simp only [cond_true] at h
    split at h
    ·rename_i hw
     split at h
     ·rename_i s1 h1
      split at h
      ·exact step hw h1 h
      ·cases h
     ·cases h
    ·rename_i hw
     rw [b3Q] at h
     exact a5n hw (ih h hk0)
    ·cases h
   | false =>
    rw [hk] at h
    simp only [cond_false] at h
    split at h
    ·rename_i d hd
     split at h
     ·rename_i b hb
      cases hlt:lt.any fun i=>Nat.beq i d with
      | true =>
       rw [hlt] at h
       cases b with
       | true=>exact a3G (sl':=(d,.bool true)::sl) (a3M hb) (ih h hk0)
       | false=>exact a3G (sl':=(d,.bool false)::sl) (a3M hb) (ih h hk0)
      | false =>
       rw [hlt] at h
       simp only [cond_false] at h
       split at h
       ·rename_i s1 s0 h1 h0
        have hll:s1.length=s0.length:=by
         cases hl:Nat.beq s1.length s0.length with
         | true=>exact Nat.eq_of_beq_eq_true hl
         | false=>rw [hl] at h;cases h
        rw [hll,Nat.beq_refl] at h
        simp only [cond_true] at h
        rw [<- hll] at h
        obtain ⟨n1,e1⟩:=a7l h1
        obtain ⟨n0,e0⟩:=a7l h0
        have e1':s1=(n1++[(d,.bool true)])++sl:=by rw [e1];simp
        have e0':s0=(n0++[(d,.bool false)])++sl:=by rw [e0];simp
        have hlen:s1.length - sl.length=(n1++[(d,AV.bool true)]).length:=by rw [e1'];simp;omega
        have h3:=h
        rw [hlen,e1',e0'] at h3
        have hl0:(n0++[(d,AV.bool false)]).length=(n1++[(d,AV.bool true)]).length:=by
         have h5:=congrArg List.length e1'
         have h6:=congrArg List.length e0'
         simp only [List.length_append] at h5 h6 ⊢
         omega
        obtain ⟨f1,f0⟩:=b1G (E:=E) rfl hl0 h3
        cases b with
        | true=>exact a3G (sl':=(d,.bool true)::sl) (a3M hb) (ih h1 (hK _ _ (by rw [e1'];exact f1 rfl) hk0))
        | false=>exact a3G (sl':=(d,.bool false)::sl) (a3M hb) (ih h0 (hK _ _ (by rw [e0'];exact f0 rfl) hk0))
       ·cases h
     ·rename_i hb
      exact a3G (a3M hb) (ih h hk0)
     ·cases h
    ·cases h
theorem c1o{E:Env}{ops:Array Oper}{hp:Hp}{K:St->Prop}{i:Nat}{o:Oper}{is:List Nat}{sl:List (Nat × AV)}{v:AV}(ho:ops[i]?=some o)(hw:a0H ops o sl=some true)(hs:a0z E o (evF E (a4w o) (get sl)) hp (fun r H'=>r=v/\H'=hp))(h:awM E ops [] [] K is ⟨put o.dst v sl,hp⟩):awM E ops [] [] K (i::is) ⟨sl,hp⟩:=by
 simp only [awM,ho,hw]
 exact ⟨v,hs,h⟩
theorem c3D{E:Env}{ops:Array Oper}{hp:Hp}{K:St->Prop}{i:Nat}{o:Oper}{is:List Nat}{sl:List (Nat × AV)}(ho:ops[i]?=some o)(hw:a0H ops o sl=some false)(h:awM E ops [] [] K is ⟨put o.dst (.tup []) sl,hp⟩):awM E ops [] [] K (i::is) ⟨sl,hp⟩:=by
 simp only [awM,ho,hw]
 exact h
theorem a8E{E:Env}{orc:FuncId->List AV->Option AV}(ho:∀k a r,orc k a=some r->Pur E k a r){ops:Array Oper}{hp:Hp}{K:St->Prop}(hK:∀sl sl',Fin E sl sl'->K ⟨sl',hp⟩->K ⟨sl,hp⟩):∀{n:Nat} {kn lt:List Nat} {l:List Oper} {sl r:List (Nat × AV)} {is:List Nat},is.map (fun i=>ops[i]?)=l.map some->a5Z E orc true ops hp n kn lt l sl=some r->K ⟨r,hp⟩->awM E ops [] [] K is ⟨sl,hp⟩:=by
 intro n
 induction n with
 | zero=>intro kn lt l sl r is his h;simp [a5Z] at h
 | succ n ih =>
  intro kn lt l sl r is his h hk0
  cases l with
  | nil =>
   have h':some sl=some r:=by simpa [a5Z] using h
   cases h'
   cases is with
   | nil=>exact ⟨sl,rfl,hk0⟩
   | cons i is=>simp at his
  | cons o rest =>
   cases is with
   | nil=>simp at his
   | cons i is =>
   have his':=his
   rw [List.map_cons,List.map_cons] at his'
   obtain ⟨hio,hir⟩:=List.cons.inj his'
   unfold a5Z at h
   have step:∀{s1 k1},a0H ops o sl=some true->pvE E orc true sl hp o=some s1->a5Z E orc true ops hp n kn k1 rest s1=some r->awM E ops [] [] K (i::is) ⟨sl,hp⟩:=fun hw hp1 h1=>by
    obtain ⟨v,hv,rfl⟩:=b1W hp1
    exact c1o hio hw (hv.elim (fun hv=>a3g hv ⟨rfl,rfl⟩) fun hv=>a7v ho c0X hv ⟨rfl,rfl⟩) (ih hir h1 hk0)
   split at h
   ·rename_i hg
    split at h
    ·rename_i s1 h1
     split at h
     ·exact step (by unfold a0H;rw [hg]) h1 h
     ·cases h
    ·cases h
   rename_i j want hg
   cases hk:kn.any fun i=>Nat.beq i j with
   | true =>
    rw [hk] at h
    simp only [cond_true] at h
    split at h
    ·rename_i hw
     split at h
     ·rename_i s1 h1
      split at h
      ·exact step hw h1 h
      ·cases h
     ·cases h
    ·rename_i hw
     rw [b3Q] at h
     exact c3D hio hw (ih hir h hk0)
    ·cases h
   | false =>
    rw [hk] at h
    simp only [cond_false] at h
    split at h
    ·rename_i d hd
     split at h
     ·rename_i b hb
      have pre:∀{v:AV},get sl d=v->get sl=get ((d,v)::sl):=fun h=>funext (a3M h)
      cases hlt:lt.any fun i=>Nat.beq i d with
      | true =>
       rw [hlt] at h
       cases b with
       | true=>exact a2S (pre hb) (ih his h hk0)
       | false=>exact a2S (pre hb) (ih his h hk0)
      | false =>
       rw [hlt] at h
       simp only [cond_false] at h
       split at h
       ·rename_i s1 s0 h1 h0
        have hll:s1.length=s0.length:=by
         cases hl:Nat.beq s1.length s0.length with
         | true=>exact Nat.eq_of_beq_eq_true hl
         | false=>rw [hl] at h;cases h
        rw [hll,Nat.beq_refl] at h
        simp only [cond_true] at h
        rw [<- hll] at h
        obtain ⟨n1,e1⟩:=a7l h1
        obtain ⟨n0,e0⟩:=a7l h0
        have e1':s1=(n1++[(d,.bool true)])++sl:=by rw [e1];simp
        have e0':s0=(n0++[(d,.bool false)])++sl:=by rw [e0];simp
        have hlen:s1.length - sl.length=(n1++[(d,AV.bool true)]).length:=by rw [e1'];simp;omega
        have h3:=h
        rw [hlen,e1',e0'] at h3
        have hl0:(n0++[(d,AV.bool false)]).length=(n1++[(d,AV.bool true)]).length:=by
         have h5:=congrArg List.length e1'
         have h6:=congrArg List.length e0'
         simp only [List.length_append] at h5 h6 ⊢
         omega
        obtain ⟨f1,f0⟩:=b1G (E:=E) rfl hl0 h3
        cases b with
        | true=>exact a2S (pre hb) (ih his h1 (hK _ _ (by rw [e1'];exact f1 rfl) hk0))
        | false=>exact a2S (pre hb) (ih his h0 (hK _ _ (by rw [e0'];exact f0 rfl) hk0))
       ·cases h
     ·rename_i hb
      exact a2S (funext (a3M hb)) (ih his h hk0)
     ·cases h
    ·cases h
theorem a9u(a:Array Oper):∀(n i:Nat),i+n=a.size->(a8A n i).map (fun i=>a[i]?)=(a.toList.drop i).map some
 | 0,i,h=>by
  rw [List.drop_of_length_le (by rw [Array.length_toList];omega)];rfl
 | n+1,i,h=>by
  have hi:i<a.toList.length:=by rw [Array.length_toList];omega
  rw [List.drop_eq_getElem_cons hi]
  show a[i]?::(a8A n (i+1)).map _=some a.toList[i]::((a.toList.drop (i+1)).map some)
  rw [a9u a n (i+1) (by omega),Array.getElem?_eq_getElem (by simpa using hi)]
  simp
theorem b1D{E:Env}{N n0:Nat}{sl sl':List (Nat × AV)}{hp:Hp}(h:Fin E sl sl'):Imp E N n0 ⟨sl,hp⟩ ⟨sl',hp⟩:=fun m0 w0 _ m w a he hs =>
 ⟨m,he,⟨hs.ok,fun k=>h k m w _ (hs.slots k),hs.size,hs.defers,hs.sim,hs.glob⟩⟩
theorem Za{E:Env}{orc:FuncId->List AV->Option AV}(ho:∀k a r,orc k a=some r->Pur E k a r){N n0:Nat}{id:Nat}{l:Array Oper}{c2:Code}{Q Q2:Exit->St->Prop}{sl sl1:List (Nat × AV)}{hp:Hp}(hd:a2l N l.toList=true)(h:a5Z E orc false l hp 400 [] [] l.toList sl=some sl1)(k:AWp E N n0 c2 Q2 ⟨sl1,hp⟩) :
  AWp E N n0 (.region id l false) (a5W (AWp E N n0 c2 Q2) Q) ⟨sl,hp⟩ :=
 a2T (s1:=⟨sl1,hp⟩) (a0m (l:=l.toList) hd (a8F ho (K:=fun s=>Exit.normal=.normal/\Imp E N n0 s ⟨sl1,hp⟩) (fun _ _ hf hk=>⟨rfl,(b1D hf).trans hk.2⟩) h ⟨rfl,fun _ _ _ m w a he hs=>⟨m,he,hs⟩⟩)) k
theorem Zg{E:Env}{orc:FuncId->List AV->Option AV}(ho:∀k a r,orc k a=some r->Pur E k a r){N n0:Nat}{id:Nat}{l:Array Oper}{c2:Code}{Q Q2:Exit->St->Prop}{sl sl1:List (Nat × AV)}{hp:Hp}(hd:a2l N l.toList=true)(h:a5Z E orc true l hp 400 [] [] l.toList sl=some sl1)
  (hord:(a5G l [] [] (a8A l.toList.length 0) (Array.replicate l.toList.length false)&&b1s l (Array.replicate l.toList.length false)&&(Region.ready .any l (a5E (a8A l.toList.length 0) (Array.replicate l.toList.length false))).isEmpty)=true) (k:AWp E N n0 c2 Q2 ⟨sl1,hp⟩) :
  AWp E N n0 (.region id l true) (a5W (AWp E N n0 c2 Q2) Q) ⟨sl,hp⟩ :=
 a2T (s1:=⟨sl1,hp⟩) (a0p (l:=l.toList) [] [] hd hord (a8E ho (K:=fun s=>Exit.normal=.normal/\Imp E N n0 s ⟨sl1,hp⟩) (fun _ _ hf hk=>⟨rfl,(b1D hf).trans hk.2⟩) (by
  rw [Array.length_toList]
  exact (a9u l l.size 0 (by omega)).trans (by simp)) h ⟨rfl,fun _ _ _ m w a he hs=>⟨m,he,hs⟩⟩)) k
def b3v:FuncId->List AV->Option AV:=fun _ _=>none
theorem a3r{E:Env}:∀k a r,b3v k a=some r->Pur E k a r:=fun _ _ _ h=>by cases h
theorem Zb{E:Env}{N n0:Nat}{id:Nat}{l:Array Oper}{c2:Code}{Q Q2:Exit->St->Prop}{sl sl1:List (Nat × AV)}{hp:Hp}(hd:a2l N l.toList=true)(h:a5Z E b3v false l hp 400 [] [] l.toList sl=some sl1)(k:AWp E N n0 c2 Q2 ⟨sl1,hp⟩) :
  AWp E N n0 (.region id l false) (a5W (AWp E N n0 c2 Q2) Q) ⟨sl,hp⟩:=Za a3r hd h k
/-! ### From one state to another, slot by slot -/
theorem hk0:HOk 0 []:=fun _ _ h=>by cases h
theorem c0N{k:Nat}{v:AV}:∀{l:List (Nat × AV)},a0e k (l.map (·.2))->∀p∈l,a0d k p.2
 | q::l,h,p,hp=>by
  rcases List.mem_cons.1 hp with rfl|hp
  ·exact h.1
  ·exact c0N (v:=v) h.2 p hp
theorem get_at{sl:List (Nat × AV)}:∀{l:List (Nat × AV)},l.map (fun p=>get sl p.1)=l.map (·.2)->∀p∈l,get sl p.1=p.2
 | q::l,h,p,hp=>by
  rw [List.map_cons,List.map_cons] at h
  rcases List.mem_cons.1 hp with rfl|hp
  ·exact (List.cons.inj h).1
  ·exact get_at (List.cons.inj h).2 p hp
theorem ik{E:Env}{N n0:Nat}{sl sl':List (Nat × AV)}{hp H0:Hp}(k:Nat)(hok:HOk k H0)(hh:hp.take k=H0)(hl:Nat.ble k hp.length=true)(hn:Nat.ble n0 k=true)(he:sl'.map (fun p=>get sl p.1)=sl'.map (·.2))(hi:a0e k (sl'.map (·.2))) :
  Imp E N n0 ⟨sl,hp⟩ ⟨sl',H0⟩ :=
 a0j k (Nat.le_of_ble_eq_true hn) hok hh (Nat.le_of_ble_eq_true hl) fun p hp=>⟨get_at he p hp,c0N (v:=.any) hi p hp⟩
theorem ik0{E:Env}{N:Nat}{sl sl':List (Nat × AV)}{hp:Hp}(he:sl'.map (fun p=>get sl p.1)=sl'.map (·.2))(hi:a0e 0 (sl'.map (·.2))):Imp E N 0 ⟨sl,hp⟩ ⟨sl',[]⟩ :=
 ik 0 hk0 rfl rfl rfl he hi
end Go.Abs
namespace Go.Abs
def b3B(ops:Array Oper)(ef:List Nat)(a da:Nat):List Nat->Array Bool->Bool
 | [],_=>true
 | j::r,l=>(Region.ready .any ops l == [j,a] || Region.ready .any ops l == [a,j])&&Region.ready .any ops (l.setIfInBounds a true) == [j]&&ef.contains j&&!(Nat.beq a j) &&
  (match ops[j]? with
   | some ⟨some d,op,ty,pos,after,none⟩=>!((a4w ⟨some d,op,ty,pos,after,none⟩).contains da)&&!(Nat.beq d da)
   | _=>false)&&b3B ops ef a da r (l.setIfInBounds j true)
section
variable{E:Env}{ops:Array Oper}{ef so:List Nat}{R:Sf->Hp->Prop}{fuel:Nat}
inductive Rc(E:Env)(ops:Array Oper)(K:St->Prop):List Nat->List (Nat × AV)->Hp->Prop
 | nil {sl:List (Nat × AV)} {H:Hp} (h:K ⟨sl,H⟩):Rc E ops K [] sl H
 | cons {j d:Nat} {op:Op} {ty:TypeId} {pos:String} {after:Array Edge} {js:List Nat} {sl:List (Nat × AV)} {H H1:Hp} {v:AV} (hi:ops[j]?=some ⟨some d,op,ty,pos,after,none⟩)
  (hs:∀Y,a0z E ⟨some d,op,ty,pos,after,none⟩ (evF E (a4w ⟨some d,op,ty,pos,after,none⟩) (get sl)) (H++Y) (fun r H'=>r=v/\H'=H1++Y)) (hl:H1.length=H.length) (h:Rc E ops K js ((d,v)::sl) H1):Rc E ops K (j::js) sl H
theorem b9b{o:Oper}{d:Nat}{v:AV}{σ:Sf}(h:(a4w o).contains d=false):evF E (a4w o) (upd (some d) v σ)=evF E (a4w o) σ:=by
 funext x
 cases x with
 | tmp t =>
  simp only [evF,upd]
  cases hc:(a4w o).contains t with
  | false=>rfl
  | true =>
   have:d≠t:=fun e=>by subst e;rw [h] at hc;cases hc
   simp [this]
 | _=>rfl
theorem set_comm{l:Array Bool}{a j:Nat}:(l.setIfInBounds a true).setIfInBounds j true=(l.setIfInBounds j true).setIfInBounds a true:=by
 refine Array.ext_getElem? fun k=>?_
 simp only [Array.getElem?_setIfInBounds,Array.size_setIfInBounds]
 grind
theorem c2A{a da:Nat}{n:Nat}{oa:AO}{ty:TypeId}{opa:Op}{pos:String}{after:Array Edge}(hia:ops[a]?=some ⟨some da,opa,ty,pos,after,none⟩)(hea:ef.contains a=true)
  (ha:∀(ρ:Operand->AV) (H:Hp),a0z E ⟨some da,opa,ty,pos,after,none⟩ ρ H (fun r H'=>r=.ptr H.length 0/\H'=H++[some oa])) {js:List Nat} {sl:List (Nat × AV)} {H:Hp} (l:Array Bool) (hok:b3B ops ef a da js l=true)
  (hn:H.length=n) (h:Rc E ops (fun s=>anyM E ops ef so R (fuel+1) (a5E js l) (get s.sl) s.hp/\anyM E ops ef so R fuel ((a5E js l).setIfInBounds a true) (get ((da,.ptr n 0)::s.sl)) (s.hp++[some oa])) js sl H) :
  anyM E ops ef so R (fuel+js.length+1) l (get sl) H/\anyM E ops ef so R (fuel+js.length) (l.setIfInBounds a true) (upd (some da) (.ptr n 0) (get sl)) (H++[some oa]):=by
 have hma:∀{K:Sf->Hp->Prop} {σ:Sf} {H:Hp},H.length=n->K (upd (some da) (.ptr n 0) σ) (H++[some oa])->mOp E ops ef so a K σ H:=fun {K σ H} hn hk=>by
  unfold mOp
  simp only [hia,a2a,hea,if_true]
  refine a1e (ha _ _) ?_
  rintro r H' ⟨rfl,rfl⟩
  rw [hn];exact hk
 induction js generalizing l sl H with
 | nil =>
  cases h with
  | nil h =>
  refine ⟨h.1,?_⟩
  rw [<- a2t (d:=some da)];exact h.2
 | cons j js ih =>
  cases h with
  | @cons _ d op ty' pos' after' _ _ _ H1 v hi hs hl h =>
  simp only [b3B,Bool.and_eq_true,hi,Bool.not_eq_true'] at hok
  obtain ⟨⟨⟨⟨⟨h1,h2⟩,h3⟩,h4⟩,h5,h6⟩,h7⟩:=hok
  have hda:d≠da:=fun e=>by rw [e] at h6;simp at h6
  obtain ⟨iA,iB⟩:=ih (l.setIfInBounds j true) h7 (hl.trans hn) h
  have hu:get ((d,v)::sl)=upd (some d) v (get sl):=a2t (d:=some d)
  rw [hu] at iA iB
  have hB:mOp E ops ef so j (anyM E ops ef so R (fuel+js.length) ((l.setIfInBounds a true).setIfInBounds j true)) (upd (some da) (.ptr n 0) (get sl)) (H++[some oa]):=by
   unfold mOp
   simp only [hi,a2a,h3,if_true]
   rw [b9b h5]
   refine a1e (hs [some oa]) ?_
   rintro r H' ⟨rfl,rfl⟩
   rw [set_comm,b3Z (fun k hk e=>hda (by cases hk;cases e;rfl))]
   exact iB
  have h8:anyM E ops ef so R (fuel+(j::js).length) (l.setIfInBounds a true) (upd (some da) (.ptr n 0) (get sl)) (H++[some oa]):=by
   refine ⟨fun h0=>?_,fun i hi=>?_⟩
   ·have:=eq_of_beq h2;rw [h0] at this;cases this
   rw [eq_of_beq h2] at hi
   cases List.mem_singleton.1 hi
   exact hB
  have hj:mOp E ops ef so j (anyM E ops ef so R (fuel+(j::js).length) (l.setIfInBounds j true)) (get sl) H:=by
   unfold mOp
   simp only [hi,a2a,h3,if_true]
   have h9:=hs []
   simp only [List.append_nil] at h9
   refine a1e h9 ?_
   rintro r H' ⟨rfl,rfl⟩
   exact iA
  refine ⟨⟨fun h0=>?_,fun i hi=>?_⟩,h8⟩
  ·rw [h0] at h1;cases h1
  have h9:i=j\/i=a:=by
   rcases Bool.or_eq_true _ _ ▸ h1 with e|e
   ·rw [eq_of_beq e] at hi;simpa using hi
   ·rw [eq_of_beq e] at hi;simpa [or_comm] using hi
  rcases h9 with rfl|rfl
  ·exact hj
  ·exact hma hn h8
theorem b2z(js:List Nat)(a:Nat){da n m:Nat}{e ty:TypeId}{z:List AV}{pos:String}{after:Array Edge}{sl:List (Nat × AV)}{H:Hp}{l:Array Bool}(hia:ops[a]?=some ⟨some da,.alloc e,ty,pos,after,none⟩)(he:Nat.blt e E.n=true)(hz:(E.ti e).z=some z)
  (hf:Nat.beq m (fuel+js.length+1)=true) (hok:(ef.contains a&&b3B ops ef a da js l)=true) (hn:H.length=n)
  (h:Rc E ops (fun s=>anyM E ops ef so R (fuel+1) (a5E js l) (get s.sl) s.hp/\anyM E ops ef so R fuel ((a5E js l).setIfInBounds a true) (get ((da,.ptr n 0)::s.sl)) (s.hp++[some (.cells z e)])) js sl H):anyM E ops ef so R m l (get sl) H:=by
 rw [Nat.eq_of_beq_eq_true hf]
 simp only [Bool.and_eq_true] at hok
 exact (c2A hia hok.1 (fun ρ H=>a1C he hz ⟨rfl,rfl⟩) l hok.2 hn h).1
end
end Go.Abs
namespace Go.Abs
section
variable{E:Env}{N n0:Nat}{sl sl':List (Nat × AV)}{hp H0:Hp}{c:Code}{Q:Exit->St->Prop}
theorem kk(k:Nat)(hok:HOk k H0)(h:(hp.take k,Nat.ble k hp.length&&Nat.ble n0 k,sl'.map fun p=>get sl p.1)=(H0,true,sl'.map (·.2)))(hi:a0e k (sl'.map (·.2))):Imp E N n0 ⟨sl,hp⟩ ⟨sl',H0⟩:=by
 obtain ⟨h1,h2,h3⟩:=by simpa only [Prod.mk.injEq,Bool.and_eq_true] using h
 exact ik k hok h1 h2.1 h2.2 h3 hi
def slB(f:AV->AV)(sl:List (Nat × AV)):List Nat->Option (List (Nat × AV))
 | []=>some []
 | i::r=>match nv (f (get sl i)),slB f sl r with
  | some v,some l=>some ((i,v)::l)
  | _,_=>none
theorem b7T{f:AV->AV}(hf:f .any=.any):∀{ks:List Nat} {sl':List (Nat × AV)},slB f sl ks=some sl'->sl'.map (fun p=>get (sl.map fun p=>(p.1,f p.2)) p.1)=sl'.map (·.2)
 | [],_,h=>by cases h;rfl
 | i::r,sl',h=>by
  simp only [slB] at h
  split at h
  ·rename_i v l hv hl
   cases h
   rw [List.map_cons,List.map_cons,b7T hf hl,get_map f hf,a6q hv]
  ·cases h
theorem Kc(ks:List Nat)(k:Nat)(hok:HOk k H0)(h:(hp.take k,Nat.ble k hp.length&&Nat.ble n0 k)=(H0,true))(hs:slB id sl ks=some sl')(hi:a0e k (sl'.map (·.2)))(g:AWp E N n0 c Q ⟨sl',H0⟩):AWp E N n0 c Q ⟨sl,hp⟩:=by
 obtain ⟨h1,h2⟩:=by simpa only [Prod.mk.injEq,Bool.and_eq_true] using h
 have:=b7T (f:=id) rfl hs
 refine a0t (ik k hok h1 h2.1 h2.2 (by simpa using this) hi) g
theorem Kz(i:Nat)(ks:List Nat)(k:Nat){cs:List AV}{e:TypeId}(hok:HOk k H0)(h:(hp[i]?,(hp.set i none).take k,Nat.ble k hp.length&&Nat.ble n0 k)=(some (some (.cells cs e)),H0,true))(hs:slB (c1F i cs) sl ks=some sl')(hi:a0e k (sl'.map (·.2)))(g:AWp E N n0 c Q ⟨sl',H0⟩):AWp E N n0 c Q ⟨sl,hp⟩:=by
 obtain ⟨h1,h2,h3⟩:=by simpa only [Prod.mk.injEq,Bool.and_eq_true] using h
 exact a0t ((a0w h1).trans (ik k hok h2 (by rw [List.length_set];exact h3.1) h3.2 (b7T (f:=c1F i cs) rfl hs) hi)) g
end
end Go.Abs
namespace Go.Abs
def b0Y(n:Nat):AV:=.int .u32 n
def a3U:List Nat:=[0x00000000,0x105EC76F,0x20BD8EDE,0x30E349B1,0x417B1DBC,0x5125DAD3,0x61C69362,0x7198540D,0x82F63B78,0x92A8FC17,0xA24BB5A6,0xB21572C9,0xC38D26C4,0xD3D3E1AB,0xE330A81A,0xF36E6F75]
noncomputable def E0(X:Nat->Prop):Env:={ P:=Proofs.Tryz.prog,ti:=tiT,n:=334,G:=fun g=>if g=0 then .fp (a3U.map b0Y) else .any,X:=X }
theorem b8A(X:Nat->Prop):(E0 X).Ok:=⟨mixed,c6a,fun _=>by { simp only [E0];split<;>first|exact a0h (fun _=>trivial)|simp [a0d] }⟩
mutual
theorem b6i{a b:Nat}(h:a<=b):∀x:AV,a0d a x->a0d b x
 | .any,_|.int _ _,_|.bool _,_|.str _,_|.nilp,_|.nils,_|.nilm,_|.nilf,_|.nili,_=>by simp [a0d]
 | .fp cs,hx=>by simp only [a0d] at hx ⊢;exact a0F h hx
 | .ptr _ _,hx|.pe _ _ _,hx|.own _ _ _,hx|.mp _,hx=>by simp only [a0d] at hx ⊢;omega
 | .sl _ cs,hx=>by simp only [a0d] at hx ⊢;exact a0F h hx
 | .agg cs,hx=>by simp only [a0d] at hx ⊢;exact a0F h hx
 | .tup cs,hx=>by simp only [a0d] at hx ⊢;exact a0F h hx
 | .clo _ f c,hx=>by simp only [a0d] at hx ⊢;exact ⟨a0F h hx.1,a0F h hx.2⟩
 | .ifc _ x,hx=>by simp only [a0d] at hx ⊢;exact b6i h x hx
 | .gp _ _,_=>by simp [a0d]
theorem a0F{a b:Nat}(h:a<=b):∀{xs:List AV},a0e a xs->a0e b xs
 | [],_=>trivial
 | x::xs,hx=>by simp only [a0e] at hx ⊢;exact ⟨b6i h x hx.1,a0F h hx.2⟩
end
attribute [local irreducible] a0z a1p AWp Nx awM
theorem b5C(X:Nat->Prop)(ys:List UInt8)(lo n:Nat)(hn:lo+n<=ys.length)(hb:ys.length<=1073741824) :
  a0b (E0 X) 45 [.own 0 lo n] [some (.arr (ys.map u8A) 5)] (fun r H'=>r=.own 1 0 n/\H'=[some (.arr (ys.map u8A) 5),some (.arr (((ys.drop lo).take n).map u8A) 5)]):=by
 refine Z0 Proofs.Tryz.func45 rfl Proofs.Tryz.ntmps45 (by kernel_rfl) rfl ?_
 repeat' (first|refine Zs rfl ?_|refine Zc rfl ?_|refine Qa rfl ?_)
 refine b0U rfl rfl rfl rfl (by simpa using hn) (fun h0=>?_) ?_
 ·refine nx rfl rfl ?_
  repeat' (first|refine Zs rfl ?_|refine Zc rfl ?_|refine Zh ?_|refine Qh ?_|refine Qs ?_)
  refine a0t (imp_nil 2 5 rfl) ?_
  refine a0c ?_
  subst h0
  exact ⟨_,rfl,rfl,by simp⟩
 refine nx rfl rfl ?_
 repeat' (first|refine Qa rfl ?_|refine Qh ?_|refine Ql ?_|refine Qm ?_|refine Qo rfl ?_|refine Qq rfl ?_)
 refine a1o rfl rfl rfl rfl rfl rfl rfl (.inr rfl) rfl (.inr rfl) ?_
 refine nx rfl rfl ?_
 repeat' (first|refine Zs rfl ?_|refine Qa rfl ?_)
 have hsrc:a6O (E0 X) [some (.arr (ys.map u8A) 5),some (.arr [] 5)] 1 (.own 0 lo n)=some (((ys.drop lo).take n).map u8A):=by
  have h1:a6O (E0 X) [some (.arr (ys.map u8A) 5),some (.arr [] 5)] 1 (.own 0 lo n)=if lo+n<=(ys.map u8A).length then some (((ys.map u8A).drop lo).take n) else none:=by
   show (if (1:Nat)=1/\true=true/\lo+n<=(ys.map u8A).length then _ else _)=_
   simp
  rw [h1,if_pos (by simpa using hn)]
  simp [List.map_take,List.map_drop]
 have hnl:(((ys.drop lo).take n).map u8A).length=n:=by simp;omega
 refine a2E (oid:=some 1) (es:=[]) (new:=((ys.drop lo).take n).map u8A) rfl rfl rfl rfl rfl rfl rfl rfl (a0M (es:=[]) rfl rfl) hsrc (a0P _) ?_ ?_ ?_
 ·rw [hnl];simp [maxLen];omega
 ·rw [hnl]
  show _*1<=_
  simp;omega
 refine nx rfl rfl ?_
 repeat' (first|refine Zs rfl ?_|refine Zh ?_|refine Qs ?_)
 refine a0t (b3f 1 [2] [(2,.own 1 0 n)] [.arr (((ys.drop lo).take n).map u8A) 5] (Nat.le_refl _) (by simp [a2V]) (by simp) (by simp) ?_ ?_ rfl ?_) ?_
 ·intro j o ho
  match j,ho with
  | 0,ho=>cases ho;exact a0F (Nat.zero_le _) (a1H ys)
 ·refine a0a ?_ a0l
  show Ren _ (.own 2 0 _) (.own 1 0 n)
  have:([]:List AV).length+(((ys.drop lo).take n).map u8A).length=n:=by rw [hnl];simp
  rw [this]
  exact a0L rfl
 ·exact a0E rfl (a4r (by simp) (a1H _)) a0T
 ·exact a0c ⟨_,rfl,rfl,by simp [a2V]⟩
structure Dv where
 image:List UInt8
 old:List (Int × List UInt8)
 writes:Int
 fuse:Int
 dead:Bool
def b3s(p:Int × List UInt8):AV × AV:=(.int .i64 p.1,.agg (p.2.map u8A))
def a0K(v:Dv):Hp:=[some (.cells [.own 1 0 v.image.length,.mp 2,.int .i64 v.writes,.int .i64 v.fuse,.bool v.dead] 112),some (.arr (v.image.map u8A) 5),some (.map (v.old.map b3s))]
def Dv.burn(v:Dv):Dv:={ v with dead:=if v.fuse=0 then true else v.dead,fuse:=if 0<v.fuse then v.fuse - 1 else v.fuse }
theorem c0E(X:Nat->Prop)(v:Dv):a0b (E0 X) 55 [.ptr 0 0] (a0K v) (fun r H'=>r=.bool v.dead/\H'=a0K v):=by
 refine Z0 Proofs.Tryz.func55 rfl Proofs.Tryz.ntmps55 (by kernel_rfl) rfl ?_
 refine a0u ?_
 refine a0m rfl ?_
 repeat' (first|(refine Qa rfl ?_;try ((refine Q1 ?_);refine QX rfl rfl ?_))|refine Qh ?_)
 refine a0u ?_
 refine a0m rfl ?_
 repeat' (first|(refine Qa rfl ?_;try ((first|refine Q0 ?_|refine Q1 ?_|refine Q3 rfl rfl rfl ?_|refine Q4 rfl rfl rfl rfl rfl ?_|refine Q5 rfl ?_|refine Q6 rfl ?_|refine QH rfl rfl rfl ?_);refine QX rfl rfl ?_))|refine Qh ?_)
 exact a0c ⟨_,rfl,rfl,rfl⟩
theorem a8b(X:Nat->Prop)(v:Dv):a0b (E0 X) 60 [.ptr 0 0] (a0K v) (fun r H'=>r=.int .i64 (IntKind.i64.wrap ((v.image.length:Int).tdiv 64))/\H'=a0K v):=by
 refine Z0 Proofs.Tryz.func60 rfl Proofs.Tryz.ntmps60 (by kernel_rfl) rfl ?_
 refine a0u ?_
 refine a0m rfl ?_
 repeat' (first|(refine Qa rfl ?_;try ((refine Q1 ?_);refine QX rfl rfl ?_))|refine Qh ?_)
 refine a0u ?_
 refine a0u ?_
 refine a0m rfl ?_
 repeat' (first|(refine Qa rfl ?_;try ((first|refine Q0 ?_|refine QH rfl rfl rfl ?_);refine QX rfl rfl ?_))|refine Qh ?_)
 refine a1v rfl ?_
 refine a1t ?_
 refine a0u ?_
 refine a0m rfl ?_
 repeat' (first|(refine Qa rfl ?_;try ((first|refine Q0 ?_|refine Q1 ?_|refine Q3 rfl rfl rfl ?_|refine Q4 rfl rfl rfl rfl rfl ?_|refine Q6 rfl ?_|refine Q7 rfl rfl rfl ?_|refine QA rfl rfl (by decide) ?_);refine QX rfl rfl ?_))|refine Qh ?_)
 exact a0c ⟨_,rfl,rfl,rfl⟩
theorem c0C(X:Nat->Prop)(v:Dv)(hf:v.fuse<=9223372036854775807):a0b (E0 X) 140 [.ptr 0 0] (a0K v) (fun r H'=>r=.bool v.burn.dead/\H'=a0K v.burn):=by
 refine Z0 Proofs.Tryz.func140 rfl Proofs.Tryz.ntmps140 (by kernel_rfl) rfl ?_
 refine a0u ?_
 refine a0m rfl ?_
 repeat' (first|(refine Qa rfl ?_;try ((refine Q1 ?_);refine QX rfl rfl ?_))|refine Qh ?_)
 refine a0u ?_
 refine a0u ?_
 refine a0m rfl ?_
 repeat' (first|(refine Qa rfl ?_;try ((first|refine Q0 ?_|refine Q2 rfl ?_|refine Q3 rfl rfl rfl ?_|refine Q4 rfl rfl rfl rfl rfl ?_|refine Q6 rfl ?_);refine QX rfl rfl ?_))|refine Qh ?_)
 refine a0g rfl (fun h0=>?_) (fun h0=>?_)
 ·have h00:v.fuse=0:=h0
  refine a0m rfl ?_
  repeat' (first|(refine Qa rfl ?_;try ((first|refine Q0 ?_|refine Q4 rfl rfl rfl rfl rfl ?_|refine Q6 rfl ?_);refine QX rfl rfl ?_))|(refine Qb rfl ?_;try (refine QS rfl rfl rfl rfl rfl rfl rfl ?_;refine QX rfl rfl ?_))|refine Qh ?_)
  refine a0u ?_
  refine a0u ?_
  refine a0m rfl ?_
  repeat' (first|(refine Qa rfl ?_;try ((first|refine Q0 ?_|refine Q2 rfl ?_|refine Q3 rfl rfl rfl ?_|refine Q4 rfl rfl rfl rfl rfl ?_|refine Q6 rfl ?_);refine QX rfl rfl ?_))|refine Qh ?_)
  refine a0g rfl (fun h1=>?_) (fun h1=>?_)
  ·exfalso
   have h11:0<v.fuse:=h1
   omega
  refine a1t ?_
  refine a0u ?_
  refine a0m rfl ?_
  repeat' (first|(refine Qa rfl ?_;try ((first|refine Q0 ?_|refine Q1 ?_|refine Q3 rfl rfl rfl ?_|refine Q4 rfl rfl rfl rfl rfl ?_|refine Q6 rfl ?_);refine QX rfl rfl ?_))|refine Qh ?_)
  refine a0c ⟨_,rfl,?_,?_⟩
  ·simp [Dv.burn,h00]<;>rfl
  ·simp [Dv.burn,a0K,h00]<;>rfl
 have h00:v.fuse≠0:=h0
 refine a1t ?_
 refine a0u ?_
 refine a0u ?_
 refine a0m rfl ?_
 repeat' (first|(refine Qa rfl ?_;try ((first|refine Q0 ?_|refine Q2 rfl ?_|refine Q3 rfl rfl rfl ?_|refine Q4 rfl rfl rfl rfl rfl ?_|refine Q6 rfl ?_);refine QX rfl rfl ?_))|refine Qh ?_)
 refine a0g rfl (fun h1=>?_) (fun h1=>?_)
 ·have h11:0<v.fuse:=h1
  refine a0m rfl ?_
  repeat' (first|(refine Qa rfl ?_;try ((first|refine Q0 ?_|refine Q2 rfl ?_|refine Q3 rfl rfl rfl ?_|refine Q4 rfl rfl rfl rfl rfl ?_|refine Q6 rfl ?_);refine QX rfl rfl ?_))|(refine Qb rfl ?_;try (refine QS rfl rfl rfl rfl rfl rfl rfl ?_;refine QX rfl rfl ?_))|refine Qh ?_)
  refine a0u ?_
  refine a0m rfl ?_
  repeat' (first|(refine Qa rfl ?_;try ((first|refine Q0 ?_|refine Q1 ?_|refine Q3 rfl rfl rfl ?_|refine Q4 rfl rfl rfl rfl rfl ?_|refine Q6 rfl ?_);refine QX rfl rfl ?_))|refine Qh ?_)
  refine a0c ?_
  have hw:IntKind.i64.wrap (v.fuse - 1)=v.fuse - 1:=a0r (by omega) (by omega)
  refine ⟨_,rfl,?_,?_⟩
  ·simp [Dv.burn,h00]<;>rfl
  ·have e:v.burn={ v with fuse:=IntKind.i64.wrap (v.fuse - 1) }:=by rw [hw];simp [Dv.burn,h00,h11]
   rw [e];rfl
 have h11:¬ 0<v.fuse:=h1
 refine a1t ?_
 refine a0u ?_
 refine a0m rfl ?_
 repeat' (first|(refine Qa rfl ?_;try ((first|refine Q0 ?_|refine Q1 ?_|refine Q3 rfl rfl rfl ?_|refine Q4 rfl rfl rfl rfl rfl ?_|refine Q6 rfl ?_);refine QX rfl rfl ?_))|refine Qh ?_)
 refine a0c ⟨_,rfl,?_,?_⟩
 ·simp [Dv.burn,h00]<;>rfl
 ·simp [Dv.burn,a0K,h00,h11]
def Dv.n(v:Dv):Int:=IntKind.i64.wrap ((v.image.length:Int).tdiv 64)
def Dv.check(v:Dv)(i:Int):Int:=if v.dead=true then 1 else if i<0\/v.n<=i then 2 else 0
theorem b5y(X:Nat->Prop)(v:Dv)(i:Int):a0b (E0 X) 139 [.ptr 0 0,.int .i64 i] (a0K v) (fun r H'=>r=.int .i64 (v.check i)/\H'=a0K v):=by
 refine Z0 Proofs.Tryz.func139 rfl Proofs.Tryz.ntmps139 (by kernel_rfl) rfl ?_
 refine a0u ?_
 refine a0m rfl ?_
 repeat' (first|(refine Qa rfl ?_;try ((refine Q1 ?_);refine QX rfl rfl ?_))|refine Qh ?_)
 refine a0u ?_
 refine a3u ?_
 refine a0u ?_
 refine a0m rfl ?_
 repeat' (first|(refine Qa rfl ?_;try ((first|refine Q0 ?_|refine Q1 ?_|refine Q3 rfl rfl rfl ?_|refine Q4 rfl rfl rfl rfl rfl ?_|refine Q5 rfl ?_|refine Q6 rfl ?_|refine QH rfl rfl rfl ?_);refine QX rfl rfl ?_))|refine Qh ?_)
 refine a0I rfl (fun hd=>?_) (fun hd=>?_)
 ·refine a0u ?_
  refine a0m rfl ?_
  repeat' (first|(refine Qa rfl ?_;try ((refine Q1 ?_);refine QX rfl rfl ?_))|refine Qh ?_)
  exact a0c ⟨_,rfl,by simp [Dv.check,hd]<;>rfl,rfl⟩
 refine a0u ?_
 refine a0m rfl ?_
 repeat' (first|(refine Qa rfl ?_;try ((first|refine Q0 ?_|refine Q1 ?_|refine Q2 rfl ?_|refine Q5 rfl ?_);refine QX rfl rfl ?_))|refine Qh ?_|refine Qi rfl ?_|refine Qy rfl rfl (fun _=>?_) (fun _=>?_))
 ·rename_i hi
  refine a1j rfl ?_
  refine a0u ?_
  refine a0m rfl ?_
  repeat' (first|(refine Qa rfl ?_;try ((refine Q1 ?_);refine QX rfl rfl ?_))|refine Qh ?_)
  exact a0c ⟨_,rfl,by simp [Dv.check,hd,hi]<;>rfl,rfl⟩
 rename_i hi
 refine Cn rfl (a8b X v) rfl rfl ?_
 repeat' (first|(refine Qa rfl ?_;try ((first|refine Q1 ?_|refine Q2 rfl ?_|refine Q5 rfl ?_);refine QX rfl rfl ?_))|refine Qh ?_)
 refine a0g rfl (fun hn=>?_) (fun hn=>?_)
 ·have hn2:v.n<=i:=hn
  refine a0u ?_
  refine a0m rfl ?_
  repeat' (first|(refine Qa rfl ?_;try ((refine Q1 ?_);refine QX rfl rfl ?_))|refine Qh ?_)
  exact a0c ⟨_,rfl,by simp [Dv.check,hd,hn2]<;>rfl,rfl⟩
 have hn2:¬ v.n<=i:=hn
 refine a1t ?_
 refine a0u ?_
 refine a0m rfl ?_
 repeat' (first|(refine Qa rfl ?_;try ((refine Q1 ?_);refine QX rfl rfl ?_))|refine Qh ?_)
 exact a0c ⟨_,rfl,by simp [Dv.check,hd,hi,hn2]<;>rfl,rfl⟩
theorem c6d(X:Nat->Prop)(v:Dv)(i:Nat)(hl:v.image.length<=1073741824)(hi:i*64+64<=v.image.length) :
  a0b (E0 X) 81 [.ptr 0 0,.int .i64 (i:Int)] (a0K v) (fun r H'=>r=.own 1 (i*64) 64/\H'=a0K v):=by
 refine Z0 Proofs.Tryz.func81 rfl Proofs.Tryz.ntmps81 (by kernel_rfl) rfl ?_
 refine a0u ?_
 refine a0m rfl ?_
 repeat' (first|(refine Qa rfl ?_;try ((refine Q1 ?_);refine QX rfl rfl ?_))|refine Qh ?_)
 refine a0u ?_
 refine a0m rfl ?_
 repeat' (refine Qa rfl ?_;try ((first|refine Q0 ?_|refine Q2 rfl ?_|refine Q3 rfl rfl rfl ?_|refine Q4 rfl rfl rfl rfl rfl ?_|refine Q6 rfl ?_);refine QX rfl rfl ?_))
 have h1:IntKind.i64.wrap ((i:Int)*64)=((i*64:Nat):Int):=by rw [a0r (by omega) (by omega)];omega
 have h2:IntKind.i64.wrap (IntKind.i64.wrap ((i:Int)+1)*64)=((i*64+64:Nat):Int):=by
  rw [a0r (n:=(i:Int)+1) (by omega) (by omega),a0r (by omega) (by omega)];omega
 refine a6Q (l:=i*64) (h:=i*64+64) rfl rfl rfl rfl rfl rfl rfl (a0q rfl h1) (a0q rfl h2) (by omega) hi ?_
 have h3:AV.own (0+1) (0+i*64) (i*64+64 - i*64)=.own 1 (i*64) 64:=by simp
 rw [h3]
 refine nx rfl rfl ?_
 repeat' (first|(refine Qa rfl ?_;try ((refine Q1 ?_);refine QX rfl rfl ?_))|refine Qh ?_)
 exact a0c ⟨_,rfl,rfl,rfl⟩
theorem c0b{H:Hp}{id:Nat}{o:Option AO}(h:H[id]?=some o):H.set id o=H:=by
 apply List.ext_getElem?
 intro j
 rw [List.getElem?_set]
 split
 ·rename_i hj
  subst hj
  have:=(List.getElem?_eq_some_iff.1 h).1
  rw [if_pos this,h]
 ·rfl
theorem b2N(X:Nat->Prop)(H:Hp)(id:Nat)(ys:List UInt8)(lo n:Nat)(ho:H[id]?=some (some (.arr (ys.map u8A) 5)))(hn:lo+n<=ys.length)(hb:ys.length<=1073741824) :
  a0b (E0 X) 45 [.own id lo n] H (fun r H'=>r=.own H.length 0 n/\H'=H++[some (.arr (((ys.drop lo).take n).map u8A) 5)]):=by
 have hcl:∀(f:Nat->Nat) (l:List UInt8),rnL f (l.map u8A)=l.map u8A:=fun f l=>a1r _ (a1H l)
 have h:=a0b.frame (E:=E0 X) (fun X=>b5C X ys lo n hn hb) [id] H (by simp) rfl (fun j=>by
  match j with
  | 0=>simp
  | j+1=>simp) (fun j i o hj hh=>by
  match j,hj,hh with
  | 0,hj,hh =>
   simp at hj hh
   subst hj hh
   simp only [rnO,hcl]
   exact ho) (by simp [a0e,a0d]) (fun j o hh=>by
  match j,hh with
  | 0,hh =>
   simp at hh
   subst hh
   exact a0F (Nat.zero_le _) (a1H ys))
 refine a0b.mono h ?_
 rintro r H' ⟨r0,h',⟨rfl,rfl⟩,_,rfl,rfl⟩
 refine ⟨?_,?_⟩
 ·simp [rnA,reN]
 simp only [mrg,List.map_cons,List.map_nil,Option.map_some,rnO,hcl,a1S,List.length_cons,List.length_nil,Nat.zero_add,List.drop_succ_cons,List.drop_zero]
 rw [c0b ho]
theorem a6e{v:Dv}{i:Int}(hl:v.image.length<=1073741824)(h:v.check i=0):∃k:Nat,i=k/\k*64+64<=v.image.length:=by
 unfold Dv.check Dv.n at h
 have e:((v.image.length:Int).tdiv 64)=((v.image.length / 64:Nat):Int):=by rw [Int.tdiv_eq_ediv_of_nonneg (by omega)];omega
 rw [e] at h
 rw [a0r (by omega) (by omega)] at h
 split at h
 ·omega
 split at h
 ·omega
 rename_i h1
 refine ⟨i.toNat,by omega,?_⟩
 omega
theorem c1N(X:Nat->Prop)(v:Dv)(hl:v.image.length<=1073741824) :
  a0b (E0 X) 17 [.ptr 0 0] (a0K v) (fun r H'=>r=.own 3 0 v.image.length/\H'=a0K v++[some (.arr (v.image.map u8A) 5)]):=by
 refine Z0 Proofs.Tryz.func17 rfl Proofs.Tryz.ntmps17 (by kernel_rfl) rfl ?_
 refine a0u ?_
 refine a0m rfl ?_
 repeat' (first|(refine Qa rfl ?_;try ((refine Q1 ?_);refine QX rfl rfl ?_))|refine Qh ?_)
 refine a0u ?_
 refine a0u ?_
 refine a0m rfl ?_
 repeat' (first|(refine Qa rfl ?_;try ((first|refine Q0 ?_|refine QH rfl rfl rfl ?_);refine QX rfl rfl ?_))|refine Qh ?_)
 refine a1v rfl ?_
 refine a1t ?_
 refine a0u ?_
 refine a0m rfl ?_
 repeat' (refine Qa rfl ?_;try ((first|refine Q0 ?_|refine Q3 rfl rfl rfl ?_|refine Q4 rfl rfl rfl rfl rfl ?_|refine Q6 rfl ?_);refine QX rfl rfl ?_))
 refine Cn rfl (b2N X (a0K v) 1 v.image 0 v.image.length rfl (by omega) hl) rfl rfl ?_
 repeat' (first|(refine Qa rfl ?_;try ((refine Q1 ?_);refine QX rfl rfl ?_))|refine Qh ?_)
 exact a0c ⟨_,rfl,rfl,by simp<;>rfl⟩
theorem c4H(X:Nat->Prop)(v:Dv)(i:Int)(hl:v.image.length<=1073741824) :
  a0b (E0 X) 105 [.ptr 0 0,.int .i64 i] (a0K v) (fun r H'=>(v.check i≠0/\r=.tup [.nils,.int .i64 (v.check i)]/\H'=a0K v) \/
   (v.check i=0/\r=.tup [.own 3 0 64,.int .i64 0]/\H'=a0K v++[some (.arr (((v.image.drop (i.toNat*64)).take 64).map u8A) 5)])):=by
 refine Z0 Proofs.Tryz.func105 rfl Proofs.Tryz.ntmps105 (by kernel_rfl) rfl ?_
 refine a0u ?_
 refine a0m rfl ?_
 repeat' (first|(refine Qa rfl ?_;try ((refine Q1 ?_);refine QX rfl rfl ?_))|refine Qh ?_)
 refine a0u ?_
 refine a0u ?_
 refine a0m rfl ?_
 repeat' (refine Qa rfl ?_;try ((refine Q0 ?_);refine QX rfl rfl ?_))
 refine Cn rfl (b5y X v i) rfl rfl ?_
 repeat' (first|(refine Qa rfl ?_;try ((refine Q1 ?_);refine QX rfl rfl ?_))|refine Qh ?_)
 refine a0u ?_
 refine a0m rfl ?_
 repeat' (first|(refine Qa rfl ?_;try ((first|refine Q0 ?_|refine Q2 rfl ?_);refine QX rfl rfl ?_))|refine Qh ?_)
 refine a0g rfl (fun hc=>?_) (fun hc=>?_)
 ·have hc2:v.check i≠0:=hc
  refine a0u ?_
  refine a0m rfl ?_
  repeat' (first|(refine Qa rfl ?_;try ((first|refine Q0 ?_|refine Q1 ?_);refine QX rfl rfl ?_))|refine Qh ?_)
  exact a0c ⟨_,rfl,.inl ⟨hc2,rfl,rfl⟩⟩
 have hc2:v.check i=0:=Decidable.not_not.1 hc
 obtain ⟨k,rfl,hk⟩:=a6e hl hc2
 refine a1t ?_
 refine a0u ?_
 refine a0m rfl ?_
 repeat' (refine Qa rfl ?_;try ((refine Q0 ?_);refine QX rfl rfl ?_))
 refine Cn rfl (c6d X v k hl hk) rfl rfl ?_
 repeat' (refine Qa rfl ?_)
 refine Cn rfl (b2N X (a0K v) 1 v.image (k*64) 64 rfl hk hl) rfl rfl ?_
 repeat' (first|(refine Qa rfl ?_;try ((refine Q1 ?_);refine QX rfl rfl ?_))|refine Qh ?_)
 exact a0c ⟨_,rfl,.inr ⟨hc2,rfl,by simp<;>rfl⟩⟩
def Dv.sector(v:Dv)(k:Nat):List UInt8:=(v.image.drop (k*64)).take 64
def Dv.put(v:Dv)(k:Nat)(b:List UInt8):Dv :=
 { v with image:=v.image.take (k*64)++(b++List.replicate (64 - b.length) 0)++v.image.drop (k*64+64),old:=if (k:Int)∈v.old.map (·.1) then v.old else v.old++[((k:Int),v.sector k)],writes:=IntKind.i64.wrap (v.writes+1) }
def Dv.write(v:Dv)(i:Int)(b:List UInt8):Int × Dv :=
 if v.check i≠0 then (v.check i,v) else if 64<b.length then (3,v) else if v.burn.dead=true then (1,v.burn) else (0,v.burn.put i.toNat b)
structure Dv.Ok(v:Dv):Prop where
 len:v.image.length<=1073741824
 nd:(v.old.map (·.1)).Nodup
 sz:∀p∈v.old,p.2.length=64
 fuse:v.fuse<=9223372036854775807
theorem a1n(w:Dv):HOk 3 (a0K w):=fun j o ho=>by
 match j,ho with
 | 0,ho=>cases ho;exact ⟨by simp [a0d],by simp [a0d],trivial,trivial,trivial,trivial⟩
 | 1,ho=>cases ho;exact a0F (Nat.zero_le _) (a1H _)
 | 2,ho =>
  cases ho
  refine ⟨?_,?_⟩
  ·rw [List.map_map];exact a0F (Nat.zero_le _) (a9j (fun p=>by simp [b3s,a0d]) _)
  ·rw [List.map_map];exact a0F (Nat.zero_le _) (a9j (fun p=>by simp only [Function.comp,b3s,a0d];exact a1H _) _)
theorem a9l{E:Env}{N:Nat}{sl sl':List (Nat × AV)}{hp:Hp}{w:Dv}(hh:hp.take 3=a0K w)(hl:3<=hp.length)(hsl:∀p∈sl',get sl p.1=p.2/\a0d 3 p.2):Imp E N 3 ⟨sl,hp⟩ ⟨sl',a0K w⟩:=by
 have:=b3f (E:=E) (N:=N) (n0:=3) (s:=⟨sl,hp⟩) 3 [] sl' [] (Nat.le_refl _) hl (by simp) (by simp) (by rw [hh];exact a1n w) (fun p hp=>by
  rw [(hsl p hp).1];exact a7V 3 a2m (hsl p hp).2) rfl (fun _ _ _ h=>absurd h (by simp))
 simpa [hh] using this
theorem b2G{E:Env}{N n0:Nat}{Q:Exit->St->Prop}{s s1:St}{c1 c2:Code}(h1:AWp E N n0 c1 (fun e s=>e=.normal/\Imp E N n0 s s1) s)(h2:AWp E N n0 c2 Q s1):AWp E N n0 (.seq c1 c2) Q s :=
 a0u (a2L h1 fun e s h=>by
  obtain ⟨rfl,hi⟩:=h
  exact a0t hi h2)
theorem c2y(img b:List UInt8)(k:Nat)(hk:k*64+64<=img.length)(hb:b.length<=64) :
  spl (spl (img.map u8A) (k*64) (List.replicate 64 (.int .u8 0))) (k*64) ((b.map u8A).take (min 64 (b.map u8A).length)) =
   (img.take (k*64)++(b++List.replicate (64 - b.length) 0)++img.drop (k*64+64)).map u8A:=by
 have h0:(List.replicate 64 (AV.int .u8 0))=(List.replicate 64 (0:UInt8)).map u8A:=by rw [List.map_replicate];rfl
 have h1:(b.map u8A).take (min 64 (b.map u8A).length)=b.map u8A:=List.take_of_length_le (by simp;omega)
 rw [h1,h0]
 unfold spl
 rw [<- List.map_take,<- List.map_drop,<- List.map_append,<- List.map_append,<- List.map_take,<- List.map_drop,<- List.map_append,<- List.map_append]
 congr 1
 have h2:(List.take (k*64) img).length=k*64:=by simp;omega
 have h3:List.take (k*64) (List.take (k*64) img++List.replicate 64 0++List.drop (k*64+(List.map u8A (List.replicate 64 0)).length) img)=List.take (k*64) img:=by
  rw [List.append_assoc,List.take_append_of_le_length (by omega),List.take_of_length_le (by omega)]
 have h4:List.drop (k*64+(List.map u8A b).length) (List.take (k*64) img++List.replicate 64 0++List.drop (k*64+(List.map u8A (List.replicate 64 0)).length) img)=List.replicate (64 - b.length) 0++List.drop (k*64+64) img:=by
  rw [List.append_assoc,List.drop_append,h2,List.drop_of_length_le (by rw [h2];omega),List.nil_append]
  simp only [List.length_map,List.length_replicate]
  have:k*64+b.length - k*64=b.length:=by omega
  rw [this,List.drop_append_of_le_length (by simp;omega),List.drop_replicate]
 rw [h3,h4]
 simp
theorem c5C{Q:Exit->St->Prop}{i:Nat}{s:St}(h:Q .normal s):a4M i Q .normal s:=h
theorem b8s(X:Nat->Prop)(v:Dv)(hv:v.Ok)(i:Int)(b:List UInt8)(hb:b.length<=1073741824) :
  a0b (E0 X) 95 [.ptr 0 0,.int .i64 i,.sl 1 (b.map u8A)] (a0K v) (fun r H'=>r=.int .i64 (v.write i b).1/\H'=a0K (v.write i b).2):=by
 refine Z0 Proofs.Tryz.func95 rfl Proofs.Tryz.ntmps95 (by kernel_rfl) rfl ?_
 refine a0u ?_
 refine a0m rfl ?_
 repeat' (first|(refine Qa rfl ?_;try ((refine Q1 ?_);refine QX rfl rfl ?_))|refine Qh ?_)
 refine a0u ?_
 refine a0m rfl ?_
 repeat' (refine Qa rfl ?_;try ((refine Q0 ?_);refine QX rfl rfl ?_))
 refine Cn rfl (b5y X v i) rfl rfl ?_
 repeat' (first|(refine Qa rfl ?_;try ((refine Q1 ?_);refine QX rfl rfl ?_))|refine Qh ?_)
 refine a0u ?_
 refine a3u ?_
 refine a0u ?_
 refine a0m rfl ?_
 repeat' (first|(refine Qa rfl ?_;try ((first|refine Q0 ?_|refine Q1 ?_|refine Q2 rfl ?_);refine QX rfl rfl ?_))|refine Qh ?_)
 refine a0g rfl (fun hc=>?_) (fun hc=>?_)
 ·have hc2:v.check i≠0:=hc
  refine a0u ?_
  refine a0m rfl ?_
  repeat' (first|(refine Qa rfl ?_;try ((first|refine Q0 ?_|refine Q1 ?_);refine QX rfl rfl ?_))|refine Qh ?_)
  exact a0c ⟨_,rfl,by simp [Dv.write,hc2]<;>rfl,by simp [Dv.write,hc2]<;>rfl⟩
 have hc2:v.check i=0:=Decidable.not_not.1 hc
 obtain ⟨k,rfl,hk⟩:=a6e hv.len hc2
 refine a0u ?_
 refine a0m rfl ?_
 repeat' (first|(refine Qa rfl ?_;try ((first|refine Q0 ?_|refine Q1 ?_|refine Q2 rfl ?_|refine Q7 rfl rfl rfl ?_);refine QX rfl rfl ?_))|refine Qh ?_)
 refine a0g rfl (fun hl=>?_) (fun hl=>?_)
 ·have hl2:64<b.length:=by
   have h:(64:Int)<((b.map u8A).length:Int):=hl
   simp at h;omega
  refine a0u ?_
  refine a0m rfl ?_
  repeat' (first|(refine Qa rfl ?_;try ((refine Q1 ?_);refine QX rfl rfl ?_))|refine Qh ?_)
  exact a0c ⟨_,rfl,by simp [Dv.write,hc2,hl2]<;>rfl,by simp [Dv.write,hc2,hl2]<;>rfl⟩
 have hl2:¬ 64<b.length:=fun hh=>hl (by show (64:Int)<((b.map u8A).length:Int);simp;omega)
 refine a0u ?_
 refine a0m rfl ?_
 repeat' (refine Qa rfl ?_;try ((refine Q0 ?_);refine QX rfl rfl ?_))
 refine Cn rfl (c0C X v hv.fuse) rfl rfl ?_
 repeat' (first|(refine Qa rfl ?_;try ((refine Q1 ?_);refine QX rfl rfl ?_))|refine Qh ?_)
 refine a0I rfl (fun hd=>?_) (fun hd=>?_)
 ·refine a0u ?_
  refine a0m rfl ?_
  repeat' (first|(refine Qa rfl ?_;try ((refine Q1 ?_);refine QX rfl rfl ?_))|refine Qh ?_)
  refine a0c ?_
  have e:v.write (k:Int) b=(1,v.burn):=by simp [Dv.write,hc2,hl2,hd]
  rw [e]
  exact ⟨_,rfl,rfl,rfl⟩
 refine a1t ?_
 have e:v.write (k:Int) b=(0,v.burn.put k b):=by simp [Dv.write,hc2,hl2,hd]
 rw [e]
 have hwl:v.burn.image.length<=1073741824:=hv.len
 have hwk:k*64+64<=v.burn.image.length:=hk
 have hnd:(v.burn.old.map (·.1)).Nodup:=hv.nd
 have hsz:∀p∈v.burn.old,p.2.length=64:=hv.sz
 clear e hv hc hc2 hl hk
 generalize v.burn=w at *
 refine c5C ?_
 refine a0u ?_
 refine a0m rfl ?_
 repeat' (refine Qa rfl ?_;try ((refine Q0 ?_);refine QX rfl rfl ?_))
 refine Cn rfl (c6d X w k hwl hwk) rfl rfl ?_
 repeat' (first|(refine Qa rfl ?_;try ((refine Q1 ?_);refine QX rfl rfl ?_))|refine Qh ?_)
 refine b2G (s1:=⟨[(0,.ptr 0 0),(1,.int .i64 (k:Int)),(2,.sl 1 (b.map u8A)),(8,.own 1 (k*64) 64)],a0K { w with old:=if (k:Int)∈w.old.map (·.1) then w.old else w.old++[((k:Int),w.sector k)] }⟩) ?_ ?_
 rotate_left
 ·generalize hold:(if (k:Int)∈w.old.map (·.1) then w.old else w.old++[((k:Int),w.sector k)])=old2
  refine a0u ?_
  refine a0m rfl ?_
  repeat' (first|(refine Qa rfl ?_;try ((refine Q0 ?_);refine QX rfl rfl ?_))|(refine Qb rfl ?_;try (refine QS rfl rfl rfl rfl rfl rfl rfl ?_;refine QX rfl rfl ?_)))
  refine b0T rfl rfl rfl rfl rfl rfl rfl rfl rfl (by simpa using hwk) (by omega) ?_
  refine nx rfl rfl ?_
  repeat' (refine Qh ?_)
  refine a0u ?_
  refine a0m rfl ?_
  repeat' (refine Qa rfl ?_;try ((refine Q0 ?_);refine QX rfl rfl ?_))
  refine b8c rfl rfl rfl rfl rfl rfl rfl rfl (by simp [spl];omega) rfl (a0P b) ?_
  refine nx rfl rfl ?_
  repeat' (refine Qh ?_)
  refine a0u ?_
  refine a0m rfl ?_
  repeat' (first|(refine Qa rfl ?_;try ((first|refine Q0 ?_|refine Q2 rfl ?_|refine Q3 rfl rfl rfl ?_|refine Q4 rfl rfl rfl rfl rfl ?_|refine Q6 rfl ?_);refine QX rfl rfl ?_))|(refine Qb rfl ?_;try (refine QS rfl rfl rfl rfl rfl rfl rfl ?_;refine QX rfl rfl ?_))|refine Qh ?_)
  refine a0u ?_
  refine a0m rfl ?_
  repeat' (first|(refine Qa rfl ?_;try ((refine Q1 ?_);refine QX rfl rfl ?_))|refine Qh ?_)
  refine a0c ⟨_,rfl,rfl,?_⟩
  have hp1:=c2y w.image b k hwk (by omega)
  have hp2:(w.put k b).image.length=w.image.length:=by simp [Dv.put];omega
  have hp3:(w.put k b).old=old2:=hold
  show [some _,some _,some _]=[some _,some _,some _]
  rw [hp2,hp3]
  have hp4:(w.put k b).image.map u8A=_:=hp1.symm
  rw [hp4]
  rfl
 refine a0u ?_
 refine a0m rfl ?_
 repeat' (refine Qa rfl ?_;try ((first|refine Q0 ?_|refine Q3 rfl rfl rfl ?_|refine Q4 rfl rfl rfl rfl rfl ?_|refine Q6 rfl ?_);refine QX rfl rfl ?_))
 have hns:(w.old.map b3s).map (·.1)=(w.old.map (·.1)).map (AV.int .i64):=by simp [b3s]
 by_cases hm:(k:Int)∈w.old.map (·.1)
 ·obtain ⟨j,hj⟩:=List.mem_iff_getElem?.1 hm
  obtain ⟨p,hp,hpk⟩:∃p,w.old[j]?=some p/\p.1=(k:Int):=by
   rw [List.getElem?_map,Option.map_eq_some_iff] at hj
   exact hj
  have h64:p.2.length=64:=hsz p (List.mem_of_getElem? hp)
  have hy:((w.old.map b3s).map (·.2))[j]?=some (.agg (p.2.map u8A)):=by simp [hp,b3s]
  refine a9L rfl rfl rfl rfl rfl rfl hns hnd rfl hj hy ?_
  refine nx rfl rfl ?_
  repeat' (refine Qa rfl ?_;try ((first|refine Q0 ?_|refine QC rfl rfl ?_);refine QX rfl rfl ?_))
  refine a4J rfl rfl ?_
  refine nx0 ?_
  repeat' (first|(refine Qa rfl ?_;try ((first|refine QC rfl rfl ?_|refine QJ rfl rfl ?_);refine QX rfl rfl ?_))|(refine Qb rfl ?_;try (refine QS rfl rfl rfl rfl rfl rfl rfl ?_;refine QX rfl rfl ?_)))
  apply a3n rfl rfl rfl
  ·show Nat.beq (p.2.map u8A).length 64=true
   simp [h64]
  ·show (p.2.map u8A).all a5m=true
   exact List.all_eq_true.2 (b8n p.2)
  ·rfl
  ·show Nat.ble (0+(p.2.map u8A).length) 64=true
   simp [h64]
  refine nx0 ?_
  refine bs rfl ?_
  refine a5T ?_
  refine nx0 ?_
  refine a4y ?_
  refine a0t (a9l (w:=w) (sl':=[(0,.ptr 0 0),(1,.int .i64 (k:Int)),(2,.sl 1 (b.map u8A)),(8,.own 1 (k*64) 64),(10,.bool true)]) rfl (by simp) (a0a ⟨rfl,by simp [a0d]⟩ (a0a ⟨rfl,trivial⟩ (a0a ⟨rfl,a0F (Nat.zero_le _) (a1H b)⟩ (a0a ⟨rfl,by simp [a0d]⟩ (a0a ⟨rfl,trivial⟩ a0l)))))) ?_
  refine a0u ?_
  refine a0m rfl ?_
  repeat' (first|(refine Qa rfl ?_;try ((first|refine Q0 ?_|refine QD rfl ?_);refine QX rfl rfl ?_))|refine Qh ?_)
  refine a1v rfl ?_
  refine a1t ?_
  refine ⟨rfl,a9l ?_ (by simp [a0K]) (a0a ⟨rfl,by simp [a0d]⟩ (a0a ⟨rfl,trivial⟩ (a0a ⟨rfl,a0F (Nat.zero_le _) (a1H b)⟩ (a0a ⟨rfl,by simp [a0d]⟩ a0l))))⟩
  rw [if_pos hm]
  rfl
 refine a8o rfl rfl rfl rfl rfl rfl rfl rfl rfl hns rfl hm ?_
 refine nx rfl rfl ?_
 repeat' (first|(refine Qa rfl ?_;try ((first|refine Q0 ?_|refine Q1 ?_|refine QC rfl rfl ?_|refine QJ rfl rfl ?_);refine QX rfl rfl ?_))|(refine Qb rfl ?_;try (refine QS rfl rfl rfl rfl rfl rfl rfl ?_;refine QX rfl rfl ?_))|refine Qh ?_)
 refine a0t (a9l (w:=w) (sl':=[(0,.ptr 0 0),(1,.int .i64 (k:Int)),(2,.sl 1 (b.map u8A)),(8,.own 1 (k*64) 64),(10,.bool false)]) rfl (by simp) (a0a ⟨rfl,by simp [a0d]⟩ (a0a ⟨rfl,trivial⟩ (a0a ⟨rfl,a0F (Nat.zero_le _) (a1H b)⟩ (a0a ⟨rfl,by simp [a0d]⟩ (a0a ⟨rfl,trivial⟩ a0l)))))) ?_
 refine a0u ?_
 refine a0m rfl ?_
 repeat' (first|(refine Qa rfl ?_;try ((first|refine Q0 ?_|refine QD rfl ?_);refine QX rfl rfl ?_))|refine Qh ?_)
 refine a1j rfl ?_
 refine a7t (ef:=[8]) (so:=[]) (ord:=[0,1,2,3,4,5,6,7,8]) rfl (by kernel_rfl) rfl ?_
 repeat (apply ds rfl rfl rfl rfl;(first|refine a9M ?_|refine a3t rfl rfl rfl ?_|refine a3l rfl rfl rfl rfl rfl ?_|refine a3R rfl ?_);exact nx rfl rfl ⟨rfl,rfl⟩)
 apply ds rfl rfl rfl rfl
 ·refine b2q rfl rfl rfl rfl (by simpa using hwk) (Nat.le_refl _) (by omega) ?_
  exact nx rfl rfl ⟨rfl,rfl⟩
 apply ds rfl rfl rfl rfl
 ·refine b2n rfl rfl rfl rfl rfl rfl rfl (b8n _) (by simpa using hwk) ?_
  exact nx0 ⟨rfl,rfl⟩
 refine b2R rfl rfl rfl ?_
 refine a9O rfl rfl rfl rfl rfl rfl hns rfl hm ?_
 refine nx rfl rfl ?_
 refine b0n ?_
 refine ⟨rfl,a9l ?_ (by simp) (a0a ⟨rfl,by simp [a0d]⟩ (a0a ⟨rfl,trivial⟩ (a0a ⟨rfl,a0F (Nat.zero_le _) (a1H b)⟩ (a0a ⟨rfl,by simp [a0d]⟩ a0l))))⟩
 rw [if_neg hm]
 simp [a0K,b3s,Dv.sector,List.map_take,List.map_drop]
 rfl
def Dv.barrier(v:Dv):Int × Dv:=if v.dead=true then (1,v) else if v.burn.dead=true then (1,v.burn) else (0,{ v.burn with old:=[] })
theorem b0f(X:Nat->Prop)(v:Dv)(hf:v.fuse<=9223372036854775807) :
  a0b (E0 X) 96 [.ptr 0 0] (a0K v) (fun r H'=>r=.int .i64 v.barrier.1/\H'=a0K v.barrier.2):=by
 refine Z0 Proofs.Tryz.func96 rfl Proofs.Tryz.ntmps96 (by kernel_rfl) rfl ?_
 refine a0u ?_
 refine a0m rfl ?_
 repeat' (first|(refine Qa rfl ?_;try ((refine Q1 ?_);refine QX rfl rfl ?_))|refine Qh ?_)
 refine a0u ?_
 refine a0u ?_
 refine a0m rfl ?_
 repeat' (first|(refine Qa rfl ?_;try ((first|refine Q0 ?_|refine Q3 rfl rfl rfl ?_|refine Q4 rfl rfl rfl rfl rfl ?_|refine Q5 rfl ?_|refine Q6 rfl ?_|refine QH rfl rfl rfl ?_);refine QX rfl rfl ?_))|refine Qh ?_|refine Qi rfl ?_|refine Qz rfl rfl (fun _=>?_) (fun _=>?_))
 ·rename_i hd
  refine a1j rfl ?_
  refine a0u ?_
  refine a0m rfl ?_
  repeat' (first|(refine Qa rfl ?_;try ((refine Q1 ?_);refine QX rfl rfl ?_))|refine Qh ?_)
  refine a0c ?_
  have e:v.barrier=(1,v):=by simp [Dv.barrier,hd]
  rw [e]
  exact ⟨_,rfl,rfl,rfl⟩
 rename_i hd
 refine Cn rfl (c0C X v hf) rfl rfl ?_
 repeat' (first|(refine Qa rfl ?_;try ((refine Q5 rfl ?_);refine QX rfl rfl ?_))|refine Qh ?_)
 refine a0I rfl (fun hb=>?_) (fun hb=>?_)
 ·refine a0u ?_
  refine a0m rfl ?_
  repeat' (first|(refine Qa rfl ?_;try ((refine Q1 ?_);refine QX rfl rfl ?_))|refine Qh ?_)
  refine a0c ?_
  have e:v.barrier=(1,v.burn):=by simp [Dv.barrier,hd,hb]
  rw [e]
  exact ⟨_,rfl,rfl,rfl⟩
 have e:v.barrier=(0,{ v.burn with old:=[] }):=by simp [Dv.barrier,hd,hb]
 rw [e]
 refine a1t ?_
 refine a0u ?_
 refine a0m rfl ?_
 repeat' (first|(refine Qa rfl ?_;try ((first|refine Q0 ?_|refine Q3 rfl rfl rfl ?_|refine Q4 rfl rfl rfl rfl rfl ?_|refine Q6 rfl ?_);refine QX rfl rfl ?_))|(refine Qb rfl ?_;try (refine QS rfl rfl rfl rfl rfl rfl rfl ?_;refine QX rfl rfl ?_)))
 refine b0S rfl rfl rfl rfl ?_
 refine nx rfl rfl ?_
 repeat' (refine Qh ?_)
 refine a0u ?_
 refine a0m rfl ?_
 repeat' (first|(refine Qa rfl ?_;try ((refine Q1 ?_);refine QX rfl rfl ?_))|refine Qh ?_)
 exact a0c ⟨_,rfl,rfl,rfl⟩
theorem a4D(X:Nat->Prop)(ys:List UInt8)(hb:ys.length<=1073741824) :
  a0b (E0 X) 45 [.sl 1 (ys.map u8A)] [] (fun r H'=>r=.own 0 0 ys.length/\H'=[some (.arr (ys.map u8A) 5)]):=by
 refine Z0 Proofs.Tryz.func45 rfl Proofs.Tryz.ntmps45 (by kernel_rfl) rfl ?_
 refine a0u ?_
 refine a0m rfl ?_
 repeat' (first|(refine Qa rfl ?_;try ((refine Q1 ?_);refine QX rfl rfl ?_))|refine Qh ?_)
 refine a0u ?_
 refine a0u ?_
 refine a0m rfl ?_
 repeat' (refine Qa rfl ?_;try ((refine Q0 ?_);refine QX rfl rfl ?_))
 refine b2m rfl rfl rfl (by omega) (fun h0=>?_) ?_
 ·refine nx rfl rfl ?_
  repeat' (refine Qh ?_)
  refine a1j rfl ?_
  refine a0u ?_
  refine a0m rfl ?_
  repeat' (first|(refine Qa rfl ?_;try ((refine Q1 ?_);refine QX rfl rfl ?_))|refine Qh ?_)
  refine a0t (imp_nil 2 5 rfl) ?_
  refine a0c ?_
  have:ys=[]:=by simpa using h0
  subst this
  exact ⟨_,rfl,rfl,rfl⟩
 refine nx rfl rfl ?_
 repeat' (refine Qh ?_)
 refine a1v rfl ?_
 refine a1t ?_
 refine a0u ?_
 refine a0m rfl ?_
 repeat' (refine Qa rfl ?_)
 refine a1o rfl rfl rfl rfl rfl rfl rfl (.inr rfl) rfl (.inr rfl) ?_
 refine nx rfl rfl ?_
 repeat' (refine Qa rfl ?_;try ((refine Q0 ?_);refine QX rfl rfl ?_))
 refine a2E (oid:=some 0) (es:=[]) (new:=ys.map u8A) rfl rfl rfl rfl rfl rfl rfl rfl (a0M (es:=[]) rfl rfl) rfl (a0P _) ?_ ?_ ?_
 ·simp [maxLen];omega
 ·show _*1<=_
  simp;omega
 refine nx rfl rfl ?_
 repeat' (first|(refine Qa rfl ?_;try ((refine Q1 ?_);refine QX rfl rfl ?_))|refine Qh ?_)
 refine a0t (b3g [1] (sl':=[(2,.own 0 0 ys.length)]) (os:=[.arr (ys.map u8A) 5]) (by simp) rfl ?_ ?_) ?_
 ·refine a0a ?_ a0l
  show Ren _ (.own 1 0 _) (.own 0 0 ys.length)
  have:([]:List AV).length+(ys.map u8A).length=ys.length:=by simp
  rw [this]
  exact a0L rfl
 ·exact a0E rfl (a4r (by simp) (a1H _)) a0T
 ·exact a0c ⟨_,rfl,rfl,rfl⟩
def a6C(l:Nat):Prop:=l%64=0/\64<=l/\l<=67108864
def Dv.fresh(img:List UInt8):Dv:={ image:=img,old:=[],writes:=0,fuse:=-1,dead:=false }
theorem b6t{l:Nat}(h:l<=1073741824):IntKind.i64.wrap ((l:Int).tdiv 64)=((l / 64:Nat):Int):=by
 have e:((l:Int).tdiv 64)=((l / 64:Nat):Int):=by rw [Int.tdiv_eq_ediv_of_nonneg (by omega)];omega
 rw [e,a0r (by omega) (by omega)]
theorem c1W{l:Nat}(h:l<=1073741824):IntKind.i64.wrap ((l:Int).tmod 64)=((l%64:Nat):Int):=by
 have e:((l:Int).tmod 64)=((l%64:Nat):Int):=by rw [Int.tmod_eq_emod_of_nonneg (by omega)];omega
 rw [e,a0r (by omega) (by omega)]
theorem b6w(X:Nat->Prop)(img:List UInt8)(hb:img.length<=1073741824) :
  a0b (E0 X) 10 [.sl 1 (img.map u8A)] [] (fun r H'=>(a6C img.length/\r=.ptr 0 0/\H'=a0K (Dv.fresh img))\/(¬ a6C img.length/\r=.nilp/\H'=[])):=by
 refine Z0 Proofs.Tryz.func10 rfl Proofs.Tryz.ntmps10 (by kernel_rfl) rfl ?_
 have hll:(img.map u8A).length<=1073741824:=by simpa using hb
 have e1:=b6t hll
 have e2:=c1W hll
 rw [List.length_map] at e1 e2
 refine a0u ?_
 refine a0m rfl ?_
 repeat' (first|(refine Qa rfl ?_;try ((refine Q1 ?_);refine QX rfl rfl ?_))|refine Qh ?_)
 refine a0u ?_
 refine a0m rfl ?_
 repeat' (first|(refine Qa rfl ?_;try ((first|refine Q0 ?_|refine Q1 ?_|refine Q7 rfl rfl rfl ?_|refine QA rfl rfl (by decide) ?_);refine QX rfl rfl ?_))|refine Qh ?_)
 refine a0u ?_
 refine a0u ?_
 refine a0m rfl ?_
 repeat' (first|(refine Qa rfl ?_;try ((first|refine Q0 ?_|refine Q2 rfl ?_|refine Q5 rfl ?_|refine Q7 rfl rfl rfl ?_|refine QB rfl rfl (by decide) ?_);refine QX rfl rfl ?_))|refine Qh ?_|refine Qi rfl ?_|refine Qy rfl rfl (fun _=>?_) (fun _=>?_))
 ·rename_i h1
  have h1':((img.map u8A).length:Int).tmod 64≠0:=fun hh=>by
   exact h1 hh
  refine a1j rfl ?_
  refine a0u ?_
  refine a0m rfl ?_
  repeat' (first|(refine Qa rfl ?_;try ((refine Q1 ?_);refine QX rfl rfl ?_))|refine Qh ?_)
  refine a0c ⟨_,rfl,.inr ⟨fun hh=>?_,rfl,rfl⟩⟩
  apply h1'
  rw [List.length_map,Int.tmod_eq_emod_of_nonneg (by omega)]
  have:=hh.1
  omega
 ·rename_i h1 h2
  refine a1j rfl ?_
  refine a0u ?_
  refine a0m rfl ?_
  repeat' (first|(refine Qa rfl ?_;try ((refine Q1 ?_);refine QX rfl rfl ?_))|refine Qh ?_)
  refine a0c ⟨_,rfl,.inr ⟨fun hh=>?_,rfl,rfl⟩⟩
  have h3:IntKind.i64.wrap (((img.map u8A).length:Int).tdiv 64)<1:=h2
  rw [List.length_map,e1] at h3
  have:=hh.2.1
  omega
 rename_i h1 h2
 have h3:¬ IntKind.i64.wrap (((img.map u8A).length:Int).tdiv 64)<1:=h2
 rw [List.length_map,e1] at h3
 refine a0g rfl (fun h4=>?_) (fun h4=>?_)
 ·refine a0u ?_
  refine a0m rfl ?_
  repeat' (first|(refine Qa rfl ?_;try ((refine Q1 ?_);refine QX rfl rfl ?_))|refine Qh ?_)
  refine a0c ⟨_,rfl,.inr ⟨fun hh=>?_,rfl,rfl⟩⟩
  have h5:1048576<IntKind.i64.wrap (((img.map u8A).length:Int).tdiv 64):=h4
  rw [List.length_map,e1] at h5
  have:=hh.2.2
  omega
 have h5:¬ 1048576<IntKind.i64.wrap (((img.map u8A).length:Int).tdiv 64):=h4
 rw [List.length_map,e1] at h5
 refine a1t ?_
 refine a0u ?_
 refine a0m rfl ?_
 repeat' (refine Qa rfl ?_;try ((refine Q0 ?_);refine QX rfl rfl ?_))
 refine Cn rfl (a4D X img hb) rfl rfl ?_
 repeat' (refine Qa rfl ?_)
 refine a8L ?_
 refine nx rfl rfl ?_
 repeat' (first|(refine Qa rfl ?_;try ((first|refine Q1 ?_|refine QK rfl ?_|refine QP rfl rfl rfl rfl rfl rfl ?_);refine QX rfl rfl ?_))|refine Qh ?_)
 refine a0t (b3g [2,0,1] (sl':=[(2,.ptr 0 0)]) (os:=[.cells [.own 1 0 img.length,.mp 2,.int .i64 0,.int .i64 (-1),.bool false] 112,.arr (img.map u8A) 5,.map []]) (by simp) rfl ?_ ?_) ?_
 ·refine a0a ?_ a0l
  exact a1h rfl
 ·refine a0E rfl ?_ (a0E rfl (a4r rfl (a1H _)) (a0E rfl (a4r rfl ⟨trivial,trivial⟩) a0T))
  exact a1y (a4x.cons (a0L rfl) (a4x.cons (c4K rfl) (a4x.cons (b1Y rfl trivial) (a4x.cons (b1Y rfl trivial) (a4x.cons (b1Y rfl trivial) a4x.nil)))))
 have h6:((img.map u8A).length:Int).tmod 64=0:=Decidable.not_not.1 h1
 rw [List.length_map,Int.tmod_eq_emod_of_nonneg (by omega)] at h6
 exact a0c ⟨_,rfl,.inl ⟨⟨by omega,by omega,by omega⟩,rfl,rfl⟩⟩
theorem c5O(X:Nat->Prop)(n:Int) :
  a0b (E0 X) 42 [.int .i64 n] [] (fun r H'=>(1<=n/\n<=1048576/\r=.ptr 0 0/\H'=a0K (Dv.fresh (List.replicate (n.toNat*64) 0)))\/(¬ (1<=n/\n<=1048576)/\r=.nilp/\H'=[])):=by
 refine Z0 Proofs.Tryz.func42 rfl Proofs.Tryz.ntmps42 (by kernel_rfl) rfl ?_
 refine a0u ?_
 refine a0m rfl ?_
 repeat' (first|(refine Qa rfl ?_;try ((refine Q1 ?_);refine QX rfl rfl ?_))|refine Qh ?_)
 refine a0u ?_
 refine a0u ?_
 refine a0m rfl ?_
 repeat' (first|(refine Qa rfl ?_;try ((first|refine Q0 ?_|refine Q2 rfl ?_|refine Q5 rfl ?_);refine QX rfl rfl ?_))|refine Qh ?_|refine Qi rfl ?_|refine Qy rfl rfl (fun _=>?_) (fun _=>?_))
 ·rename_i h1
  refine a1j rfl ?_
  refine a0u ?_
  refine a0m rfl ?_
  repeat' (first|(refine Qa rfl ?_;try ((refine Q1 ?_);refine QX rfl rfl ?_))|refine Qh ?_)
  exact a0c ⟨_,rfl,.inr ⟨fun hh=>by omega,rfl,rfl⟩⟩
 rename_i h1
 refine a0g rfl (fun h2=>?_) (fun h2=>?_)
 ·refine a0u ?_
  refine a0m rfl ?_
  repeat' (first|(refine Qa rfl ?_;try ((refine Q1 ?_);refine QX rfl rfl ?_))|refine Qh ?_)
  exact a0c ⟨_,rfl,.inr ⟨fun hh=>by omega,rfl,rfl⟩⟩
 refine a1t ?_
 refine a0u ?_
 refine a0m rfl ?_
 repeat' (refine Qa rfl ?_;try ((first|refine Q0 ?_|refine Q2 rfl ?_);refine QX rfl rfl ?_))
 have hw:IntKind.i64.wrap (n*64)=((n.toNat*64:Nat):Int):=by rw [a0r (by omega) (by omega)];omega
 refine b8e (n:=n.toNat*64) rfl rfl rfl rfl rfl rfl (.inr rfl) (.inr rfl) rfl rfl hw hw ?_ ?_ ?_
 ·show 1 * _<=_
  omega
 ·unfold maxLen;omega
 have hz:List.replicate (n.toNat*64) (c2j [AV.int .u8 0] false)=(List.replicate (n.toNat*64) (0:UInt8)).map u8A:=by rw [List.map_replicate];rfl
 refine nx0 ?_
 refine bs rfl ?_
 refine a1c (fun _=>rfl) rfl ?_
 have hl:=b6w X (List.replicate (n.toNat*64) 0) (by simp;omega)
 rw [<- hz] at hl
 refine a0b.mono hl ?_
 rintro r H' (⟨_,rfl,rfl⟩|⟨hno,_,_⟩)
 ·refine nx rfl rfl ?_
  repeat' (first|(refine Qa rfl ?_;try ((refine Q1 ?_);refine QX rfl rfl ?_))|refine Qh ?_)
  exact a0c ⟨_,rfl,.inl ⟨by omega,by omega,rfl,rfl⟩⟩
 exfalso
 apply hno
 unfold a6C
 rw [List.length_replicate]
 omega
end Go.Abs
