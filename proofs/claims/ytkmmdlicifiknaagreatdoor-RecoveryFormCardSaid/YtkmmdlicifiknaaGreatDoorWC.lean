/- The types of this seat, as the abstract values see them. Printed by a program. Joined texts, each with what its own name promises; no condition beyond those stated. -/
import Derived.Test.YtkmmdlicifiknaaGreatDoorWB
import Derived.Test.YtkmmdlicifiknaaGreatDoorProg
import Derived.KernelRfl
import Derived.Test.YtkmmdlicifiknaaGreatDoorWA
import Derived.Below
import Derived.Lib.AppendZeros
import Derived.Laws.BytesString
set_option maxHeartbeats 0
set_option maxRecDepth 100000
set_option linter.unusedVariables false
set_option linter.unusedSimpArgs false
namespace Go.Abs
def tj0:Ty:=⟨1,0,.other,(some [.any]),false⟩
def tj1:Ty:=⟨1,8,.fn,(some [.nilf]),false⟩
def tj2:Ty:=⟨1,8,(.int .i64),(some [.int .i64 0]),false⟩
def tj3:Ty:=⟨1,1,(.int .u8),(some [.int .u8 0]),false⟩
def tj4:Ty:=⟨4,24,(.struct [(0,2),(1,3),(2,4),(3,6)]),(some [.int .i64 0,.int .i64 0,.bool false,.int .u8 0]),true⟩
def tj5:Ty:=⟨1,16,.str,(some [.str []]),false⟩
def tj6:Ty:=⟨1,8,(.int .u64),(some [.int .u64 0]),false⟩
def tj7:Ty:=⟨2,24,(.struct [(0,9),(1,12)]),(some [.str [],.int .u64 0]),false⟩
def tj8:Ty:=⟨1,8,(.struct [(0,17)]),(some [.nilp]),false⟩
def tj9:Ty:=⟨1,4,(.int .i32),(some [.int .i32 0]),false⟩
def c9O:Ty:=⟨4,32,(.struct [(0,3),(1,3),(2,3),(3,3)]),(some [.int .i64 0,.int .i64 0,.int .i64 0,.int .i64 0]),true⟩
def c9P:Ty:=⟨14,128,(.struct [(0,3),(1,3),(2,3),(3,3),(4,3),(5,23),(9,23),(13,24)]),(some [.int .i64 0,.int .i64 0,.int .i64 0,.int .i64 0,.int .i64 0,.int .i64 0,.int .i64 0,.int .i64 0,.int .i64 0,.int .i64 0,.int .i64 0,.int .i64 0,.int .i64 0,.nils]),true⟩
def c9g:Ty:=⟨7,40,(.struct [(0,3),(1,3),(2,3),(3,3),(4,4),(5,4),(6,4)]),(some [.int .i64 0,.int .i64 0,.int .i64 0,.int .i64 0,.bool false,.bool false,.bool false]),true⟩
def c9h:Ty:=⟨20,208,(.struct [(0,26),(14,49),(15,3),(16,3),(17,3),(18,3),(19,28)]),(some [.int .i64 0,.int .i64 0,.int .i64 0,.int .i64 0,.int .i64 0,.int .i64 0,.int .i64 0,.int .i64 0,.int .i64 0,.int .i64 0,.int .i64 0,.int .i64 0,.int .i64 0,.nils,.nils,.int .i64 0,.int .i64 0,.int .i64 0,.int .i64 0,.nils]),true⟩
def c9Q:Ty:=⟨6,48,(.struct [(0,3),(1,3),(2,3),(3,3),(4,3),(5,3)]),(some [.int .i64 0,.int .i64 0,.int .i64 0,.int .i64 0,.int .i64 0,.int .i64 0]),true⟩
def c9R:Ty:=⟨10,80,(.struct [(0,61),(6,23)]),(some (List.replicate 10 (.int .i64 0))),true⟩
def c9S:Ty:=⟨5,40,(.struct [(0,3),(1,3),(2,3),(3,3),(4,4)]),(some [.int .i64 0,.int .i64 0,.int .i64 0,.int .i64 0,.bool false]),true⟩
def c9T:Ty:=⟨6,56,(.struct [(0,9),(1,67)]),(some [.str [],.int .i64 0,.int .i64 0,.int .i64 0,.int .i64 0,.bool false]),true⟩
def c9U:Ty:=⟨4,64,(.struct [(0,3),(1,29),(2,29),(3,3)]),(some [.int .i64 0,.nils,.nils,.int .i64 0]),true⟩
def c9V:Ty:=⟨17,168,(.struct [(0,26),(14,27),(15,3),(16,3)]),(some [.int .i64 0,.int .i64 0,.int .i64 0,.int .i64 0,.int .i64 0,.int .i64 0,.int .i64 0,.int .i64 0,.int .i64 0,.int .i64 0,.int .i64 0,.int .i64 0,.int .i64 0,.nils,.nils,.int .i64 0,.int .i64 0]),true⟩
def c9W:Ty:=⟨8,64,(.struct [(0,3),(1,3),(2,3),(3,3),(4,23)]),(some [.int .i64 0,.int .i64 0,.int .i64 0,.int .i64 0,.int .i64 0,.int .i64 0,.int .i64 0,.int .i64 0]),true⟩
def c9X:Ty:=⟨33,296,(.struct [(0,3),(1,3),(2,61),(8,87),(9,89),(17,26),(31,3),(32,5)]),(some [.int .i64 0,.int .i64 0,.int .i64 0,.int .i64 0,.int .i64 0,.int .i64 0,.int .i64 0,.int .i64 0,.nils,.int .i64 0,.int .i64 0,.int .i64 0,.int .i64 0,.int .i64 0,.int .i64 0,.int .i64 0,.int .i64 0,.int .i64 0,.int .i64 0,.int .i64 0,.int .i64 0,.int .i64 0,.int .i64 0,.int .i64 0,.int .i64 0,.int .i64 0,.int .i64 0,.int .i64 0,.int .i64 0,.int .i64 0,.nils,.int .i64 0,.int .u8 0]),true⟩
def c9Y:Ty:=⟨7,104,(.struct [(0,29),(1,29),(2,103),(3,4),(4,3),(5,4),(6,3)]),(some [.nils,.nils,.nils,.bool false,.int .i64 0,.bool false,.int .i64 0]),true⟩
def c9i:Ty:=⟨5,56,(.struct [(0,29),(1,110),(2,3),(3,3),(4,4)]),(some [.nils,.nilm,.int .i64 0,.int .i64 0,.bool false]),true⟩
def c9Z:Ty:=⟨6,80,(.struct [(0,3),(1,3),(2,72)]),(some [.int .i64 0,.int .i64 0,.int .i64 0,.nils,.nils,.int .i64 0]),true⟩
def c9j:Ty:=⟨2,32,(.struct [(0,3),(1,115)]),(some [.int .i64 0,.nils]),true⟩
def d0a:Ty:=⟨64,64,(.arr 64 5),(some (List.replicate 64 (.int .u8 0))),false⟩
def d0b:Ty:=⟨8,80,(.struct [(0,23),(4,3),(5,3),(6,29),(7,3)]),(some [.int .i64 0,.int .i64 0,.int .i64 0,.int .i64 0,.int .i64 0,.int .i64 0,.nils,.int .i64 0]),true⟩
def d0c:Ty:=⟨8,64,(.struct [(0,83),(1,61),(7,170)]),(some [.nilp,.int .i64 0,.int .i64 0,.int .i64 0,.int .i64 0,.int .i64 0,.int .i64 0,.nilp]),true⟩
def d0d:Ty:=⟨1,24,(.struct [(0,28)]),(some [.nils]),true⟩
def d0e:Ty:=⟨2,16,(.struct [(0,3),(1,3)]),(some [.int .i64 0,.int .i64 0]),true⟩
def d0f:Ty:=⟨2,32,(.struct [(0,3),(1,239)]),(some [.int .i64 0,.nils]),true⟩
def d0g:Ty:=⟨8,96,(.struct [(0,241),(2,241),(4,3),(5,3),(6,3),(7,3)]),(some [.int .i64 0,.nils,.int .i64 0,.nils,.int .i64 0,.int .i64 0,.int .i64 0,.int .i64 0]),true⟩
def d0h:Ty:=⟨7,64,(.struct [(0,3),(1,9),(2,67)]),(some [.int .i64 0,.str [],.int .i64 0,.int .i64 0,.int .i64 0,.int .i64 0,.bool false]),true⟩
def d0i:Ty:=⟨7,88,(.struct [(0,3),(1,118)]),(some [.int .i64 0,.int .i64 0,.int .i64 0,.int .i64 0,.nils,.nils,.int .i64 0]),true⟩
def d0j:Ty:=⟨2,32,(.struct [(0,29),(1,4)]),(some [.nils,.bool false]),true⟩
def d0k:Ty:=⟨4,40,(.struct [(0,17),(1,17),(2,17),(3,9)]),(some [.nilp,.nilp,.nilp,.str []]),false⟩
def d0l:Ty:=⟨0,0,(.struct [(0,322)]),(some []),false⟩
def d0m:Ty:=⟨11,48,(.struct [(0,12),(1,12),(2,213),(3,325),(4,5),(5,5),(6,326),(7,327),(8,328),(9,329),(10,330)]),(some [.int .u64 0,.int .u64 0,.int .u32 0,.int .u8 0,.int .u8 0,.int .u8 0,.int .u8 0,.nilf,.nilp,.int .i32 0,.int .i32 0]),false⟩
def ti0(t:Nat):Ty:=cond (Nat.blt t 7) (cond (Nat.blt t 2) (cond (Nat.blt t 1) tj0 tj1) (cond (Nat.blt t 4) tj2 (cond (Nat.blt t 5) ⟨1,1,.bool,(some [.bool false]),false⟩ tj3))) (cond (Nat.blt t 12) (cond (Nat.blt t 9) tj4 tj5) (cond (Nat.blt t 13) tj6 (cond (Nat.blt t 15) tj7 ⟨1,8,(.ptr 321),(some [.nilp]),false⟩)))
def ti1(t:Nat):Ty:=cond (Nat.blt t 24) (cond (Nat.blt t 20) (cond (Nat.blt t 18) (cond (Nat.blt t 17) ⟨1,8,(.ptr 324),(some [.nilp]),false⟩ ⟨1,8,(.ptr 332),(some [.nilp]),false⟩) tj8) (cond (Nat.blt t 22) (cond (Nat.blt t 21) ⟨1,16,.ifc,(some [.nili]),false⟩ tj9) c9O)) (cond (Nat.blt t 28) (cond (Nat.blt t 25) ⟨1,24,(.sl 23),(some [.nils]),false⟩ (cond (Nat.blt t 27) c9P ⟨1,24,(.sl 91),(some [.nils]),false⟩)) (cond (Nat.blt t 30) (cond (Nat.blt t 29) ⟨1,24,(.sl 69),(some [.nils]),false⟩ ⟨1,24,(.sl 5),(some [.nils]),false⟩) (cond (Nat.blt t 31) tj0 tj1)))
def ti2(t:Nat):Ty:=cond (Nat.blt t 40) (cond (Nat.blt t 35) (cond (Nat.blt t 33) tj1 (cond (Nat.blt t 34) ⟨1,8,(.ptr 112),(some [.nilp]),false⟩ tj1)) (cond (Nat.blt t 37) c9g (cond (Nat.blt t 38) tj2 (cond (Nat.blt t 39) tj0 tj1)))) (cond (Nat.blt t 42) (cond (Nat.blt t 41) c9g tj0) tj1)
def ti3(t:Nat):Ty:=cond (Nat.blt t 56) (cond (Nat.blt t 52) (cond (Nat.blt t 50) (cond (Nat.blt t 49) tj1 ⟨1,24,(.sl 63),(some [.nils]),false⟩) c9h) (cond (Nat.blt t 54) (cond (Nat.blt t 53) tj0 tj1) (cond (Nat.blt t 55) c9h tj0))) (cond (Nat.blt t 60) tj1 (cond (Nat.blt t 62) c9Q c9R))
def ti4(t:Nat):Ty:=cond (Nat.blt t 71) (cond (Nat.blt t 66) tj1 (cond (Nat.blt t 68) c9S (cond (Nat.blt t 70) c9T tj1))) (cond (Nat.blt t 75) (cond (Nat.blt t 73) c9U (cond (Nat.blt t 74) tj0 tj1)) (cond (Nat.blt t 77) c9V tj1))
def ti5(t:Nat):Ty:=cond (Nat.blt t 88) (cond (Nat.blt t 84) (cond (Nat.blt t 83) tj1 ⟨1,8,(.ptr 105),(some [.nilp]),false⟩) (cond (Nat.blt t 87) tj1 ⟨1,24,(.sl 72),(some [.nils]),false⟩)) (cond (Nat.blt t 92) (cond (Nat.blt t 90) c9W c9X) (cond (Nat.blt t 94) (cond (Nat.blt t 93) tj1 ⟨1,8,(.ptr 174),(some [.nilp]),false⟩) (cond (Nat.blt t 95) tj0 tj1)))
def ti6(t:Nat):Ty:=cond (Nat.blt t 104) (cond (Nat.blt t 97) tj0 (cond (Nat.blt t 103) tj1 ⟨1,24,(.sl 4),(some [.nils]),false⟩)) (cond (Nat.blt t 106) c9Y (cond (Nat.blt t 110) tj1 (cond (Nat.blt t 111) ⟨1,8,(.map 3 161),(some [.nilm]),false⟩ c9i)))
def ti7(t:Nat):Ty:=cond (Nat.blt t 120) (cond (Nat.blt t 116) (cond (Nat.blt t 114) (cond (Nat.blt t 113) c9i tj0) (cond (Nat.blt t 115) tj1 ⟨1,24,(.sl 118),(some [.nils]),false⟩)) (cond (Nat.blt t 117) tj1 (cond (Nat.blt t 119) c9Z tj0))) (cond (Nat.blt t 126) tj1 (cond (Nat.blt t 127) tj0 tj1))
def ti8(t:Nat):Ty:=cond (Nat.blt t 136) (cond (Nat.blt t 132) tj1 (cond (Nat.blt t 133) ⟨1,24,(.sl 89),(some [.nils]),false⟩ tj1)) (cond (Nat.blt t 139) (cond (Nat.blt t 137) ⟨1,24,(.sl 138),(some [.nils]),false⟩ c9j) (cond (Nat.blt t 142) tj1 (cond (Nat.blt t 143) ⟨1,24,(.sl 143),(some [.nils]),false⟩ c9j)))
def ti9(t:Nat):Ty:=cond (Nat.blt t 151) (cond (Nat.blt t 147) (cond (Nat.blt t 146) tj1 ⟨1,24,(.sl 3),(some [.nils]),false⟩) (cond (Nat.blt t 150) tj1 tj6)) (cond (Nat.blt t 155) tj1 (cond (Nat.blt t 156) ⟨1,24,(.sl 219),(some [.nils]),false⟩ tj1))
def c9D(t:Nat):Ty:=cond (Nat.blt t 170) (cond (Nat.blt t 162) d0a tj1) (cond (Nat.blt t 173) (cond (Nat.blt t 171) ⟨1,8,(.ptr 172),(some [.nilp]),false⟩ d0b) (cond (Nat.blt t 175) d0c tj1))
def c9E(t:Nat):Ty:=cond (Nat.blt t 183) (cond (Nat.blt t 178) (cond (Nat.blt t 177) tj1 tj6) (cond (Nat.blt t 182) tj1 tj0)) (cond (Nat.blt t 187) tj1 (cond (Nat.blt t 188) tj0 tj1))
def c9F(t:Nat):Ty:=cond (Nat.blt t 201) (cond (Nat.blt t 193) tj0 tj1) (cond (Nat.blt t 202) ⟨1,8,(.ptr 244),(some [.nilp]),false⟩ tj1)
def c9G(t:Nat):Ty:=cond (Nat.blt t 214) (cond (Nat.blt t 211) (cond (Nat.blt t 209) ⟨1,8,(.ptr 210),(some [.nilp]),false⟩ d0d) (cond (Nat.blt t 212) tj0 (cond (Nat.blt t 213) tj1 ⟨1,4,(.int .u32),(some [.int .u32 0]),false⟩))) (cond (Nat.blt t 218) tj1 (cond (Nat.blt t 221) (cond (Nat.blt t 220) d0e tj1) (cond (Nat.blt t 222) ⟨1,24,(.sl 29),(some [.nils]),false⟩ (cond (Nat.blt t 223) tj0 tj1))))
def c9H(t:Nat):Ty:=cond (Nat.blt t 228) (cond (Nat.blt t 226) (cond (Nat.blt t 225) tj1 tj0) (cond (Nat.blt t 227) tj1 ⟨1,8,(.ptr 268),(some [.nilp]),false⟩)) (cond (Nat.blt t 239) tj1 ⟨1,24,(.sl 251),(some [.nils]),false⟩)
def c9I(t:Nat):Ty:=cond (Nat.blt t 248) (cond (Nat.blt t 243) (cond (Nat.blt t 242) d0f tj1) (cond (Nat.blt t 245) d0g (cond (Nat.blt t 246) tj0 tj1))) (cond (Nat.blt t 252) (cond (Nat.blt t 250) (cond (Nat.blt t 249) ⟨1,8,(.map 9 67),(some [.nilm]),false⟩ ⟨1,24,(.sl 239),(some [.nils]),false⟩) d0h) (cond (Nat.blt t 253) ⟨1,24,(.sl 9),(some [.nils]),false⟩ tj1))
def c9J(t:Nat):Ty:=cond (Nat.blt t 262) (cond (Nat.blt t 259) tj1 (cond (Nat.blt t 260) ⟨1,24,(.sl 261),(some [.nils]),false⟩ d0i)) (cond (Nat.blt t 267) tj1 (cond (Nat.blt t 269) d0j tj1))
def c9K(t:Nat):Ty:=cond (Nat.blt t 280) (cond (Nat.blt t 276) (cond (Nat.blt t 275) tj1 ⟨1,8,(.ptr 251),(some [.nilp]),false⟩) tj1) (cond (Nat.blt t 282) (cond (Nat.blt t 281) tj2 tj0) tj1)
def c9L(t:Nat):Ty:=cond (Nat.blt t 298) tj1 (cond (Nat.blt t 302) (cond (Nat.blt t 299) tj6 tj1) (cond (Nat.blt t 303) ⟨1,8,(.ptr 3),(some [.nilp]),false⟩ tj1))
def c9M(t:Nat):Ty:=cond (Nat.blt t 312) (cond (Nat.blt t 311) tj1 ⟨16,64,(.arr 16 213),(some (List.replicate 16 (.int .u32 0))),false⟩) (cond (Nat.blt t 314) (cond (Nat.blt t 313) ⟨1,8,(.ptr 298),(some [.nilp]),false⟩ tj0) tj1)
def c9N(t:Nat):Ty:=cond (Nat.blt t 327) (cond (Nat.blt t 323) (cond (Nat.blt t 322) d0k ⟨0,0,(.arr 0 16),(some []),false⟩) (cond (Nat.blt t 325) d0l tj3)) (cond (Nat.blt t 329) (cond (Nat.blt t 328) tj1 ⟨1,8,(.ptr 5),(some [.nilp]),false⟩) (cond (Nat.blt t 331) tj9 (cond (Nat.blt t 333) d0m ⟨1,8,.other,(some [.nilp]),false⟩)))
def tiT(t:Nat):Ty:=cond (Nat.blt t 160) (cond (Nat.blt t 80) (cond (Nat.blt t 32) (cond (Nat.blt t 16) (ti0 t) (ti1 t)) (cond (Nat.blt t 48) (ti2 t) (cond (Nat.blt t 64) (ti3 t) (ti4 t)))) (cond (Nat.blt t 112) (cond (Nat.blt t 96) (ti5 t) (ti6 t)) (cond (Nat.blt t 128) (ti7 t) (cond (Nat.blt t 144) (ti8 t) (ti9 t))))) (cond (Nat.blt t 240) (cond (Nat.blt t 192) (cond (Nat.blt t 176) (c9D t) (c9E t)) (cond (Nat.blt t 208) (c9F t) (cond (Nat.blt t 224) (c9G t) (c9H t)))) (cond (Nat.blt t 288) (cond (Nat.blt t 256) (c9I t) (cond (Nat.blt t 272) (c9J t) (c9K t))) (cond (Nat.blt t 304) (c9L t) (cond (Nat.blt t 320) (c9M t) (c9N t)))))
theorem c5w:(List.range 334).map (c8t Proofs.Tryz.prog)=(List.range 334).map (fun t=>some (tiT t)):=by kernel_rfl
theorem mixed:Proofs.Tryz.prog.follows .mixedOrders=true:=by kernel_rfl
theorem c7N(t:Nat)(ht:t<334):c8t Proofs.Tryz.prog t=some (tiT t):=by
 have h:=congrArg (fun l:List (Option Ty)=>l[t]?) c5w
 simp only [List.getElem?_map,List.getElem?_range ht,Option.map_some,Option.some.injEq] at h
 exact h
end Go.Abs
namespace Go.Abs
def Up{α:Type}(n:Nat):Result α->Prop
 | .ok _ w=>n<=w.drawn
 | .halt _ w=>n<=w.drawn
theorem b5y{p:Program}{w:World}{b:Addr}{u:TypeId}{k:Addr}{v:Value}{at_:Bool}{r:World × List Addr}(h:w.viewStore p b u k v at_=.ok r):r.1.drawn=w.drawn:=by
 unfold World.viewStore at h
 simp only [bind,Except.bind,pure,Except.pure,throw,throwThe,MonadExceptOf.throw] at h
 repeat' (split at h)
 all_goals first
  | (cases h;rfl)
  | cases h
theorem a7O{α:Type}:∀(a:Ask α) (w:World),w.drawn<=(w.ask a).2.drawn
 | .done a,w=>Nat.le_refl _
 | .ask q r k,w=>by
  unfold World.ask
  dsimp only
  split
  ·exact a7O _ _
  ·exact Nat.le_trans (Nat.le_succ _) (a7O (k _) { w with drawn:=w.drawn+1 })
theorem b9d(w:World)(c:Sys):w.drawn<=(w.sys c).2.drawn:=by
 have h:=a7O (Kernel.perform c w.os) w
 unfold World.sys
 split
 ·exact Nat.le_refl _
 ·rename_i h2;rw [h2] at h;exact h
theorem b0V(w:World)(a:Addr)(n:Nat):(w.freeze a n).drawn=w.drawn:=by
 unfold World.freeze;split<;>rfl
theorem b6C{p:Program}{w:World}{a:Addr}{v:Value}{at_:Bool}{w':World}{l:List Addr}(h:w.farStore p a v at_=.ok (w',l)):w'.drawn=w.drawn:=by
 unfold World.farStore at h
 split at h
 ·split at h
  ·rename_i h3
   have:=b5y h3
   cases h
   exact this
  ·cases h
 ·cases h
theorem c1O{α:Type}{p:Program}{n:Nat}{m:Mode}{a:Addr}{v:Value}{k:Sem α}(ih:∀w:World,n<=w.drawn->Up n (k.run p w))(w:World)(h:n<=w.drawn):Up n ((Sem.store m a v k).run p w):=by
 have go:Up n (match w.cell? a with
  | some _=>if w.frozen? a then .halt (.unsupported (.unsafePointer "a write to bytes that a string shares")) w else k.run p (w.setCell a v)
  | none=>match w.farStore p a v (m == .atomic) with
   | .ok (w,_)=>k.run p w
   | .error h=>.halt h w):=by
  split
  ·split
   ·exact h
   ·exact ih _ h
  split
  ·rename_i h2
   exact ih _ (by rw [b6C h2];exact h)
  ·exact h
 cases v<;>first|exact h|exact go
theorem c2R{α:Type}(p:Program){n:Nat}(s:Sem α):∀(w:World),n<=w.drawn->Up n (s.run p w):=by
 induction s with
 | pure a=>intro w h;exact h
 | load m a k ih =>
  intro w h
  simp only [Sem.run]
  split
  ·exact ih _ w h
  ·split
   ·exact ih _ w h
   ·exact h
 | store m a v k ih=>exact c1O ih
 | new o k ih=>intro w h;exact ih _ _ h
 | shape r k ih=>intro w h;exact ih _ _ h
 | freeze a m k ih=>intro w h;exact ih _ (by rw [b0V];exact h)
 | frozen a k ih=>intro w h;exact ih _ _ h
 | getObj r k ih =>
  intro w h
  simp only [Sem.run]
  split
  ·exact h
  ·exact ih _ _ h
  ·exact h
 | setObj r o k ih =>
  intro w h
  simp only [Sem.run]
  split
  ·exact h
  ·exact ih _ h
  ·exact h
 | choose q k ih =>
  intro w h
  simp only [Sem.run]
  split
  ·exact ih _ _ h
  ·exact ih _ _ (Nat.le_trans h (Nat.le_succ _))
 | sys c k ih=>intro w h;exact ih _ _ (Nat.le_trans h (b9d w c))
 | program k ih=>intro w h;exact ih _ _ h
 | mark m k ih=>intro w h;exact ih _ h
 | halt x=>intro w h;exact h
/-! Steps of the machine -/
def GUp(n:Nat):GStep->Prop
 | .go _ w _|.comm _ _ _ _ w _|.spawn _ _ w _|.count _ w _|.timer _ _ w _|.alone _ _ w _|.newcoro _ _ _ w _|.coroswitch _ _ _ w _|.collect _ w _|.watch _ w _=>n<=w.drawn
 | .ended _ _ _=>True
def SUp(n:Nat):Stepped->Prop
 | .next m=>n<=m.world.drawn
 | .ended _ _=>True
@[simp] theorem a2U{n:Nat}{es:Array Event}{s:GStep}:GUp n (GStep.after es s)=GUp n s:=by cases s<;>rfl
theorem a1w{α:Type}{p:Program}{n:Nat}{s:Sem α}{w w':World}{a:α}(h:s.run p w=.ok a w')(hn:n<=w.drawn):n<=w'.drawn:=by
 have:=c2R p s w hn;rw [h] at this;exact this
theorem b4B{α:Type}{p:Program}{n:Nat}{s:Sem α}{hp:Array Obj}{tp:Nat->Question->Nat}{dr:Nat}{os:Os}{out:Array (Nat × ByteArray)}{w':World}{a:α}(h:s.run p ⟨hp,tp,dr,os,out⟩=.ok a w')(hn:n<=dr):n<=w'.drawn:=a1w h hn
theorem a3u{α:Type}{p:Program}{n:Nat}{s:Sem α}{w w':World}{a:Halt}(h:s.run p w=.halt a w')(hn:n<=w.drawn):n<=w'.drawn:=by
 have:=c2R p s w hn;rw [h] at this;exact this
theorem a3V{p:Program}{main:Bool}{fr:Frame}{cs:List Frame}{d:Option Dying}{v:Value}{n:Nat}{w:World}(h:n<=w.drawn):GUp n (doReturn p main fr cs d v w):=by
 unfold doReturn
 repeat' split
 all_goals first|exact h|trivial
theorem c0m{fr:Frame}{l:List ByteArray}{m:String}{b:Bool}{n:Nat}{w:World}(h:n<=w.drawn):GUp n (dieOf fr l m b w):=h
theorem a3X{fr:Frame}{m:String}{n:Nat}{w:World}(h:n<=w.drawn):GUp n (endThrow fr m w):=h
theorem a5i{p:Program}{fr:Frame}{v:Value}{n:Nat}{w:World}(h:n<=w.drawn):GUp n (endPrinting p fr v w):=by
 unfold endPrinting
 dsimp only
 split
 ·exact a3X h
 ·trivial
theorem b4T{w:World}{fd:Nat}{t:ByteArray}{o:Outcome}{n:Nat}:GUp n (endWith w fd t o):=by
 unfold endWith
 dsimp only
 repeat' split
 all_goals trivial
theorem a7Z{p:Program}{fr:Frame}{cs:List Frame}{d:Option Dying}{m:String}{n:Nat}{w:World}(h:n<=w.drawn):GUp n (endFatal p fr cs d m w):=by
 unfold endFatal
 dsimp only
 split
 ·rename_i h1;exact c0m (a1w h1 h)
 ·trivial
 ·trivial
theorem b5A{p:Program}{fr:Frame}{d:Dying}{f:Fatal}{n:Nat}{w:World}(h:n<=w.drawn):GUp n (writeOn p fr d f w):=by
 unfold writeOn
 simp only [Sem.runT_eq]
 split
 ·trivial
 split
 ·rename_i h1;simp only [Prod.mk.injEq] at h1;exact a1w h1.1 h
 ·rename_i h1;simp only [Prod.mk.injEq] at h1;exact a3u h1.1 h
 ·trivial
 ·trivial
theorem c6c{p:Program}{fr:Frame}{d:Dying}{n:Nat}{w:World}(h:n<=w.drawn):GUp n (die p fr d w):=by
 unfold die
 simp only [Sem.runT_eq]
 repeat' split
 all_goals first
  | exact b5A h
  | exact b4T
  | exact h
  | trivial
  | (simp only [a2U];repeat' split)
  | skip
 all_goals first
  | trivial
  | exact a1w ‹_› h
  | exact a5i (a3u ‹_› h)
theorem c0p{p:Program}{fr:Frame}{cs:List Frame}{d:Option Dying}{g:Nat}{n:Nat}{w:World}(h:n<=w.drawn):GUp n (early p fr cs d g w):=by
 unfold early
 dsimp only
 repeat' split
 all_goals first
  | exact h
  | trivial
  | exact a1w (by assumption) h
  | (simp only [GUp];exact a1w (by assumption) h)
theorem a7R{p:Program}{fr:Frame}{cs:List Frame}{d:Option Dying}{x:Deferred}{n:Nat}{w:World}(h:n<=w.drawn):GUp n (callDeferred p fr cs d x w):=by
 unfold callDeferred
 simp only [Sem.runT_eq]
 generalize ((match x.target with|.nil=>true|_=>false)&&match fr.mode with|.panicking _=>true|_=>false)=q
 cases q
 case true=>trivial
 simp only [Bool.false_eq_true,if_false,a2U]
 repeat' split
 all_goals first
  | trivial
  | exact a1w (by assumption) h
  | exact a3u (by assumption) h
  | exact a7Z (a3u (by assumption) h)
  | exact a3X (a3u (by assumption) h)
theorem b9m{p:Program}{main:Bool}{fr:Frame}{cs:List Frame}{d:Option Dying}{n:Nat}{w:World}(h:n<=w.drawn):GUp n (unwind p main fr cs d w):=by
 unfold unwind
 simp only [Sem.runT_eq]
 repeat' split
 all_goals first
  | exact h
  | trivial
  | exact a7R h
  | exact a3V h
  | exact a5i h
  | exact a1w (by assumption) h
  | (simp only [a2U];repeat' split)
 all_goals first
  | trivial
  | exact a1w (by assumption) h
  | exact a3V (a1w (by assumption) h)
theorem a7s{p:Program}{fr:Frame}{cs:List Frame}{d:Option Dying}{s:Sem Next}{l:Bool}{n:Nat}{w:World}(h:n<=w.drawn):GUp n (stepG.apply p l fr cs d s w):=by
 unfold stepG.apply
 have e:(if l=true then s.runT p w #[] else (s.run p w,#[]))=(s.run p w,if l=true then s.events p w #[] else #[]):=by cases l<;>simp
 simp only [e,a2U]
 repeat' split
 all_goals first
  | trivial
  | exact a1w (by assumption) h
  | exact a3u (by assumption) h
  | exact a7Z (a3u (by assumption) h)
  | exact a3X (a1w (by assumption) h)
  | exact a3X (a3u (by assumption) h)
  | exact c0p (a3u (by assumption) h)
theorem c4n{p:Program}{fr:Frame}{cs:List Frame}{d:Option Dying}{l:Bool}{n:Nat}{w:World}(h:n<=w.drawn):GUp n (stepG.oper p l fr cs d w):=by
 unfold stepG.oper
 repeat' split
 all_goals first
  | trivial
  | exact a7s h
theorem a9F{α:Type}{n:Nat}{o:Option α}{a:GStep}{f:α->GStep}(ha:GUp n a)(hf:∀x,GUp n (f x)):GUp n (o.elim a f):=by
 cases o with
 | none=>exact ha
 | some x=>exact hf x
theorem c3D{p:Program}{main:Bool}{fr:Frame}{cs:List Frame}{d:Option Dying}{l:Bool}{n:Nat}{w:World}(h:n<=w.drawn):GUp n (stepG.exec p main l fr cs d w):=by
 unfold stepG.exec
 dsimp only
 split
 all_goals first
  | exact h
  | trivial
  | exact a7s h
  | exact a9F trivial fun _=>a7s h
  | skip
 all_goals try simp only [Sem.runT_eq,a2U]
 all_goals (repeat' split)
 all_goals first
  | exact h
  | trivial
  | exact a7s (a1w (by assumption) h)
  | exact a1w (by assumption) h
  | exact a3u (by assumption) h
  | exact c4n h
  | (rw [a2U];exact a3V (a1w (by assumption) h))
  | (rw [a2U];trivial)
  | (rw [a2U];done)
  | exact a9F trivial fun _=>h
  | exact a9F h fun _=>h
  | exact a9F (by rw [a2U];first|trivial|exact a3V (a1w (by assumption) h)) fun _=>h
theorem c1M{p:Program}{main:Bool}{g:Goroutine}{l:Bool}{n:Nat}{w:World}(h:n<=w.drawn):GUp n (stepG p main g w l):=by
 unfold stepG
 dsimp only
 split
 ·exact c6c h
 ·exact c3D h
 ·exact b9m h
theorem a8P{p:Program}{rest:Rest}{gs:Array Goroutine}{i:Nat}{g:Goroutine}{cases:Array CommCase}{b:Bool}{sh:CommShape}{n:Nat}{w:World}(h:n<=w.drawn):SUp n (communicate p rest gs i g cases b sh w).1:=by
 have hw:∀w',waitingAt rest cases w=some w'->w'.drawn=w.drawn:=fun w' h1=>by
  unfold waitingAt at h1
  repeat' split at h1
  all_goals (cases h1<;>rfl)
 unfold communicate
 dsimp only
 repeat' split
 all_goals first
  | exact h
  | trivial
  | (have:=hw _ (by assumption);simp only [SUp];omega)
  | exact a1w (by assumption) h
  | exact a3u (by assumption) (a1w (by assumption) h)
  | exact a1w (by assumption) (a1w (by assumption) h)
  | (simp only [SUp];exact a1w (by assumption) h)
  | (simp only [SUp];exact a1w (by assumption) (a1w (by assumption) h))
theorem b2f(w:World)(c:Nat):(drain w c).2.drawn=w.drawn:=by
 unfold drain;split<;>rfl
theorem b7n{p:Program}{gs:Array Goroutine}{rest:Rest}{n:Nat}{w:World}(h:n<=w.drawn):SUp n (look p gs rest w):=by
 unfold look
 dsimp only
 repeat' split
 all_goals first
  | trivial
  | (simp only [SUp];exact a1w (by assumption) h)
theorem c1C{p:Program}{m:Machine}{k n:Nat}(h:n<=m.world.drawn):SUp n (serve p m k):=by
 unfold serve
 dsimp only
 repeat' split
 all_goals first
  | trivial
  | exact h
theorem a7a{m:Machine}{k:Nat}{t:Timer}{a b:Nat}:(retime m k t a b).2.world.drawn=m.world.drawn:=by
 unfold retime
 dsimp only
 split
 ·exact b2f _ _
 ·rfl
theorem b5x{m m':Machine}{op:TimerOp}{v:Value}(h:timerOp m op=.ok (v,m')):m'.world.drawn=m.world.drawn:=by
 unfold timerOp at h
 split at h
 ·repeat' split at h
  all_goals (cases h<;>rfl)
 ·unfold timerOp.named at h
  split at h
  ·have e:=congrArg (fun r=>match r with|Except.ok x=>x.2.world.drawn|.error _=>0) h
   exact e.symm.trans a7a
  ·cases h
 ·split at h
  ·unfold timerOp.named at h
   split at h
   ·rename_i m1 h1 _ _ _
    have e:=congrArg (fun r=>match r with|Except.ok x=>x.2.world.drawn|.error _=>0) h
    refine e.symm.trans (a7a.trans ?_)
    unfold timerOp.opened at h1
    repeat' split at h1
    all_goals (cases h1<;>rfl)
   ·cases h
  ·cases h
 ·cases h;rfl
theorem c5e{p:Program}{m:Machine}{i:Nat}{l:Bool}{n:Nat}(h:n<=m.world.drawn):SUp n (runT p m i l).1:=by
 unfold runT
 dsimp only
 generalize m.gs.swapAt! i { (default:Goroutine) with status:=.finished }=x
 obtain ⟨g,gs⟩:=x
 have hs:=c1M (p:=p) (main:=i == 0) (g:=g) (l:=l) h
 dsimp only
 generalize stepG p (i == 0) g m.world l=s at hs ⊢
 cases s
 case timer g op w es =>
  dsimp only
  repeat' split
  all_goals first
   | trivial
   | exact hs
   | (have:=b5x (by assumption);simp only [SUp];simp only [GUp] at hs;dsimp only at this;omega)
   | (rename_i h1;unfold endThrow dieOf at h1;cases h1;exact hs)
 case coroswitch g c ex w es =>
  dsimp only
  repeat' split
  all_goals first
   | trivial
   | exact hs
   | (rename_i h1;unfold endThrow dieOf at h1;cases h1;exact hs)
 all_goals dsimp only
 all_goals first
  | exact hs
  | trivial
  | exact a8P hs
  | exact b7n hs
  | (split<;>first|exact hs|trivial)
def MUp(n:Nat):Move->Prop
 | .goroutine m _=>n<=m.world.drawn
 | .machine s _=>SUp n s
theorem a9u{p:Program}{m:Machine}{n:Nat}(h:n<=m.world.drawn):MUp n (askOn p m):=by
 unfold askOn
 dsimp only
 repeat' split
 all_goals first
  | trivial
  | exact h
  | exact c1C (by simp only;exact a1w (by assumption) h)
  | exact a1w (by assumption) h
  | exact a1w (by assumption) (a1w (by assumption) h)
  | exact a1w (by assumption) (a1w (by assumption) (a1w (by assumption) h))
  | exact a1w (by assumption) (a1w (by assumption) (a1w (by assumption) (a1w (by assumption) h)))
  | skip
 all_goals simp only [MUp,SUp,Machine.advanceTo] at *
 all_goals first
  | exact a1w (by assumption) h
  | exact a1w (by assumption) (a1w (by assumption) h)
  | exact b4B (by assumption) (a1w (by assumption) (a1w (by assumption) h))
  | exact a1w (by assumption) (b4B (by assumption) (a1w (by assumption) (a1w (by assumption) h)))
  | exact b4B (by assumption) (a1w (by assumption) h)
  | exact a1w (by assumption) (b4B (by assumption) (a1w (by assumption) h))
theorem c5W{p:Program}{m:Machine}{n:Nat}(h:n<=m.world.drawn):MUp n (ask p m):=by
 unfold ask
 split
 ·split
  ·trivial
  ·have hk:=b7n (p:=p) (gs:=m.gs) (rest:=m.rest) (a1w (by assumption) h)
   split
   ·rename_i h1;rw [h1] at hk;exact a9u hk
   ·exact hk
  ·exact a9u (a1w (by assumption) h)
 ·exact a9u h
theorem c4a{p:Program}{m:Machine}{n:Nat}(h:n<=m.world.drawn):MUp n (move p m):=by
 unfold move
 repeat' split
 all_goals first
  | exact h
  | trivial
  | exact c5W h
theorem c5s{p:Program}{m:Machine}{n:Nat}(h:n<=m.world.drawn):SUp n (step p m):=by
 unfold step stepT
 have h1:=c4a (p:=p) h
 split
 ·rename_i h2;rw [h2] at h1;exact c5e h1
 ·rename_i h2;rw [h2] at h1;exact h1
theorem b8z{p:Program}{n:Nat}:∀(k:Nat) (m:Machine),n<=m.world.drawn->SUp n (runN p k m)
 | 0,m,h=>h
 | k+1,m,h=>by
  have h1:=c5s (p:=p) h
  unfold runN
  split
  ·rename_i h2;rw [h2] at h1;exact b8z k _ h1
  ·rename_i h2;exact h1
theorem a8G{p:Program}{m m':Machine}(h:Steps p m m'):m.world.drawn<=m'.world.drawn:=by
 obtain ⟨k,hk⟩:=h
 have h1:=b8z (p:=p) k m (Nat.le_refl _)
 rw [hk] at h1
 exact h1
theorem Calls.drawn{p:Program}{f:FuncId}{args:Array Value}{w:World}{R:Ending->World->Prop}(h:Calls p f args w R):Calls p f args w fun e w'=>R e w'/\(e≠.outgrown->w.drawn<=w'.drawn):=fun cs=>by
 obtain ⟨e,w',fr,h1,h2,h3,h4⟩:=h cs
 refine ⟨e,w',fr,⟨h1,fun he=>?_⟩,h2,h3,h4⟩
 cases e with
 | returned v=>exact a8G h2
 | panicked c=>exact a8G h2
 | outgrown=>exact absurd rfl he
end Go.Abs
namespace Go.Abs
mutual
def b9B:AV->Bool
 | .any|.int _ _|.bool _|.str _|.nilp|.nils|.nilm|.nilf|.nili|.ptr _ _|.pe _ _ _|.own _ _ _|.mp _=>true
 | .agg cs=>a5B cs
 | .tup cs=>a5B cs
 | _=>false
def a5B:List AV->Bool
 | []=>true
 | x::xs=>b9B x&&a5B xs
end
def a7n:AO->Bool
 | .cells cs _=>a5B cs
 | .arr cs _=>a5B cs
 | .map es=>a5B (es.map (·.1))&&a5B (es.map (·.2))
 | .itr _ _=>true
def a6x(h:Hp):Bool:=h.all fun o=>match o with
 | none=>true
 | some o=>a7n o
theorem a2h{α:Type}{f:α->AV}(h:∀x,b9B (f x)=true):∀l:List α,a5B (l.map f)=true
 | []=>rfl
 | x::l=>by simp [a5B,h x,a2h h l]
section
variable{sz sz2:Cx}{m m':Mu}{w:World}
theorem a7N{k id:Nat}{x:MS}(hk:m.length=k)(h:id<m'.length)(hx:(m++m')[id+k]?=some x):m'[id]?=some x:=by
 rw [List.getElem?_append_right (by omega)] at hx
 have:id+k - m.length=id:=by omega
 rwa [this] at hx
theorem Own.shift{A:Option Addr}{c id lo k:Nat}(hz:sz2.sz=sz.sz)(hk:m.length=k)(h:Own sz m' w A c id lo):Own sz2 (m++m') w A c (id+k) lo :=
 ⟨by simp;have:=h.1;omega,fun hx=>h.2.1 (a7N hk h.1 hx),fun b hb=>by rw [hz];exact h.2.2 b (a7N hk h.1 hb)⟩
theorem b9v.shift{a:Addr}{id i off k:Nat}(hz:sz2.sz=sz.sz)(hk:m.length=k)(h:b9v sz m' w a id i off):b9v sz2 (m++m') w a (id+k) i off :=
 ⟨by simp;have:=h.1;omega,fun b hb=>by rw [hz];exact h.2 b (a7N hk h.1 hb)⟩
mutual
theorem Rel.shift{k:Nat}(hz:sz2.sz=sz.sz)(hk:m.length=k):∀(x:AV) {v:Value},b9B x=true->Rel sz m' w x v->Rel sz2 (m++m') w (rnA (·+k) x) v
 | .any,_,_,_=>by simp [rnA,Rel]
 | .int _ _,_,_,h|.bool _,_,_,h|.str _,_,_,h|.nilp,_,_,h|.nils,_,_,h|.nilm,_,_,h|.nilf,_,_,h|.nili,_,_,h=>by simpa [Rel,rnA] using h
 | .ptr id off,_,_,h=>by
  simp only [Rel,rnA] at h ⊢
  obtain ⟨a,h1,h2,h3⟩:=h
  exact ⟨a,h1,by simp;omega,fun b hb=>h3 b (a7N hk h2 hb)⟩
 | .pe id i off,_,_,h=>by
  simp only [Rel,rnA] at h ⊢
  obtain ⟨a,h1,h2⟩:=h
  exact ⟨a,h1,h2.shift hz hk⟩
 | .own id lo n,_,_,h=>by
  simp only [Rel,rnA] at h ⊢
  obtain ⟨a,c,h1,h2,h3,h4⟩:=h
  exact ⟨a,c,h1,h2,h3,h4.shift hz hk⟩
 | .mp id,_,_,h=>by
  simp only [Rel,rnA] at h ⊢
  obtain ⟨r,h1,h2,h3⟩:=h
  exact ⟨r,h1,by simp;omega,fun b hb=>h3 b (a7N hk h2 hb)⟩
 | .agg cs,_,hs,h=>by
  simp only [Rel,rnA] at h ⊢;simp only [b9B] at hs
  obtain ⟨us,h1,h2⟩:=h
  exact ⟨us,h1,RelL.shift hz hk cs hs h2⟩
 | .tup cs,_,hs,h=>by
  simp only [Rel,rnA] at h ⊢;simp only [b9B] at hs
  obtain ⟨us,h1,h2⟩:=h
  exact ⟨us,h1,RelL.shift hz hk cs hs h2⟩
 | .fp _,_,hs,_|.sl _ _,_,hs,_|.clo _ _ _,_,hs,_|.ifc _ _,_,hs,_|.gp _ _,_,hs,_=>by simp [b9B] at hs
theorem RelL.shift{k:Nat}(hz:sz2.sz=sz.sz)(hk:m.length=k):∀(xs:List AV) {vs:List Value},a5B xs=true->RelL sz m' w xs vs->RelL sz2 (m++m') w (rnL (·+k) xs) vs
 | [],_,_,h=>by simpa [RelL,rnL] using h
 | x::xs,_,hs,h=>by
  simp only [RelL,rnL] at h ⊢;simp only [a5B,Bool.and_eq_true] at hs
  obtain ⟨u,r,h1,h2,h3⟩:=h
  exact ⟨u,r,h1,Rel.shift hz hk x hs.1 h2,RelL.shift hz hk xs hs.2 h3⟩
end
theorem OB.shift{k:Nat}(hz:sz2.sz=sz.sz)(hk:m.length=k){o:AO}{x:MS}(hs:a7n o=true)(h:OB sz m' w o x):OB sz2 (m++m') w (rnO (·+k) o) x:=by
 cases x with
 | dead=>cases o<;>exact h.elim
 | nil =>
  cases o with
  | cells cs e=>exact h.elim
  | map es=>exact h.elim
  | itr s p=>exact h.elim
  | arr es e =>
   simp only [OB] at h
   subst h
   rfl
 | blk b =>
  cases o with
  | cells cs e =>
   obtain ⟨us,h2,h3⟩:=h
   exact ⟨us,h2,RelL.shift hz hk _ hs h3⟩
  | arr es e =>
   obtain ⟨us,vs,h2,h3,h4,h5⟩:=h
   exact ⟨us,vs,h2,RelL.shift hz hk _ hs h3,by rw [hz];exact h4,h5⟩
  | map es =>
   obtain ⟨us,clock,h3,h4,h5,h6,h7⟩:=h
   simp only [a7n,Bool.and_eq_true] at hs
   refine ⟨us,clock,h3,h4,h5,?_,?_⟩
   ·show RelL _ _ _ ((_:List (AV × AV)).map (·.1)) _
    rw [b2N];exact RelL.shift hz hk _ hs.1 h6
   ·show RelL _ _ _ ((_:List (AV × AV)).map (·.2)) _
    rw [b2O];exact RelL.shift hz hk _ hs.2 h7
  | itr s p=>exact h
end
theorem a1H{E:Env}{f:FuncId}{args args':List AV}{P:AV->Hp->Prop}{H:Hp}(h:∀X,a0b (E.wX X) f args' [] P)(hs:∀r h',P r h'->b9B r=true/\a6x h'=true)(hb:Bor E H args args') :
  a0b E f args H (fun r H'=>∃r0 h',P r0 h'/\r=rnA (·+H.length) r0/\H'=H++a1U (·+H.length) h'):=by
 refine ⟨(h E.X).1,fun m w vs hok hglob hargs hsim=>?_⟩
 have hc:Cmp (fun _=>none) E.cx (E.wX fun _=>False).cx m []:=⟨rfl,fun _ _ h=>absurd h (by simp),fun b hb=>hb.elim (fun h=>absurd h (by simp)) (fun h=>h.elim)⟩
 have hsim0:(E.wX fun _=>False).Sim [] w []:=⟨rfl,fun _ _ h=>by simp at h,fun _ h=>by simp at h,fun _ _ _ h=>by simp at h,fun b hb=>hb.elim,fun b hb=>absurd hb (by simp)⟩
 refine ((h fun _=>False).2 [] w vs hok (fun g=>Rel.cmp hc (fun i h=>absurd h (Nat.not_lt_zero _)) _ (hok.2.2 g) (hglob g)) (hb.rel hok hsim hargs) hsim0).mono ?_
 rintro e w' ⟨v,m',r',h',he,hext,hr,hs',hP⟩
 obtain ⟨hr0,hh0⟩:=hs _ _ hP
 have hlen:=hsim.len
 have hnew:∀b,.blk b∈m'->w.heap.size<=b:=fun b hb=>by
  rcases Nat.lt_or_ge b w.heap.size with h1|h1
  ·exact absurd (hext.fresh b h1 hb) (by simp)
  ·exact h1
 have hext2:Ext m w (m++m') w':=⟨hext.os,hext.tape,hext.output,hext.size,fun b hb _=>hext.keep b hb (by simp),fun b hb hm=>by
   rcases List.mem_append.1 hm with h1|h1
   ·exact h1
   ·exact absurd (hnew b h1) (by omega),by simp,fun id x hid _ hx=>by rwa [List.getElem?_append_left hid] at hx,hext.shape⟩
 refine ⟨v,m++m',rnA (·+H.length) r',H++a1U (·+H.length) h',he,hext2,Rel.shift (sz:=(E.wX fun _=>False).cx) (sz2:=E.cx) rfl hlen _ hr0 hr,?_,r',h',hP,rfl,rfl⟩
 have hl':=hs'.len
 refine ⟨by simp [a1U,hlen,hl'],fun id o ho=>?_,fun id ho=>?_,fun i j b hi hj=>?_,fun b hb=>Nat.lt_of_lt_of_le (hsim.xlt b hb) hext.size,fun b hb hX=>?_⟩
 ·rcases Nat.lt_or_ge id H.length with hlt|hge
  ·rw [List.getElem?_append_left hlt] at ho
   obtain ⟨x,h1,h2⟩:=hsim.live id o ho
   refine ⟨x,by rw [List.getElem?_append_left (by omega)];exact h1,h2.ext hext2 fun b hb=>hext.keep b ?_ (by simp)⟩
   subst hb
   exact hsim.lt (List.mem_of_getElem? h1)
  rw [List.getElem?_append_right hge] at ho
  simp only [a1U,List.getElem?_map,Option.map_eq_some_iff] at ho
  obtain ⟨o1,ho1,ho2⟩:=ho
  cases o1 with
  | none=>obtain ⟨_,h9,_⟩:=ho2;cases h9
  | some o1 =>
   obtain ⟨o2,h9,rfl⟩:=ho2
   cases h9
   obtain ⟨x,h1,h2⟩:=hs'.live _ o1 ho1
   refine ⟨x,by rw [List.getElem?_append_right (by omega),hlen];exact h1,?_⟩
   exact OB.shift (sz:=(E.wX fun _=>False).cx) (sz2:=E.cx) rfl hlen (by
    have:=List.all_eq_true.1 hh0 (some o1) (List.mem_of_getElem? ho1)
    simpa using this) h2
 ·rcases Nat.lt_or_ge id H.length with hlt|hge
  ·rw [List.getElem?_append_left hlt] at ho
   rw [List.getElem?_append_left (by omega)]
   exact hsim.dead id ho
  rw [List.getElem?_append_right hge] at ho
  simp only [a1U,List.getElem?_map,Option.map_eq_some_iff] at ho
  obtain ⟨o1,ho1,ho2⟩:=ho
  cases o1 with
  | some o1=>simp at ho2
  | none =>
   rw [List.getElem?_append_right (by omega),hlen]
   exact hs'.dead _ ho1
 ·rcases Nat.lt_or_ge i m.length with hi1|hi1<;>rcases Nat.lt_or_ge j m.length with hj1|hj1
  ·rw [List.getElem?_append_left hi1] at hi;rw [List.getElem?_append_left hj1] at hj
   exact hsim.inj i j b hi hj
  ·rw [List.getElem?_append_left hi1] at hi;rw [List.getElem?_append_right hj1] at hj
   have h1:=hsim.lt (List.mem_of_getElem? hi)
   have h2:=hnew b (List.mem_of_getElem? hj)
   omega
  ·rw [List.getElem?_append_right hi1] at hi;rw [List.getElem?_append_left hj1] at hj
   have h1:=hsim.lt (List.mem_of_getElem? hj)
   have h2:=hnew b (List.mem_of_getElem? hi)
   omega
  rw [List.getElem?_append_right hi1] at hi;rw [List.getElem?_append_right hj1] at hj
  have:=hs'.inj _ _ b hi hj
  omega
 rcases List.mem_append.1 hb with h1|h1
 ·exact hsim.disj b h1 hX
 have h2:=hsim.xlt b hX
 have h3:=hnew b h1
 omega
end Go.Abs
namespace Go.Abs
section
variable{E:Env}{ρ:Operand->AV}{H:Hp}{K:AV->Hp->Prop}{d:Option Nat}{ty:TypeId}{pos:String}{after:Array Edge}{g:Option (Nat × Bool)}
theorem a7g{x:Operand}{lo hi:Option Operand}{t e e':TypeId}{id o n:Nat}{es:List AV}{l h lo' n':Nat}(hl:Bnd ρ lo 0 l)(hh:Bnd ρ hi n h)(hlh:l<=h)(hle:h<=n)(e1:o+l=lo')(e2:h - l=n')
  (ht:Nat.blt t E.n=true) (htk:(E.ti t).k=.sl e) (he:Nat.blt e E.n=true) (he':Nat.blt e' E.n=true)
  (hx:ρ x=.own id o n) (ho:H[id]?=some (some (.arr es e'))) (hk:Nat.beq (E.ti e).sz (E.ti e').sz=true) (hK:K (.own id lo' n') H) :
  a0B E ⟨d,.slice t x lo hi none,ty,pos,after,g⟩ ρ H K:=a7f ht htk he he' hx ho hk hl hh hlh hle (by rw [e1,e2];exact hK)
theorem a1m{α:Type}{f:α->AV}{xs:List α}{x:Operand}{lo hi:Option Operand}{t e:TypeId}{k:Nat}{l h:Nat}{ys:List α}(hl:Bnd ρ lo 0 l)(hh:Bnd ρ hi (xs.map f).length h)(hlh:l<=h)(hle:h<=xs.length)(e1:(xs.take h).drop l=ys)
  (ht:Nat.blt t E.n=true) (htk:(E.ti t).k=.sl e) (he:Nat.blt e E.n=true) (hx:ρ x=.sl k (xs.map f))
  (hk:Nat.beq (E.ti e).sz k=true) (hK:K (.sl k (ys.map f)) H) :
  a0B E ⟨d,.slice t x lo hi none,ty,pos,after,g⟩ ρ H K:=b3b ht htk he hx hk hl hh hlh (by simpa using hle) (by rw [<- List.map_take,<- List.map_drop,e1];exact hK)
theorem a1Y{x i:Operand}{t e e':TypeId}{id lo len p:Nat}{es:List AV}{kk:IntKind}{n:Int}{j:Nat}(hn:n=(j:Int))(hj:j<len)(e1:lo+j=p)(ht:Nat.blt t E.n=true)(htk:(E.ti t).k=.sl e)(he:Nat.blt e E.n=true)(he':Nat.blt e' E.n=true)
  (hx:ρ x=.own id lo len) (hi:ρ i=.int kk n) (ho:H[id]?=some (some (.arr es e'))) (hk:Nat.beq (E.ti e).sz (E.ti e').sz=true) (h:K (.pe id p 0) H) :
  a0B E ⟨d,.indexAddr t x i,ty,pos,after,g⟩ ρ H K:=a3D ht htk he he' hx hi ho hk hn hj (by rw [e1];exact h)
theorem a0V{t t' e:TypeId}{x y:Operand}{z es new out:List AV}{oid:Option Nat}{n:Nat}(hd:b9z H e (ρ x)=some (oid,es))(hs:a7d E H (E.ti e).sz (ρ y)=some new)(hone:a2N new)(e1:es++new=out)(e2:es.length+new.length=n)
  (hm:n<=maxLen) (hb:n*(E.ti e).bt<=140737488355328) (ht:Nat.blt t E.n=true) (hk:(E.ti t).k=.sl e) (ht':Nat.blt t' E.n=true) (hk':(E.ti t').k=.sl e) (he:Nat.blt e E.n=true) (hz:(E.ti e).z=some z)
  (hzl:Nat.beq z.length (E.ti e).sz=true) (hz0:Nat.blt 0 (E.ti e).sz=true) (h:K (.own H.length 0 n) (a3g H oid++[some (.arr out e)])) :
  a0B E ⟨d,.call ⟨.builtin .append,#[x,y],#[t,t']⟩,ty,pos,after,g⟩ ρ H K:=a2K ht hk ht' hk' he hz hzl hz0 hd hs hone (by rw [e2];exact hm) (by rw [e2];exact hb) (by rw [e1,e2];exact h)
end
end Go.Abs
namespace Go.Abs
theorem c1F{E:Env}{m m':Mu}{w w':World}{H h':Hp}(hsim:E.Sim m w H)(hext:Ext [] w m' w')(hs':(E.wX fun _=>False).Sim m' w' h')(hh0:a6x h'=true) :
  Ext m w (m++m') w'/\E.Sim (m++m') w' (H++a1U (·+H.length) h'):=by
 have hlen:=hsim.len
 have hnew:∀b,.blk b∈m'->w.heap.size<=b:=fun b hb=>by
  rcases Nat.lt_or_ge b w.heap.size with h1|h1
  ·exact absurd (hext.fresh b h1 hb) (by simp)
  ·exact h1
 have hext2:Ext m w (m++m') w':=⟨hext.os,hext.tape,hext.output,hext.size,fun b hb _=>hext.keep b hb (by simp),fun b hb hm=>by
   rcases List.mem_append.1 hm with h1|h1
   ·exact h1
   ·exact absurd (hnew b h1) (by omega),by simp,fun id x hid _ hx=>by rwa [List.getElem?_append_left hid] at hx,hext.shape⟩
 refine ⟨hext2,?_⟩
 have hl':=hs'.len
 refine ⟨by simp [a1U,hlen,hl'],fun id o ho=>?_,fun id ho=>?_,fun i j b hi hj=>?_,fun b hb=>Nat.lt_of_lt_of_le (hsim.xlt b hb) hext.size,fun b hb hX=>?_⟩
 ·rcases Nat.lt_or_ge id H.length with hlt|hge
  ·rw [List.getElem?_append_left hlt] at ho
   obtain ⟨x,h1,h2⟩:=hsim.live id o ho
   refine ⟨x,by rw [List.getElem?_append_left (by omega)];exact h1,h2.ext hext2 fun b hb=>hext.keep b ?_ (by simp)⟩
   subst hb
   exact hsim.lt (List.mem_of_getElem? h1)
  rw [List.getElem?_append_right hge] at ho
  simp only [a1U,List.getElem?_map,Option.map_eq_some_iff] at ho
  obtain ⟨o1,ho1,ho2⟩:=ho
  cases o1 with
  | none=>obtain ⟨_,h9,_⟩:=ho2;cases h9
  | some o1 =>
   obtain ⟨o2,h9,rfl⟩:=ho2
   cases h9
   obtain ⟨x,h1,h2⟩:=hs'.live _ o1 ho1
   refine ⟨x,by rw [List.getElem?_append_right (by omega),hlen];exact h1,?_⟩
   exact OB.shift (sz:=(E.wX fun _=>False).cx) (sz2:=E.cx) rfl hlen (by
    have:=List.all_eq_true.1 hh0 (some o1) (List.mem_of_getElem? ho1)
    simpa using this) h2
 ·rcases Nat.lt_or_ge id H.length with hlt|hge
  ·rw [List.getElem?_append_left hlt] at ho
   rw [List.getElem?_append_left (by omega)]
   exact hsim.dead id ho
  rw [List.getElem?_append_right hge] at ho
  simp only [a1U,List.getElem?_map,Option.map_eq_some_iff] at ho
  obtain ⟨o1,ho1,ho2⟩:=ho
  cases o1 with
  | some o1=>simp at ho2
  | none =>
   rw [List.getElem?_append_right (by omega),hlen]
   exact hs'.dead _ ho1
 ·rcases Nat.lt_or_ge i m.length with hi1|hi1<;>rcases Nat.lt_or_ge j m.length with hj1|hj1
  ·rw [List.getElem?_append_left hi1] at hi;rw [List.getElem?_append_left hj1] at hj
   exact hsim.inj i j b hi hj
  ·rw [List.getElem?_append_left hi1] at hi;rw [List.getElem?_append_right hj1] at hj
   have h1:=hsim.lt (List.mem_of_getElem? hi)
   have h2:=hnew b (List.mem_of_getElem? hj)
   omega
  ·rw [List.getElem?_append_right hi1] at hi;rw [List.getElem?_append_left hj1] at hj
   have h1:=hsim.lt (List.mem_of_getElem? hj)
   have h2:=hnew b (List.mem_of_getElem? hi)
   omega
  rw [List.getElem?_append_right hi1] at hi;rw [List.getElem?_append_right hj1] at hj
  have:=hs'.inj _ _ b hi hj
  omega
 rcases List.mem_append.1 hb with h1|h1
 ·exact hsim.disj b h1 hX
 have h2:=hsim.xlt b hX
 have h3:=hnew b h1
 omega
end Go.Abs
namespace Go.Abs
open Go.RowKit
theorem b6B{m':Mu}{w w':World}(hb:Below w.heap.size w w')(hm:∀b,MS.blk b∈m'->w.heap.size<=b):Ext [] w m' w' where
 os:=hb.os
 tape:=hb.tape
 output:=hb.output
 size:=hb.size
 keep:=fun b h _=>hb.block b h
 fresh:=fun b h h1=>absurd (hm b h1) (by omega)
 len:=Nat.zero_le _
 ids:=fun id _ h=>absurd h (Nat.not_lt_zero _)
 shape:=fun b s h=>by
  have hlt:b<w.heap.size:=by
   rcases Nat.lt_or_ge b w.heap.size with h1|h1
   ·exact h1
   ·simp only [World.shape?,Array.getElem?_eq_none h1] at h;cases h
  simp only [World.shape?] at h ⊢
  rw [hb.block b hlt];exact h
theorem c5j{E:Env}{w:World}{x:MS}{o:AO}(ho:OB (E.wX fun _=>False).cx [x] w o x):(E.wX fun _=>False).Sim [x] w [some o] where
 len:=rfl
 live:=fun id o' h=>by
  match id,h with
  | 0,h=>simp at h;subst h;exact ⟨x,rfl,ho⟩
 dead:=fun id h=>by
  match id,h with
  | 0,h=>simp at h
 inj:=fun i j b hi hj=>by
  have h1:i=0:=by
   match i,hi with
   | 0,_=>rfl
  have h2:j=0:=by
   match j,hj with
   | 0,_=>rfl
  omega
 xlt:=fun _ h=>h.elim
 disj:=fun _ _ h=>h.elim
theorem b6G{xs:List Value}(h:∀u∈xs,u.cells=#[u]):flat xs=xs:=by
 induction xs with
 | nil=>rfl
 | cons x xs ih =>
  show x.cells.toList++flat xs=_
  rw [h x (by simp),ih fun u hu=>h u (List.mem_cons_of_mem _ hu)];rfl
theorem c4p{E:Env}{m:Mu}{w w':World}{H:Hp}{e:TypeId}{v:Value}{n:Nat}{xs:List Value}{es:List AV}(hsim:E.Sim m w H)(hb:Below w.heap.size w w')(hrow:w'.ownsRow w.heap.size e 1 v n xs)
  (hsz:E.sz e=1) (hxs:∀u∈xs,u.cells=#[u]) (hrel:∀cx m,Abs.RelL cx m w' es xs) (hnf:a5B es=true) :
  ∃m',Ext m w m' w'/\E.Rel m' w' (.own H.length 0 n) v/\E.Sim m' w' (H++[some (.arr es e)]):=by
 obtain ⟨hl,hrow⟩:=hrow
 have hel:es.length=xs.length:=(RelL.length (hrel E.cx [])).symm
 have hlen:=hsim.len
 have fin:∀x,OB (E.wX fun _=>False).cx [x] w' (.arr es e) x->(∀b,x=.blk b->w.heap.size<=b)->(rnL (·+H.length) es=es)->Ext m w (m++[x]) w'/\E.Sim (m++[x]) w' (H++[some (.arr es e)]):=fun x hx hbx hrn=>by
  have:=c1F hsim (b6B hb (m':=[x]) fun b h=>hbx b (by simp only [List.mem_singleton] at h;exact h.symm)) (c5j hx) (by simp [a6x,a7n,hnf])
  simpa [a1U,rnO,hrn] using this
 have hrn:rnL (·+H.length) es=es:=a1a _ (by have:=RelL.ids es (hrel E.cx []);simpa using this)
 rcases hrow with ⟨rfl,rfl⟩|⟨g,cap,cur,rfl,hg,hblk,hn,hcap,hcs,htk⟩
 ·have hes:es=[]:=List.eq_nil_of_length_eq_zero (by omega)
  obtain ⟨h1,h2⟩:=fin .nil (by subst hes;exact rfl) (fun b h=>by cases h) hrn
  refine ⟨m++[.nil],h1,?_,h2⟩
  show Abs.Rel E.cx _ _ (.own _ 0 0) _
  simp only [Abs.Rel]
  refine ⟨none,0,rfl,Nat.le_refl _,Nat.zero_le _,by simp;omega,fun _=>⟨rfl,rfl⟩,fun b h=>?_⟩
  rw [List.getElem?_append_right (by omega),hlen,Nat.sub_self] at h;cases h
 have hfl:=b6G hxs
 obtain ⟨h1,h2⟩:=fin (.blk g) ⟨cur,xs,hblk,hrel _ _,fun u hu=>by rw [hxs u hu];exact hsz.symm,by rw [hfl,hl];exact htk⟩ (fun b h=>by cases h;exact hg) hrn
 refine ⟨m++[.blk g],h1,?_,h2⟩
 show Abs.Rel E.cx _ _ (.own _ 0 n) _
 simp only [Abs.Rel]
 refine ⟨some ⟨g,0,none⟩,cap,rfl,hn,hcap,by simp;omega,fun h=>?_,fun b h=>?_⟩
 ·rw [List.getElem?_append_right (by omega),hlen,Nat.sub_self] at h;cases h
 rw [List.getElem?_append_right (by omega),hlen,Nat.sub_self] at h
 cases h
 refine ⟨e,cur.size,by simp [World.shape?,hblk],?_,fun _=>by simp⟩
 show (0+cap)*E.sz e=_
 rw [hsz,hcs];omega
end Go.Abs
namespace Go.Abs
def c6j(id:Nat)(cs:List AV):AV->AV
 | .ptr i off=>if i=id/\off=0 then .fp cs else .ptr i off
 | v=>v
section
variable{E:Env}{N n0:Nat}{s:St}
theorem a0X{id:Nat}{cs:List AV}{e:TypeId}(ho:s.hp[id]?=some (some (.cells cs e))) :
  Imp E N n0 s ⟨s.sl.map fun p=>(p.1,c6j id cs p.2),s.hp.set id none⟩:=by
 intro m0 w0 hn m w a hext hs
 have hid:id<s.hp.length:=(List.getElem?_eq_some_iff.1 ho).1
 have hidm:id<m.length:=by rw [hs.sim.len];exact hid
 have hget:∀(i:Nat) (x:MS),x≠.dead->(m.set id .dead)[i]?=some x->m[i]?=some x/\i≠id:=fun i x hx h=>by
  by_cases hi:id=i
  ·subst hi;rw [List.getElem?_set_self hidm] at h;cases h;exact absurd rfl hx
  ·rw [List.getElem?_set_ne hi] at h;exact ⟨h,Ne.symm hi⟩
 have hsub:∀b,MS.blk b∈m.set id .dead->MS.blk b∈m:=fun b hb=>by
  obtain ⟨i,hi,he⟩:=List.getElem_of_mem hb
  exact List.mem_of_getElem? (hget i _ (by simp) (by rw [List.getElem?_eq_getElem hi,he])).1
 have hc:Cmp some E.cx E.cx m (m.set id .dead):=⟨rfl,fun i j hij hi=>by
  cases hij
  exact ⟨by simpa using hi,fun x hx h=>(hget _ x hx h).1⟩,fun b h=>h.imp (hsub b) (fun h=>h)⟩
 refine ⟨m.set id .dead,⟨hext.os,hext.tape,hext.output,hext.size,hext.keep,fun b hb h=>hext.fresh b hb (hsub b h),by simpa using hext.len,fun i x hi hx h=>hext.ids i x hi hx (hget i x hx h).1,hext.shape⟩,?_⟩
 obtain ⟨q,hq,hob⟩:=hs.sim.live id _ ho
 refine ⟨hs.ok,fun j=>?_,hs.size,hs.defers,?_,fun g=>Rel.cmp_all hc (hs.glob g)⟩
 ·show Abs.Rel E.cx _ w (get (s.sl.map fun p=>(p.1,c6j id cs p.2)) j) _
  rw [get_map _ rfl]
  have hj:=hs.slots j
  generalize get s.sl j=v at hj ⊢
  generalize a.tmps.getD j undef=u at hj ⊢
  cases v with
  | ptr i off =>
   simp only [c6j]
   split
   ·rename_i hcond
    obtain ⟨rfl,rfl⟩:=hcond
    simp only [Env.Rel,Abs.Rel] at hj ⊢
    obtain ⟨ad,h1,h2,h3⟩:=hj
    cases q with
    | dead=>exact hob.elim
    | nil=>exact hob.elim
    | blk b =>
     obtain ⟨us,h7,h8⟩:=hob
     have hA:=h3 b hq
     subst hA
     refine ⟨_,us.toList,h1,RelL.cmp hc (n:=m.length) (fun _ _=>rfl) _ (RelL.ids _ h8) h8,fun _=>⟨_,rfl,(Array.getElem?_eq_some_iff.1 h7).1,fun hm=>?_,hs.sim.disj b (List.mem_of_getElem? hq),fun j u hu=>?_⟩⟩
     ·obtain ⟨i2,hi2,he2⟩:=List.getElem_of_mem hm
      obtain ⟨h14,h15⟩:=hget i2 (.blk b) (by simp) (by rw [List.getElem?_eq_getElem hi2,he2])
      exact h15 (hs.sim.inj i2 i b h14 hq)
     have hadd:(⟨b,0,none⟩:Addr).add j=⟨b,0+j,none⟩:=by unfold Addr.add;split<;>simp_all
     rw [hadd,cell_of_row w b _ us e (0,0) h7]
     simpa using hu
   ·exact Rel.cmp_all hc hj
  | _=>exact Rel.cmp_all hc hj
 refine ⟨by simp [hs.sim.len],fun i o hi=>?_,fun i hi=>?_,fun i j b hi hj=>?_,hs.sim.xlt,fun b hb=>hs.sim.disj b (hsub b hb)⟩
 ·by_cases h:id=i
  ·subst h;rw [List.getElem?_set_self hid] at hi;cases hi
  rw [List.getElem?_set_ne h] at hi
  obtain ⟨x,h1,h2⟩:=hs.sim.live i o hi
  exact ⟨x,by rw [List.getElem?_set_ne h];exact h1,h2.cmp hc (n:=m.length) (fun _ _=>rfl) h2.ids⟩
 ·by_cases h:id=i
  ·subst h;rw [List.getElem?_set_self hidm]
  ·rw [List.getElem?_set_ne h] at hi ⊢
   exact hs.sim.dead i hi
 ·exact hs.sim.inj i j b (hget i _ (by simp) hi).1 (hget j _ (by simp) hj).1
end
section
variable{E:Env}{ρ:Operand->AV}{H:Hp}{K:AV->Hp->Prop}{d:Option Nat}{ty:TypeId}{pos:String}{after:Array Edge}{g:Option (Nat × Bool)}
end
end Go.Abs
namespace Go.Abs
theorem a0b.imp{E:Env}{f:FuncId}{args:List AV}{H:Hp}{R R':AV->Hp->Prop}(h:a0b E f args H R)
  (k:∀r H',R r H'->∃r' H'',R' r' H''/\Imp E 1 H.length ⟨[(0,r)],H'⟩ ⟨[(0,r')],H''⟩):a0b E f args H R':=by
 refine ⟨h.1,fun m w vs hok hglob hargs hsim=>(h.2 m w vs hok hglob hargs hsim).mono ?_⟩
 rintro e w' ⟨v,m',r,H',rfl,hext,hr,hs,hR⟩
 obtain ⟨r',H'',hR',hi⟩:=k r H' hR
 obtain ⟨m2,h1,h2⟩:=hi m w hsim.len m' w' { tmps:=#[v],defers:=[] } hext ⟨hok,fun k=>by
  rw [a0R]
  split
  ·rename_i hk;subst hk;exact hr
  ·exact (by simp [get,Env.Rel,Abs.Rel]),rfl,rfl,hs,fun g=>(hglob g).ext hext⟩
 refine ⟨v,m2,r',H'',rfl,h1,?_,h2.sim,hR'⟩
 have:=h2.slots 0
 rw [a0R,if_pos rfl] at this
 exact this
theorem c0z{E:Env}{H:Hp}{es:List AV}{e:TypeId}{k n:Nat}(hn:n=es.length)(he:Nat.blt e E.n=true)(hk:Nat.beq (E.ti e).sz k=true)(hok:HOk H.length H)(hes:a0e H.length es) :
  Imp E 1 H.length ⟨[(0,.own H.length 0 n)],H++[some (.arr es e)]⟩ ⟨[(0,.sl k es)],H⟩:=by
 subst hn
 refine (a0M (id:=H.length) (k:=k) (es:=es) (e:=e) (by simp) he hk).trans ?_
 refine a0i H.length (Nat.le_refl _) hok (by simp) (by simp) ?_
 refine a0a ⟨?_,?_⟩ a0k
 ·simp [a0R,frz]
 ·exact hes
theorem a0b.froz{E:Env}{f:FuncId}{args:List AV}{H:Hp}{es:List AV}{e:TypeId}{n:Nat}(k:Nat)(h:a0b E f args H (fun r H'=>r=.own H.length 0 n/\H'=H++[some (.arr es e)]))(hn:n=es.length)(he:Nat.blt e E.n=true)
  (hk:Nat.beq (E.ti e).sz k=true) (hok:HOk H.length H) (hes:a0e H.length es):a0b E f args H (fun r H'=>r=.sl k es/\H'=H) :=
 h.imp fun r H' ⟨h1,h2⟩=>by
  subst h1;subst h2
  exact ⟨_,_,⟨rfl,rfl⟩,c0z hn he hk hok hes⟩
end Go.Abs
namespace Go.Abs
section
variable{E:Env}{ρ:Operand->AV}{H:Hp}{K:AV->Hp->Prop}{d:Option Nat}{ty:TypeId}{pos:String}{after:Array Edge}{g:Option (Nat × Bool)}
theorem b0W{w:World}{a:Addr}{n b:Nat}(h:b≠a.block):(w.freeze a n).heap[b]?=w.heap[b]?:=by
 unfold World.freeze
 split
 ·rfl
 ·simp only [Array.getElem?_modify]
  rw [if_neg (by omega)]
theorem b2m{w:World}{a:Addr}{us:Array Value}{e:TypeId}{lh:Nat × Nat}(h:w.heap[a.block]?=some (.cells us e lh))(n:Nat):∃lh',(w.freeze a n).heap[a.block]?=some (.cells us e lh'):=by
 unfold World.freeze
 split
 ·exact ⟨lh,h⟩
 ·simp only [Array.getElem?_modify,if_true,h,Option.map_some]
  exact ⟨_,rfl⟩
theorem a5x{w:World}{a:Addr}{n:Nat}:(w.freeze a n).heap.size=w.heap.size:=by
 unfold World.freeze
 split<;>simp
theorem a5w{w:World}{a:Addr}{n:Nat}:(w.freeze a n).os=w.os/\(w.freeze a n).tape=w.tape/\(w.freeze a n).output=w.output:=by
 unfold World.freeze
 split<;>exact ⟨rfl,rfl,rfl⟩
theorem b1A{x:Operand}{t e e':TypeId}{id lo n k:Nat}{es out:List AV}(hle:lo+n<=es.length)(hn0:0<n)(e1:(es.drop lo).take n=out)(ht:Nat.blt t E.n=true)(hkt:(E.ti t).k=.sl e)(he:Nat.blt e E.n=true)(hke:(E.ti e).k=.int .u8)(hx:ρ x=.own id lo n)
  (ho:H[id]?=some (some (.arr es e'))) (he':Nat.blt e' E.n=true) (hk:Nat.beq (E.ti e').sz k=true) (h:K (.sl k out) (H.set id none)):a0B E ⟨d,.convert t t x,ty,pos,after,g⟩ ρ H K:=by
 subst e1
 refine a1T (fun m w a hok hr hsim=>?_)
 have hkk:=Nat.eq_of_beq_eq_true hk
 have hsz2:E.cx.sz e'=(E.ti e').sz:=by obtain ⟨_,_,_,_,_,_,_,_,_,h⟩:=a0U hok he';exact h
 have h1:=hr x
 rw [hx] at h1
 simp only [Env.Rel,Abs.Rel] at h1
 obtain ⟨A,c,hv,h2,h3,h4,h5,h6⟩:=h1
 obtain ⟨q,hq,hob⟩:=hsim.live id _ ho
 cases q with
 | dead=>exact hob.elim
 | nil=>have:es=[]:=hob;subst this;simp at hle;omega
 | blk b =>
  obtain ⟨us,vs,h7,h8,h9,h10⟩:=hob
  obtain ⟨e2,k2,h11,h12,h13⟩:=h6 b hq
  have hA:=h13 (.inl (by omega))
  subst hA
  have hee:e2=e'/\k2=us.size:=by
   unfold World.shape? at h11
   rw [h7] at h11
   simp at h11
   exact ⟨h11.1.symm,h11.2.symm⟩
  obtain ⟨rfl,rfl⟩:=hee
  let w':=w.freeze ⟨b,us.size,none⟩ 1
  obtain ⟨lh',hself⟩:=b2m (a:=⟨b,us.size,none⟩) h7 1
  have hself:w'.heap[b]?=some (.cells us e2 lh'):=hself
  have hoth:∀c,c≠b->w'.heap[c]?=w.heap[c]?:=fun c hc=>b0W hc
  have hidm:id<m.length:=(List.getElem?_eq_some_iff.1 hq).1
  have hget:∀(i:Nat) (x:MS),x≠.dead->(m.set id .dead)[i]?=some x->m[i]?=some x/\i≠id:=fun i x hx h=>by
   by_cases hi:id=i
   ·subst hi;rw [List.getElem?_set_self hidm] at h;cases h;exact absurd rfl hx
   ·rw [List.getElem?_set_ne hi] at h;exact ⟨h,Ne.symm hi⟩
  have hsub:∀c,MS.blk c∈m.set id .dead->MS.blk c∈m/\c≠b:=fun c hc=>by
   obtain ⟨i,hi,he⟩:=List.getElem_of_mem hc
   obtain ⟨h14,h15⟩:=hget i (.blk c) (by simp) (by rw [List.getElem?_eq_getElem hi,he])
   exact ⟨List.mem_of_getElem? h14,fun e=>h15 (hsim.inj i id b (e ▸ h14) hq)⟩
  have hext:Ext m w (m.set id .dead) w':=⟨a5w.1,a5w.2.1,a5w.2.2,by rw [a5x];exact Nat.le_refl _,fun c _ hc=>hoth c fun e=>hc (e ▸ List.mem_of_getElem? hq),fun c _ hc=>(hsub c hc).1,by simp,
   fun i x hi hx h=>(hget i x hx h).1,fun c s hs=>by
    by_cases hcb:c=b
    ·subst hcb;rw [h11] at hs;cases hs;simp [World.shape?,hself]
    ·unfold World.shape? at hs ⊢;rw [hoth c hcb];exact hs⟩
  have hrun:(execOp a.eval ⟨d,.convert t t x,ty,pos,after,g⟩).run E.P w=.ok (.value (a.eval x)) w':=by
   have hu:=run_underlying (w:=w) (a3G hok ht hkt)
   have hu2:=run_underlying (w:=w) (a7h hok he hke)
   simp only [execOp,hv,convert,Sem.run_bind,hu,Result.andThen_ok,beq_self_eq_true,hu2,markStringish,run_shape,h11,run_freeze,Sem.run_pure]
   rfl
  refine ⟨a.eval x,w',m.set id .dead,_,_,hrun,hext,?_,?_,h⟩
  ·rw [hv]
   show Abs.Rel _ _ _ _ _
   simp only [Abs.Rel]
   have hlen:((es.drop lo).take n).length=n:=by simp;omega
   have hr8:=((h8.drop lo).take n).ext hext
   have hk9:∀u∈(vs.drop lo).take n,u.cells.size=k:=fun u hu=>by
    rw [h9 u (List.mem_of_mem_drop (List.mem_of_mem_take hu)),hsz2,hkk]
   refine ⟨_,c,(vs.drop lo).take n,by rw [hlen],by omega,h3,hr8,hk9,fun _=>⟨_,rfl,?_,fun hm=>(hsub b hm).2 rfl,hsim.disj b (List.mem_of_getElem? hq),fun j u hu=>?_⟩⟩
   ·rw [a5x];exact (Array.getElem?_eq_some_iff.1 h7).1
   have hadd:(⟨b,lo*E.cx.sz e2,none⟩:Addr).add j=⟨b,lo*E.cx.sz e2+j,none⟩:=by unfold Addr.add;split<;>simp_all
   rw [hadd,cell_of_row w' b _ us e2 lh' hself]
   have h9d:∀u∈vs.drop lo,u.cells.size=E.cx.sz e2:=fun u hu=>h9 u (List.mem_of_mem_drop hu)
   rw [a2o h9d,a3J h9,List.getElem?_take,List.getElem?_drop] at hu
   split at hu
   ·rw [<- h10,List.getElem?_take] at hu
    split at hu
    ·simpa using hu
    ·cases hu
   ·cases hu
  have hid:id<H.length:=(List.getElem?_eq_some_iff.1 ho).1
  refine ⟨by simp [hsim.len],fun i o hi=>?_,fun i hi=>?_,fun i j b hi hj=>?_,fun b hb=>by rw [a5x];exact hsim.xlt b hb,fun b hb=>hsim.disj b (hsub b hb).1⟩
  ·by_cases hii:id=i
   ·subst hii;rw [List.getElem?_set_self hid] at hi;cases hi
   rw [List.getElem?_set_ne hii] at hi
   obtain ⟨x,hx1,hx2⟩:=hsim.live i o hi
   refine ⟨x,by rw [List.getElem?_set_ne hii];exact hx1,hx2.ext hext fun c hc=>hoth c fun e=>?_⟩
   subst hc;subst e
   exact hii (hsim.inj id i c hq hx1)
  ·by_cases hii:id=i
   ·subst hii;rw [List.getElem?_set_self hidm]
   ·rw [List.getElem?_set_ne hii] at hi ⊢
    exact hsim.dead i hi
  ·exact hsim.inj i j b (hget i _ (by simp) hi).1 (hget j _ (by simp) hj).1
end
end Go.Abs
namespace Go.Abs
section
variable{E:Env}{ρ:Operand->AV}{H:Hp}{K:AV->Hp->Prop}{d:Option Nat}{ty:TypeId}{pos:String}{after:Array Edge}{g:Option (Nat × Bool)}
theorem foldl_push(l:List UInt8):∀s:ByteArray,(l.map fun b=>(b.toNat:Int)).foldl (fun r n=>r.push (UInt8.ofNat n.toNat)) s=⟨s.data++l.toArray⟩:=by
 induction l with
 | nil=>intro s;simp
 | cons b l ih =>
  intro s
  simp only [List.map_cons,List.foldl_cons]
  rw [ih]
  have hb:UInt8.ofNat ((b.toNat:Int).toNat)=b:=by simp
  rw [hb]
  simp [ByteArray.push]
theorem b4n{sz:Cx}{m:Mu}{w:World}:∀{l:List UInt8} {vs:List Value},RelL sz m w (l.map u8A) vs->vs=l.map fun b=>Value.int .u8 b.toNat
 | [],vs,h=>by simpa [RelL] using h
 | b::l,vs,h=>by
  obtain ⟨v,r,rfl,h1,h2⟩:=a0l.1 h
  simp only [u8A,Abs.Rel] at h1
  rw [h1,b4n h2];rfl
theorem a5H{x:Operand}{t u e:TypeId}{l:List UInt8}(hx:a7d E H 1 (ρ x)=some (l.map u8A))(ht:Nat.blt t E.n=true)(hkt:(E.ti t).k=.sl e)(hu:Nat.blt u E.n=true)(hk:(E.ti u).k=.str)(he:Nat.blt e E.n=true)(hke:(E.ti e).k=.int .u8)
  (h:K (.str l) H):a0B E ⟨d,.convert t u x,ty,pos,after,g⟩ ρ H K:=by
 refine a0K _ (fun m w a hok hr hsim=>⟨.string ⟨l.toArray⟩,?_,by simp [Env.Rel,Abs.Rel]⟩) h
 obtain ⟨A,c,vs,h1,h2,h3,h4,h5⟩:=a7H hok hsim (hr x) hx
 have hvs:=b4n h3
 subst hvs
 rw [a4X (b9l l)] at h5
 have hu1:=run_underlying (w:=w) (a3G hok ht hkt)
 have hu2:=run_underlying (w:=w) (a7j hok hu hk)
 have hu3:=run_underlying (w:=w) (a7h hok he hke)
 have hb:(Conv.bytesToString (a.eval x)).run E.P w=.ok (.string ⟨l.toArray⟩) w:=by
  rw [h1,List.length_map]
  cases A with
  | none =>
   have hl:l=[]:=by
    rcases l with _|⟨b,l⟩
    ·rfl
    ·obtain ⟨a,ha,_⟩:=h5 (by simp)
     cases ha
   subst hl
   simp [Conv.bytesToString,Sem.run_pure]
   rfl
  | some ad =>
   have hc:∀(j:Nat) (u:Value),(l.map fun b=>Value.int .u8 b.toNat)[j]?=some u->w.cell? (ad.add j)=some u:=fun j u hj=>by
    obtain ⟨a,ha,hcell⟩:=h5 (by intro h0;rw [h0] at hj;simp at hj)
    cases ha
    exact hcell j u hj
   have hrun:=b1u (E:=E) hc
   have h6:(l.map fun b=>Value.int .u8 b.toNat)=(l.map fun b=>(b.toNat:Int)).map (Value.int .u8):=by simp
   rw [h6] at hrun
   simp only [List.length_map] at hrun
   have:=run_bytesToString w ad l.length c (l.map fun b=>(b.toNat:Int)) hrun
   rw [this,foldl_push]
   simp
 simp only [execOp,convert,Sem.run_bind,hu1,hu2,hu3,Result.andThen_ok,h1]
 rw [h1] at hb
 generalize hcc:c=c' at *
 cases A with
 | none=>simp only [hu3,Sem.run_bind,Result.andThen_ok,hb,Sem.run_pure]
 | some ad=>simp only [hu3,Sem.run_bind,Result.andThen_ok,hb,Sem.run_pure]
theorem a8E{x i:Operand}{t e:TypeId}{N:Nat}{cs:List AV}{kk:IntKind}{n:Int}{j:Nat}{y:AV}(hn:n=(j:Int))(hj:j<N)(hy:cs[j]?=some y)(ht:Nat.blt t E.n=true)(htk:(E.ti t).k=.arr N e)(he:Nat.blt e E.n=true)
  (hs1:Nat.beq (E.ti e).sz 1=true) (hx:ρ x=.fp cs) (hi:ρ i=.int kk n) (h:K (.fp [y]) H):a0B E ⟨d,.indexAddr t x i,ty,pos,after,g⟩ ρ H K:=by
 refine a0K _ (fun m w a hok hr hsim=>?_) h
 have h1:=hr x;have h2:=hr i
 rw [hx] at h1;rw [hi] at h2
 simp only [Env.Rel,Abs.Rel] at h1
 obtain ⟨ad,us,h3,h4,h5⟩:=h1
 have hs1':=Nat.eq_of_beq_eq_true hs1
 obtain ⟨u,hu,hru⟩:=h4.get j hy
 have hne:us≠[]:=fun h0=>by subst h0;simp at hu
 obtain ⟨a2,ha2,h10,h11,hX,h12⟩:=h5 hne
 cases ha2
 subst hn
 have hin:(0:Int)<=(j:Int)/\(j:Int)<(N:Int):=by omega
 refine ⟨.pointer (some (ad.add (j*1))),?_,?_⟩
 ·simp only [execOp,Instr.indexAt,Sem.run_bind,a1l h2,asIntOf,Sem.run_pure,Result.andThen_ok,run_underlying (c7O hok ht htk),h3,Instr.sureAddr,hin.1,hin.2,and_self,if_true,a2i hok he,hs1',Int.toNat_natCast]
 show Abs.Rel _ _ _ _ _
 simp only [Abs.Rel]
 refine ⟨_,[u],rfl,RelL.cons hru (by simp [Abs.RelL]),fun _=>⟨_,rfl,by rw [a2m];exact h10,by rw [a2m];exact h11,by rw [a2m];exact hX,fun q z hz=>?_⟩⟩
 rw [add_add,Nat.mul_one]
 match q,hz with
 | 0,hz =>
  simp at hz
  subst hz
  exact h12 _ _ (by simpa using hu)
 | q+1,hz=>simp at hz
theorem b2U{t t' e:TypeId}{x y:Operand}{n:Nat}{kn kk:IntKind}{nn:Int}(hn:nn=(n:Int))(h0:0<n)(hm:n<=1073741824)(ht:Nat.blt t E.n=true)(hk:(E.ti t).k=.sl e)(ht':Nat.blt t' E.n=true)(hk':(E.ti t').k=.int kn)(he:Nat.blt e E.n=true)
  (hz:(E.ti e).z=some [.int .u8 0]) (hs1:Nat.beq (E.ti e).sz 1=true) (hb1:Nat.beq (E.ti e).bt 1=true) (hx:ρ x=.nils) (hy:ρ y=.int kk nn) (h:K (.own H.length 0 n) (H++[some (.arr (List.replicate n (u8A 0)) e)])) :
  a0B E ⟨d,.call ⟨.builtin .append,#[x,y],#[t,t']⟩,ty,pos,after,g⟩ ρ H K:=by
 refine a1T (fun m w a hok hr hsim=>?_)
 obtain ⟨v,_,h2,i,h3,h4,h5,h6⟩:=a3P hok he hz
 have hs1':=Nat.eq_of_beq_eq_true hs1
 have hb1':=Nat.eq_of_beq_eq_true hb1
 have hx':=hr x;have hy':=hr y
 rw [hx] at hx';rw [hy] at hy'
 subst hn
 have hnil:a.eval x=.slice none 0 0:=by simpa [Env.Rel,Abs.Rel] using hx'
 have hcells:v.cells=#[.int .u8 0]:=by
  have h7:v.cells.size=1:=by have:=congrArg List.length h2;simpa using this
  have h8:v.cells.toList.map b5I=[.int .u8 0]:=h2
  obtain ⟨c,hc⟩:∃c,v.cells.toList=[c]:=by
   have h9:v.cells.toList.length=1:=by simpa using h7
   rcases hl:v.cells.toList with _|⟨c,_|⟨c2,r⟩⟩
   ·rw [hl] at h9;cases h9
   ·exact ⟨c,rfl⟩
   ·rw [hl] at h9;simp at h9
  rw [hc] at h8
  have h10:b5I c=.int .u8 0:=by simpa using h8
  have:c=.int .u8 0:=by
   unfold b5I at h10
   split at h10<;>first|(cases h10;rfl)|contradiction|(cases h10)
  apply Array.ext'
  rw [hc,this]
 have hrun:=Lib.run_append_nil_zeros (P:=E.P) w t t' ty e i v kk kn (a3G hok ht hk) (a7h hok ht' hk') h3 h4 n h0 (by rw [h5,hs1'];decide) (by omega) (by rw [h6,hb1'];omega)
 rw [hcells] at hrun
 have hzc:∀k,(Builtin.zeroCells #[Value.int .u8 0] k).toList=List.replicate k (Value.int .u8 0):=fun k=>by
  apply List.ext_getElem
  ·simp [Builtin.zeroCells]
  ·intro j h1 h2;simp [Builtin.zeroCells,Nat.mod_one]
 have hge:=grownCap_ge w n 0 e
 have hcm:=grownCap_le_maxLen w n 0 e (by simp only [maxLen];omega)
 have hsz2:E.cx.sz e=(E.ti e).sz:=by obtain ⟨_,_,_,_,_,_,_,_,_,h⟩:=a0U hok he;exact h
 have hrel:E.RelL m w.drew (List.replicate n (u8A 0)) (List.replicate n (Value.int .u8 0)):=by
  have h9:List.replicate n (u8A 0)=(List.replicate n (0:UInt8)).map u8A:=by simp
  have h10:List.replicate n (Value.int .u8 0)=(List.replicate n (0:UInt8)).map fun b=>Value.int .u8 b.toNat:=by simp
  rw [h9,h10];exact b2I _
 have hone:∀u∈List.replicate n (Value.int .u8 0),u.oneCell'=true:=fun u hu=>by rw [List.eq_of_mem_replicate hu];rfl
 obtain ⟨q1,q2,q3⟩:=b2C (e:=e) (n:=n) (c:=grownCap w n 0 e) (k:=1) (w:=w.drew) hsim.drew rfl hge hcm hrel (fun u hu=>by rw [List.eq_of_mem_replicate hu];rfl) (us:=Builtin.zeroCells #[Value.int .u8 0] n++Builtin.zeroCells #[Value.int .u8 0] (grownCap w n 0 e - n)) (by
  rw [a4X hone,Array.toList_append,hzc,hzc,List.length_replicate,List.take_left' (by simp)]) (by rw [hsz2,hs1']) (by simp [Builtin.zeroCells];omega)
 refine ⟨_,_,_,_,_,?_,(Ext.drew m w).trans q1,q2,q3,h⟩
 simp only [execOp,resolve,invoke,builtin,Sem.run_bind,Sem.run_pure,Result.andThen_ok,List.map_toArray,List.map_cons,List.map_nil,hnil,a1l hy',hrun]
 rfl
theorem a9q{x:Operand}{t e:TypeId}(ht:Nat.blt t E.n=true)(hk:(E.ti t).k=.sl e)(hx:ρ x=.nils)(h:K (.int .i64 0) H):a0B E ⟨d,.call ⟨.builtin .cap,#[x],#[t]⟩,ty,pos,after,g⟩ ρ H K:=by
 refine a0K _ (fun m w a hok hr hsim=>⟨.int .i64 0,?_,a3K⟩) h
 have h1:=hr x
 rw [hx] at h1
 have h2:a.eval x=.slice none 0 0:=by simpa [Env.Rel,Abs.Rel] using h1
 simp [execOp,resolve,invoke,builtin,Builtin.cap_,run_underlying (a3G hok ht hk),h2,goInt]
end
section
variable{E:Env}{N n0:Nat}{sl:List (Nat × AV)}{hp:Hp}
theorem b4X{id n:Nat}{es:List AV}{e:TypeId}(ho:hp[id]?=some (some (.arr es e))):Imp E N n0 ⟨sl,hp⟩ ⟨sl,hp.set id (some (.arr (es.take n) e))⟩:=by
 intro m0 w0 hn m w a hext hs
 refine ⟨m,hext,hs.ok,hs.slots,hs.size,hs.defers,?_,hs.glob⟩
 have hid:id<hp.length:=(List.getElem?_eq_some_iff.1 ho).1
 refine ⟨by simp [hs.sim.len],fun i o hi=>?_,fun i hi=>?_,hs.sim.inj,hs.sim.xlt,hs.sim.disj⟩
 ·by_cases h:id=i
  ·subst h
   rw [List.getElem?_set_self hid] at hi
   simp only [Option.some.injEq] at hi
   subst hi
   obtain ⟨x,h1,h2⟩:=hs.sim.live id _ ho
   refine ⟨x,h1,?_⟩
   cases x with
   | dead=>exact h2.elim
   | nil =>
    have:es=[]:=h2
    subst this
    show List.take n []=[]
    simp
   | blk b =>
    obtain ⟨us,vs,h3,h4,h5,h6⟩:=h2
    refine ⟨us,vs.take n,h3,h4.take n,fun u hu=>h5 u (List.mem_of_mem_take hu),?_⟩
    have h7:=a2o h5 n
    rw [h7,List.length_take]
    conv=>rhs;rw [<- h6,List.take_take]
  ·rw [List.getElem?_set_ne h] at hi
   exact hs.sim.live i o hi
 by_cases h:id=i
 ·subst h;rw [List.getElem?_set_self hid] at hi;cases hi
 ·rw [List.getElem?_set_ne h] at hi
  exact hs.sim.dead i hi
end
end Go.Abs
namespace Go.Abs
def Fin(E:Env)(sl sl':List (Nat × AV)):Prop:=∀k m w v,E.Rel m w (get sl k) v->E.Rel m w (get sl' k) v
def mgA(b:Bool):AV->AV->Option AV
 | .bool x,.bool y=>some (.bool (cond b x y))
 | _,_=>some .any
def mgS(b:Bool):Nat->List (Nat × AV)->List (Nat × AV)->List (Nat × AV)->Option (List (Nat × AV))
 | 0,_,_,sl=>some sl
 | n+1,(k,x)::r1,(j,y)::r0,sl=>cond (Nat.beq k j) (match mgS b n r1 r0 sl with
  | some r=>match mgA b x y with
   | some z=>some ((k,z)::r)
   | none=>none
  | none=>none) none
 | _,_,_,_=>none
def hv:AV->Option AV
 | .any=>some .any
 | .int k n=>some (.int k n)
 | .bool b=>some (.bool b)
 | .str s=>some (.str s)
 | .ptr i o=>some (.ptr i o)
 | .pe i j o=>some (.pe i j o)
 | .sl k es=>some (.sl k es)
 | .own i l n=>some (.own i l n)
 | .agg cs=>some (.agg cs)
 | .tup cs=>some (.tup cs)
 | .fp cs=>some (.fp cs)
 | .nils=>some .nils
 | .nilp=>some .nilp
 | x=>some x
theorem c6D{x y:AV}(h:hv x=some y):x=y:=by
 unfold hv at h
 split at h<;>cases h<;>rfl
def clE(E:Env)(orc:FuncId->List AV->Option AV)(ρ:Operand->AV):Op->Option AV
 | .call ⟨.value f,args,_⟩=>match ρ f with
  | .clo (.func k) [] cap=>orc k (args.toList.map ρ++cap)
  | _=>none
 | .indexAddr t x i=>match ρ x,ρ i with
  | .sl k es,.int _ (.ofNat j)=>match (E.ti t).k with
   | .sl e=>match es[j]? with
    | some b=>cond (Nat.blt t E.n&&Nat.blt e E.n&&Nat.beq (E.ti e).sz k&&Nat.blt 0 k&&known b) (some (.fp (a1d b))) none
    | none=>none
   | _=>none
  | _,_=>none
 | _=>none
def c7n(E:Env)(dr:Bool)(o:Oper)(sl:List (Nat × AV)):Operand->AV:=cond dr (evF E (a5o o) (get sl)) (ev E sl)
def pvE(E:Env)(orc:FuncId->List AV->Option AV)(dr:Bool)(sl:List (Nat × AV))(hp:Hp)(o:Oper):Option (List (Nat × AV)) :=
 match stP E (c7n E dr o sl) hp o.op with
 | some r=>match hv r with
  | some r2=>match o.dst with
   | some d=>some ((d,r2)::sl)
   | none=>some sl
  | none=>none
 | none=>match clE E orc (c7n E dr o sl) o.op with
  | some r=>match hv r with
   | some r2=>match o.dst with
    | some d=>some ((d,r2)::sl)
    | none=>none
   | none=>none
  | none=>none
def skE(sl:List (Nat × AV))(o:Oper):List (Nat × AV):=match o.dst with
 | some d=>(d,.tup [])::sl
 | none=>sl
def isLit(lt:List Nat):Operand->Bool
 | .tmp t=>lt.any fun i=>Nat.beq i t
 | .const (.bool _)=>true
 | _=>false
def c9p(lt:List Nat)(sl:List (Nat × AV)):Op->Bool
 | .move x=>isLit lt x
 | .assign x=>isLit lt x
 | .unOp _ _ x=>isLit lt x
 | .pick (.tmp c) x y=>cond (lt.any fun i=>Nat.beq i c) (match get sl c with
  | .bool true=>isLit lt x
  | .bool false=>isLit lt y
  | _=>false) false
 | _=>false
def rmN(d:Nat):List Nat->Option (List Nat)
 | []=>some []
 | i::l=>match rmN d l with
  | some r=>match Nat.beq i d with
   | true=>some r
   | false=>some (i::r)
  | none=>none
def ltU(lt:List Nat)(sl:List (Nat × AV))(o:Oper):Option (List Nat):=match o.dst with
 | some d=>match c9p lt sl o.op with
  | true=>some (d::lt)
  | false=>rmN d lt
 | none=>some lt
def a7b(E:Env)(orc:FuncId->List AV->Option AV)(dr:Bool)(ops:Array Oper)(hp:Hp):Nat->List Nat->List Nat->List Oper->List (Nat × AV)->Option (List (Nat × AV))
 | 0,_,_,_,_=>none
 | _+1,_,_,[],sl=>some sl
 | n+1,kn,lt,o::rest,sl=>match o.guard with
  | none=>match pvE E orc dr sl hp o with
   | some s1=>match ltU lt sl o with
    | some l1=>a7b E orc dr ops hp n kn l1 rest s1
    | none=>none
   | none=>none
  | some (j,_)=>cond (kn.any fun i=>Nat.beq i j)
    (match a0S ops o sl with
     | some true=>match pvE E orc dr sl hp o with
      | some s1=>match ltU lt sl o with
       | some l1=>a7b E orc dr ops hp n kn l1 rest s1
       | none=>none
      | none=>none
     | some false=>a7b E orc dr ops hp n kn lt rest (skE sl o)
     | none=>none)
    (match (ops[j]?).bind (·.dst) with
     | some d=>match get sl d with
      | .bool b=>cond (lt.any fun i=>Nat.beq i d)
       (match b with
        | true=>a7b E orc dr ops hp n (j::kn) lt (o::rest) ((d,.bool true)::sl)
        | false=>a7b E orc dr ops hp n (j::kn) lt (o::rest) ((d,.bool false)::sl))
       (match a7b E orc dr ops hp n (j::kn) (d::lt) (o::rest) ((d,.bool true)::sl),a7b E orc dr ops hp n (j::kn) (d::lt) (o::rest) ((d,.bool false)::sl) with
        | some s1,some s0=>cond (Nat.beq s1.length s0.length) (mgS b (s1.length - sl.length) s1 s0 sl) none
        | _,_=>none)
      | .tup []=>a7b E orc dr ops hp n (j::kn) lt (o::rest) ((d,.tup [])::sl)
      | _=>none
     | none=>none)
theorem c0K{x y z:AV}{m:Mu}{w:World}{v:Value}{E:Env}(e:mgA true x y=some z)(h:E.Rel m w x v):E.Rel m w z v:=by
 unfold mgA at e
 split at e
 ·cases e;exact h
 ·cases e;simp [Env.Rel,Abs.Rel]
theorem b7r{x y z:AV}{m:Mu}{w:World}{v:Value}{E:Env}(e:mgA false x y=some z)(h:E.Rel m w y v):E.Rel m w z v:=by
 unfold mgA at e
 split at e
 ·cases e;exact h
 ·cases e;simp [Env.Rel,Abs.Rel]
theorem b3V(b:Bool)(x y:AV):∃z,mgA b x y=some z:=by
 unfold mgA
 split<;>exact ⟨_,rfl⟩
theorem b2q{E:Env}{b:Bool}:∀{n:Nat} {n1 n0 sl r:List (Nat × AV)},n1.length=n->n0.length=n->mgS b n (n1++sl) (n0++sl) sl=some r->(b=true->Fin E (n1++sl) r)/\(b=false->Fin E (n0++sl) r)
 | 0,[],[],sl,r,_,_,h=>by cases h;exact ⟨fun _ _ _ _ _ h=>h,fun _ _ _ _ _ h=>h⟩
 | n+1,(k,x)::n1,(j,y)::n0,sl,r,h1,h0,h=>by
  have hd:mgS b (n+1) ((k,x)::(n1++sl)) ((j,y)::(n0++sl)) sl=cond (Nat.beq k j) (match mgS b n (n1++sl) (n0++sl) sl with
    | some r=>match mgA b x y with
     | some z=>some ((k,z)::r)
     | none=>none
    | none=>none) none:=rfl
  have h':mgS b (n+1) ((k,x)::(n1++sl)) ((j,y)::(n0++sl)) sl=some r:=h
  rw [hd] at h'
  cases hk:Nat.beq k j with
  | false=>rw [hk] at h';cases h'
  | true =>
   have hkj:k=j:=Nat.eq_of_beq_eq_true hk
   subst hkj
   rw [hk] at h'
   simp only [cond_true] at h'
   cases hr:mgS b n (n1++sl) (n0++sl) sl with
   | none=>rw [hr] at h';cases h'
   | some r2 =>
    obtain ⟨z,hz⟩:=b3V b x y
    rw [hr] at h'
    simp only [hz] at h'
    cases h'
    obtain ⟨i1,i0⟩:=b2q (E:=E) (Nat.succ.inj h1) (Nat.succ.inj h0) hr
    refine ⟨fun hb q m w v hq=>?_,fun hb q m w v hq=>?_⟩
    ·have hq':E.Rel m w (cond (Nat.beq k q) x (get (n1++sl) q)) v:=hq
     show E.Rel m w (cond (Nat.beq k q) z (get r2 q)) v
     cases hc:Nat.beq k q with
     | true=>rw [hc] at hq';subst hb;exact c0K hz hq'
     | false=>rw [hc] at hq';exact i1 hb q m w v hq'
    have hq':E.Rel m w (cond (Nat.beq k q) y (get (n0++sl) q)) v:=hq
    show E.Rel m w (cond (Nat.beq k q) z (get r2 q)) v
    cases hc:Nat.beq k q with
    | true=>rw [hc] at hq';subst hb;exact b7r hz hq'
    | false=>rw [hc] at hq';exact i0 hb q m w v hq'
theorem b7s{b:Bool}:∀{n:Nat} {s1 s0 sl r:List (Nat × AV)},mgS b n s1 s0 sl=some r->∃nw,nw.length=n/\r=nw++sl
 | 0,_,_,sl,r,h=>by
  have h':some sl=some r:=by simpa [mgS] using h
  cases h'
  exact ⟨[],rfl,rfl⟩
 | n+1,(k,x)::s1,(j,y)::s0,sl,r,h=>by
  have h':cond (Nat.beq k j) (match mgS b n s1 s0 sl with
    | some r=>match mgA b x y with
     | some z=>some ((k,z)::r)
     | none=>none
    | none=>none) none=some r:=h
  cases hk:Nat.beq k j with
  | false=>rw [hk] at h';cases h'
  | true =>
   rw [hk] at h'
   simp only [cond_true] at h'
   cases hr:mgS b n s1 s0 sl with
   | none=>rw [hr] at h';cases h'
   | some r2 =>
    obtain ⟨z,hz⟩:=b3V b x y
    rw [hr] at h'
    simp only [hz] at h'
    cases h'
    obtain ⟨nw,h1,h2⟩:=b7s hr
    exact ⟨(k,z)::nw,by simp [h1],by rw [h2];rfl⟩
 | _+1,[],_,_,_,h=>by simp [mgS] at h
 | _+1,_::_,[],_,_,h=>by simp [mgS] at h
theorem b2G{E:Env}{orc:FuncId->List AV->Option AV}{dr:Bool}{sl s1:List (Nat × AV)}{hp:Hp}{o:Oper}(h:pvE E orc dr sl hp o=some s1):∃r,(stP E (c7n E dr o sl) hp o.op=some r\/clE E orc (c7n E dr o sl) o.op=some r)/\s1=put o.dst r sl:=by
 unfold pvE at h
 split at h
 ·rename_i r hr
  split at h
  ·rename_i r2 hn
   have e:=c6D hn
   subst e
   split at h
   ·rename_i d hd
    cases h;exact ⟨_,.inl hr,by rw [hd];rfl⟩
   ·rename_i hd
    cases h;exact ⟨_,.inl hr,by rw [hd];rfl⟩
  ·cases h
 split at h
 ·rename_i r hr
  split at h
  ·rename_i r2 hn
   have e:=c6D hn
   subst e
   split at h
   ·rename_i d hd
    cases h;exact ⟨_,.inr hr,by rw [hd];rfl⟩
   ·cases h
  ·cases h
 ·cases h
theorem b0M{E:Env}{orc:FuncId->List AV->Option AV}(ho:∀k a r,orc k a=some r->Pur E k a r){o:Oper}{ρ:Operand->AV}(hG:∀g,ρ (.global g)=E.G g){hp:Hp}{r:AV}{K:AV->Hp->Prop}(h:clE E orc ρ o.op=some r)(hK:K r hp):a0B E o ρ hp K:=by
 obtain ⟨d,op,ty,pos,after,g⟩:=o
 unfold clE at h
 split at h
 ·rename_i f args tys heq
  have heq':op=.call ⟨.value f,args,tys⟩:=heq
  subst heq'
  split at h
  ·rename_i k cap hf
   obtain ⟨l⟩:=args
   obtain ⟨h1,h2⟩:=ho _ _ _ h
   refine a1h (args:=l) hG hf ((a0f h2 h1 hp).mono ?_)
   rintro _ _ ⟨rfl,rfl⟩
   exact hK
  ·cases h
 ·rename_i t x i heq
  have heq':op=.indexAddr t x i:=heq
  subst heq'
  split at h
  ·rename_i k es kk j hx hi
   split at h
   ·rename_i e htk
    split at h
    ·rename_i b hb
     cases hc:(Nat.blt t E.n&&Nat.blt e E.n&&Nat.beq (E.ti e).sz k&&Nat.blt 0 k&&known b) with
     | false=>rw [hc] at h;cases h
     | true =>
      rw [hc] at h
      cases h
      simp only [Bool.and_eq_true] at hc
      obtain ⟨⟨⟨⟨c1,c2⟩,c3⟩,c4⟩,c5⟩:=hc
      exact a4g c1 htk c2 hx hi c3 c4 hb rfl c5 hK
    ·cases h
   ·cases h
  ·cases h
 ·cases h
theorem c2O{E:Env}{dr:Bool}{o:Oper}{sl:List (Nat × AV)}(g:Nat):c7n E dr o sl (.global g)=E.G g:=by
 cases dr<;>rfl
theorem b8N(sl:List (Nat × AV))(o:Oper):skE sl o=put o.dst (.tup []) sl:=by
 unfold skE
 split
 ·rename_i d hd;rw [hd];rfl
 ·rename_i hd;rw [hd];rfl
theorem b7U(d:Option Nat)(v:AV)(sl:List (Nat × AV)):∃nw,put d v sl=nw++sl:=by
 cases d with
 | none=>exact ⟨[],rfl⟩
 | some d=>exact ⟨[(d,v)],rfl⟩
theorem a7F{E:Env}{orc:FuncId->List AV->Option AV}{dr:Bool}{ops:Array Oper}{hp:Hp}:∀{n:Nat} {kn lt:List Nat} {l:List Oper} {sl r:List (Nat × AV)},a7b E orc dr ops hp n kn lt l sl=some r->∃nw,r=nw++sl:=by
 intro n
 induction n with
 | zero=>intro kn lt l sl r h;simp [a7b] at h
 | succ n ih =>
  intro kn lt l sl r h
  cases l with
  | nil =>
   have h':some sl=some r:=by simpa [a7b] using h
   cases h'
   exact ⟨[],rfl⟩
  | cons o rest =>
   unfold a7b at h
   have step:∀{s1 k1},pvE E orc dr sl hp o=some s1->a7b E orc dr ops hp n kn k1 rest s1=some r->∃nw,r=nw++sl:=fun hp1 h1=>by
    obtain ⟨v,_,rfl⟩:=b2G hp1
    obtain ⟨n1,rfl⟩:=ih h1
    obtain ⟨n2,e⟩:=b7U o.dst v sl
    exact ⟨n1++n2,by rw [e,List.append_assoc]⟩
   split at h
   ·split at h
    ·rename_i s1 h1
     split at h
     ·exact step h1 h
     ·cases h
    ·cases h
   rename_i j want hg
   cases hk:kn.any fun i=>Nat.beq i j with
   | true =>
    rw [hk] at h
    simp only [cond_true] at h
    split at h
    ·split at h
     ·rename_i s1 h1
      split at h
      ·exact step h1 h
      ·cases h
     ·cases h
    ·obtain ⟨n1,rfl⟩:=ih h
     obtain ⟨n2,e⟩:=b7U o.dst (.tup []) sl
     exact ⟨n1++n2,by rw [b8N,e,List.append_assoc]⟩
    ·cases h
   | false =>
    rw [hk] at h
    simp only [cond_false] at h
    split at h
    ·rename_i d _
     split at h
     ·rename_i b hb
      cases hlt:lt.any fun i=>Nat.beq i d with
      | true =>
       rw [hlt] at h
       cases b with
       | true=>obtain ⟨n1,rfl⟩:=ih h;exact ⟨n1++[_],by rw [List.append_assoc];rfl⟩
       | false=>obtain ⟨n1,rfl⟩:=ih h;exact ⟨n1++[_],by rw [List.append_assoc];rfl⟩
      | false =>
       rw [hlt] at h
       simp only [cond_false] at h
       split at h
       ·rename_i s1 s0 _ _
        cases hl:Nat.beq s1.length s0.length with
        | true =>
         rw [hl] at h
         obtain ⟨nw,_,e⟩:=b7s h
         exact ⟨nw,e⟩
        | false=>rw [hl] at h;cases h
       ·cases h
     ·obtain ⟨n1,rfl⟩:=ih h
      exact ⟨n1++[_],by rw [List.append_assoc];rfl⟩
     ·cases h
    ·cases h
theorem a3Y{sl:List (Nat × AV)}{d:Nat}{v:AV}(h:get sl d=v)(k:Nat):get sl k=get ((d,v)::sl) k:=by
 show get sl k=cond (Nat.beq d k) v (get sl k)
 cases hk:Nat.beq d k with
 | true=>rw [<- Nat.eq_of_beq_eq_true hk,h];rfl
 | false=>rfl
theorem b5p{E:Env}{orc:FuncId->List AV->Option AV}(ho:∀k a r,orc k a=some r->Pur E k a r){ops:Array Oper}{hp:Hp}{K:St->Prop}(hK:∀sl sl',Fin E sl sl'->K ⟨sl',hp⟩->K ⟨sl,hp⟩):∀{n:Nat} {kn lt:List Nat} {l:List Oper} {sl r:List (Nat × AV)},a7b E orc false ops hp n kn lt l sl=some r->K ⟨r,hp⟩->a1G E ops l K ⟨sl,hp⟩:=by
 intro n
 induction n with
 | zero=>intro kn lt l sl r h;simp [a7b] at h
 | succ n ih =>
  intro kn lt l sl r h hk0
  cases l with
  | nil =>
   have h':some sl=some r:=by simpa [a7b] using h
   cases h'
   exact a7r hk0
  | cons o rest =>
   unfold a7b at h
   have step:∀{s1 k1},a0S ops o sl=some true->pvE E orc false sl hp o=some s1->a7b E orc false ops hp n kn k1 rest s1=some r->a1G E ops (o::rest) K ⟨sl,hp⟩:=fun hw hp1 h1=>by
    obtain ⟨v,hv,rfl⟩:=b2G hp1
    exact a2G hw (hv.elim (fun hv=>a3N hv (ih h1 hk0)) fun hv=>b0M ho c2O hv (ih h1 hk0))
   split at h
   ·rename_i hg
    split at h
    ·rename_i s1 h1
     split at h
     ·exact step (by unfold a0S;rw [hg]) h1 h
     ·cases h
    ·cases h
   rename_i j want hg
   cases hk:kn.any fun i=>Nat.beq i j with
   | true =>
    rw [hk] at h
    simp only [cond_true] at h
    split at h
    ·rename_i hw
     split at h
     ·rename_i s1 h1
      split at h
      ·exact step hw h1 h
      ·cases h
     ·cases h
    ·rename_i hw
     rw [b8N] at h
     exact a7M hw (ih h hk0)
    ·cases h
   | false =>
    rw [hk] at h
    simp only [cond_false] at h
    split at h
    ·rename_i d hd
     split at h
     ·rename_i b hb
      cases hlt:lt.any fun i=>Nat.beq i d with
      | true =>
       rw [hlt] at h
       cases b with
       | true=>exact a3R (sl':=(d,.bool true)::sl) (a3Y hb) (ih h hk0)
       | false=>exact a3R (sl':=(d,.bool false)::sl) (a3Y hb) (ih h hk0)
      | false =>
       rw [hlt] at h
       simp only [cond_false] at h
       split at h
       ·rename_i s1 s0 h1 h0
        have hll:s1.length=s0.length:=by
         cases hl:Nat.beq s1.length s0.length with
         | true=>exact Nat.eq_of_beq_eq_true hl
         | false=>rw [hl] at h;cases h
        rw [hll,Nat.beq_refl] at h
        simp only [cond_true] at h
        rw [<- hll] at h
        obtain ⟨n1,e1⟩:=a7F h1
        obtain ⟨n0,e0⟩:=a7F h0
        have e1':s1=(n1++[(d,.bool true)])++sl:=by rw [e1];simp
        have e0':s0=(n0++[(d,.bool false)])++sl:=by rw [e0];simp
        have hlen:s1.length - sl.length=(n1++[(d,AV.bool true)]).length:=by rw [e1'];simp;omega
        have h3:=h
        rw [hlen,e1',e0'] at h3
        have hl0:(n0++[(d,AV.bool false)]).length=(n1++[(d,AV.bool true)]).length:=by
         have h5:=congrArg List.length e1'
         have h6:=congrArg List.length e0'
         simp only [List.length_append] at h5 h6 ⊢
         omega
        obtain ⟨f1,f0⟩:=b2q (E:=E) rfl hl0 h3
        cases b with
        | true=>exact a3R (sl':=(d,.bool true)::sl) (a3Y hb) (ih h1 (hK _ _ (by rw [e1'];exact f1 rfl) hk0))
        | false=>exact a3R (sl':=(d,.bool false)::sl) (a3Y hb) (ih h0 (hK _ _ (by rw [e0'];exact f0 rfl) hk0))
       ·cases h
     ·rename_i hb
      exact a3R (a3Y hb) (ih h hk0)
     ·cases h
    ·cases h
theorem c3o{E:Env}{ops:Array Oper}{hp:Hp}{K:St->Prop}{i:Nat}{o:Oper}{is:List Nat}{sl:List (Nat × AV)}{v:AV}(ho:ops[i]?=some o)(hw:a0S ops o sl=some true)(hs:a0B E o (evF E (a5o o) (get sl)) hp (fun r H'=>r=v/\H'=hp))(h:awM E ops [] [] K is ⟨put o.dst v sl,hp⟩):awM E ops [] [] K (i::is) ⟨sl,hp⟩:=by
 simp only [awM,ho,hw]
 exact ⟨v,hs,h⟩
theorem c5X{E:Env}{ops:Array Oper}{hp:Hp}{K:St->Prop}{i:Nat}{o:Oper}{is:List Nat}{sl:List (Nat × AV)}(ho:ops[i]?=some o)(hw:a0S ops o sl=some false)(h:awM E ops [] [] K is ⟨put o.dst (.tup []) sl,hp⟩):awM E ops [] [] K (i::is) ⟨sl,hp⟩:=by
 simp only [awM,ho,hw]
 exact h
theorem b5o{E:Env}{orc:FuncId->List AV->Option AV}(ho:∀k a r,orc k a=some r->Pur E k a r){ops:Array Oper}{hp:Hp}{K:St->Prop}(hK:∀sl sl',Fin E sl sl'->K ⟨sl',hp⟩->K ⟨sl,hp⟩):∀{n:Nat} {kn lt:List Nat} {l:List Oper} {sl r:List (Nat × AV)} {is:List Nat},is.map (fun i=>ops[i]?)=l.map some->a7b E orc true ops hp n kn lt l sl=some r->K ⟨r,hp⟩->awM E ops [] [] K is ⟨sl,hp⟩:=by
 intro n
 induction n with
 | zero=>intro kn lt l sl r is his h;simp [a7b] at h
 | succ n ih =>
  intro kn lt l sl r is his h hk0
  cases l with
  | nil =>
   have h':some sl=some r:=by simpa [a7b] using h
   cases h'
   cases is with
   | nil=>exact ⟨sl,rfl,hk0⟩
   | cons i is=>simp at his
  | cons o rest =>
   cases is with
   | nil=>simp at his
   | cons i is =>
   have his':=his
   rw [List.map_cons,List.map_cons] at his'
   obtain ⟨hio,hir⟩:=List.cons.inj his'
   unfold a7b at h
   have step:∀{s1 k1},a0S ops o sl=some true->pvE E orc true sl hp o=some s1->a7b E orc true ops hp n kn k1 rest s1=some r->awM E ops [] [] K (i::is) ⟨sl,hp⟩:=fun hw hp1 h1=>by
    obtain ⟨v,hv,rfl⟩:=b2G hp1
    exact c3o hio hw (hv.elim (fun hv=>a3N hv ⟨rfl,rfl⟩) fun hv=>b0M ho c2O hv ⟨rfl,rfl⟩) (ih hir h1 hk0)
   split at h
   ·rename_i hg
    split at h
    ·rename_i s1 h1
     split at h
     ·exact step (by unfold a0S;rw [hg]) h1 h
     ·cases h
    ·cases h
   rename_i j want hg
   cases hk:kn.any fun i=>Nat.beq i j with
   | true =>
    rw [hk] at h
    simp only [cond_true] at h
    split at h
    ·rename_i hw
     split at h
     ·rename_i s1 h1
      split at h
      ·exact step hw h1 h
      ·cases h
     ·cases h
    ·rename_i hw
     rw [b8N] at h
     exact c5X hio hw (ih hir h hk0)
    ·cases h
   | false =>
    rw [hk] at h
    simp only [cond_false] at h
    split at h
    ·rename_i d hd
     split at h
     ·rename_i b hb
      have pre:∀{v:AV},get sl d=v->get sl=get ((d,v)::sl):=fun h=>funext (a3Y h)
      cases hlt:lt.any fun i=>Nat.beq i d with
      | true =>
       rw [hlt] at h
       cases b with
       | true=>exact a3e (pre hb) (ih his h hk0)
       | false=>exact a3e (pre hb) (ih his h hk0)
      | false =>
       rw [hlt] at h
       simp only [cond_false] at h
       split at h
       ·rename_i s1 s0 h1 h0
        have hll:s1.length=s0.length:=by
         cases hl:Nat.beq s1.length s0.length with
         | true=>exact Nat.eq_of_beq_eq_true hl
         | false=>rw [hl] at h;cases h
        rw [hll,Nat.beq_refl] at h
        simp only [cond_true] at h
        rw [<- hll] at h
        obtain ⟨n1,e1⟩:=a7F h1
        obtain ⟨n0,e0⟩:=a7F h0
        have e1':s1=(n1++[(d,.bool true)])++sl:=by rw [e1];simp
        have e0':s0=(n0++[(d,.bool false)])++sl:=by rw [e0];simp
        have hlen:s1.length - sl.length=(n1++[(d,AV.bool true)]).length:=by rw [e1'];simp;omega
        have h3:=h
        rw [hlen,e1',e0'] at h3
        have hl0:(n0++[(d,AV.bool false)]).length=(n1++[(d,AV.bool true)]).length:=by
         have h5:=congrArg List.length e1'
         have h6:=congrArg List.length e0'
         simp only [List.length_append] at h5 h6 ⊢
         omega
        obtain ⟨f1,f0⟩:=b2q (E:=E) rfl hl0 h3
        cases b with
        | true=>exact a3e (pre hb) (ih his h1 (hK _ _ (by rw [e1'];exact f1 rfl) hk0))
        | false=>exact a3e (pre hb) (ih his h0 (hK _ _ (by rw [e0'];exact f0 rfl) hk0))
       ·cases h
     ·rename_i hb
      exact a3e (funext (a3Y hb)) (ih his h hk0)
     ·cases h
    ·cases h
theorem b4c(a:Array Oper):∀(n i:Nat),i+n=a.size->(b2B n i).map (fun i=>a[i]?)=(a.toList.drop i).map some
 | 0,i,h=>by
  rw [List.drop_of_length_le (by rw [Array.length_toList];omega)];rfl
 | n+1,i,h=>by
  have hi:i<a.toList.length:=by rw [Array.length_toList];omega
  rw [List.drop_eq_getElem_cons hi]
  show a[i]?::(b2B n (i+1)).map _=some a.toList[i]::((a.toList.drop (i+1)).map some)
  rw [b4c a n (i+1) (by omega),Array.getElem?_eq_getElem (by simpa using hi)]
  simp
theorem b7a{E:Env}{N n0:Nat}{sl sl':List (Nat × AV)}{hp:Hp}(h:Fin E sl sl'):Imp E N n0 ⟨sl,hp⟩ ⟨sl',hp⟩:=fun m0 w0 _ m w a he hs =>
 ⟨m,he,⟨hs.ok,fun k=>h k m w _ (hs.slots k),hs.size,hs.defers,hs.sim,hs.glob⟩⟩
theorem Za{E:Env}{orc:FuncId->List AV->Option AV}(ho:∀k a r,orc k a=some r->Pur E k a r){N n0:Nat}{id:Nat}{l:Array Oper}{c2:Code}{Q Q2:Exit->St->Prop}{sl sl1:List (Nat × AV)}{hp:Hp}(hd:a2V N l.toList=true)(h:a7b E orc false l hp 400 [] [] l.toList sl=some sl1)(k:AWp E N n0 c2 Q2 ⟨sl1,hp⟩) :
  AWp E N n0 (.region id l false) (a8M (AWp E N n0 c2 Q2) Q) ⟨sl,hp⟩ :=
 a3f (s1:=⟨sl1,hp⟩) (a0w (l:=l.toList) hd (b5p ho (K:=fun s=>Exit.normal=.normal/\Imp E N n0 s ⟨sl1,hp⟩) (fun _ _ hf hk=>⟨rfl,(b7a hf).trans hk.2⟩) h ⟨rfl,fun _ _ _ m w a he hs=>⟨m,he,hs⟩⟩)) k
theorem Zg{E:Env}{orc:FuncId->List AV->Option AV}(ho:∀k a r,orc k a=some r->Pur E k a r){N n0:Nat}{id:Nat}{l:Array Oper}{c2:Code}{Q Q2:Exit->St->Prop}{sl sl1:List (Nat × AV)}{hp:Hp}(hd:a2V N l.toList=true)(h:a7b E orc true l hp 400 [] [] l.toList sl=some sl1)
  (hord:(a8p l [] [] (b2B l.toList.length 0) (Array.replicate l.toList.length false)&&b6s l (Array.replicate l.toList.length false)&&(Region.ready .any l (a7m (b2B l.toList.length 0) (Array.replicate l.toList.length false))).isEmpty)=true) (k:AWp E N n0 c2 Q2 ⟨sl1,hp⟩) :
  AWp E N n0 (.region id l true) (a8M (AWp E N n0 c2 Q2) Q) ⟨sl,hp⟩ :=
 a3f (s1:=⟨sl1,hp⟩) (a0m (l:=l.toList) [] [] hd hord (b5o ho (K:=fun s=>Exit.normal=.normal/\Imp E N n0 s ⟨sl1,hp⟩) (fun _ _ hf hk=>⟨rfl,(b7a hf).trans hk.2⟩) (by
  rw [Array.length_toList]
  exact (b4c l l.size 0 (by omega)).trans (by simp)) h ⟨rfl,fun _ _ _ m w a he hs=>⟨m,he,hs⟩⟩)) k
def c9d:FuncId->List AV->Option AV:=fun _ _=>none
theorem c4o{E:Env}:∀k a r,c9d k a=some r->Pur E k a r:=fun _ _ _ h=>by cases h
theorem Zb{E:Env}{N n0:Nat}{id:Nat}{l:Array Oper}{c2:Code}{Q Q2:Exit->St->Prop}{sl sl1:List (Nat × AV)}{hp:Hp}(hd:a2V N l.toList=true)(h:a7b E c9d false l hp 400 [] [] l.toList sl=some sl1)(k:AWp E N n0 c2 Q2 ⟨sl1,hp⟩) :
  AWp E N n0 (.region id l false) (a8M (AWp E N n0 c2 Q2) Q) ⟨sl,hp⟩:=Za c4o hd h k
/-! ### From one state to another, slot by slot -/
theorem hk0:HOk 0 []:=fun _ _ h=>by cases h
theorem c2A{k:Nat}{v:AV}:∀{l:List (Nat × AV)},a0e k (l.map (·.2))->∀p∈l,a0g k p.2
 | q::l,h,p,hp=>by
  rcases List.mem_cons.1 hp with rfl|hp
  ·exact h.1
  ·exact c2A (v:=v) h.2 p hp
theorem get_at{sl:List (Nat × AV)}:∀{l:List (Nat × AV)},l.map (fun p=>get sl p.1)=l.map (·.2)->∀p∈l,get sl p.1=p.2
 | q::l,h,p,hp=>by
  rw [List.map_cons,List.map_cons] at h
  rcases List.mem_cons.1 hp with rfl|hp
  ·exact (List.cons.inj h).1
  ·exact get_at (List.cons.inj h).2 p hp
theorem ik{E:Env}{N n0:Nat}{sl sl':List (Nat × AV)}{hp H0:Hp}(k:Nat)(hok:HOk k H0)(hh:hp.take k=H0)(hl:Nat.ble k hp.length=true)(hn:Nat.ble n0 k=true)(he:sl'.map (fun p=>get sl p.1)=sl'.map (·.2))(hi:a0e k (sl'.map (·.2))) :
  Imp E N n0 ⟨sl,hp⟩ ⟨sl',H0⟩ :=
 a0i k (Nat.le_of_ble_eq_true hn) hok hh (Nat.le_of_ble_eq_true hl) fun p hp=>⟨get_at he p hp,c2A (v:=.any) hi p hp⟩
theorem ik0{E:Env}{N:Nat}{sl sl':List (Nat × AV)}{hp:Hp}(he:sl'.map (fun p=>get sl p.1)=sl'.map (·.2))(hi:a0e 0 (sl'.map (·.2))):Imp E N 0 ⟨sl,hp⟩ ⟨sl',[]⟩ :=
 ik 0 hk0 rfl rfl rfl he hi
end Go.Abs
namespace Go.Abs
def b4h(ops:Array Oper)(ef:List Nat)(a da:Nat):List Nat->Array Bool->Bool
 | [],_=>true
 | j::r,l=>(Region.ready .any ops l == [j,a] || Region.ready .any ops l == [a,j])&&Region.ready .any ops (l.setIfInBounds a true) == [j]&&ef.contains j&&!(Nat.beq a j) &&
  (match ops[j]? with
   | some ⟨some d,op,ty,pos,after,none⟩=>!((a5o ⟨some d,op,ty,pos,after,none⟩).contains da)&&!(Nat.beq d da)
   | _=>false)&&b4h ops ef a da r (l.setIfInBounds j true)
section
variable{E:Env}{ops:Array Oper}{ef so:List Nat}{R:Sf->Hp->Prop}{fuel:Nat}
inductive Rc(E:Env)(ops:Array Oper)(K:St->Prop):List Nat->List (Nat × AV)->Hp->Prop
 | nil {sl:List (Nat × AV)} {H:Hp} (h:K ⟨sl,H⟩):Rc E ops K [] sl H
 | cons {j d:Nat} {op:Op} {ty:TypeId} {pos:String} {after:Array Edge} {js:List Nat} {sl:List (Nat × AV)} {H H1:Hp} {v:AV} (hi:ops[j]?=some ⟨some d,op,ty,pos,after,none⟩)
  (hs:∀Y,a0B E ⟨some d,op,ty,pos,after,none⟩ (evF E (a5o ⟨some d,op,ty,pos,after,none⟩) (get sl)) (H++Y) (fun r H'=>r=v/\H'=H1++Y)) (hl:H1.length=H.length) (h:Rc E ops K js ((d,v)::sl) H1):Rc E ops K (j::js) sl H
theorem c0q{o:Oper}{d:Nat}{v:AV}{σ:Sf}(h:(a5o o).contains d=false):evF E (a5o o) (upd (some d) v σ)=evF E (a5o o) σ:=by
 funext x
 cases x with
 | tmp t =>
  simp only [evF,upd]
  cases hc:(a5o o).contains t with
  | false=>rfl
  | true =>
   have:d≠t:=fun e=>by subst e;rw [h] at hc;cases hc
   simp [this]
 | _=>rfl
theorem set_comm{l:Array Bool}{a j:Nat}:(l.setIfInBounds a true).setIfInBounds j true=(l.setIfInBounds j true).setIfInBounds a true:=by
 refine Array.ext_getElem? fun k=>?_
 simp only [Array.getElem?_setIfInBounds,Array.size_setIfInBounds]
 grind
theorem c4F{a da:Nat}{n:Nat}{oa:AO}{ty:TypeId}{opa:Op}{pos:String}{after:Array Edge}(hia:ops[a]?=some ⟨some da,opa,ty,pos,after,none⟩)(hea:ef.contains a=true)
  (ha:∀(ρ:Operand->AV) (H:Hp),a0B E ⟨some da,opa,ty,pos,after,none⟩ ρ H (fun r H'=>r=.ptr H.length 0/\H'=H++[some oa])) {js:List Nat} {sl:List (Nat × AV)} {H:Hp} (l:Array Bool) (hok:b4h ops ef a da js l=true)
  (hn:H.length=n) (h:Rc E ops (fun s=>anyM E ops ef so R (fuel+1) (a7m js l) (get s.sl) s.hp/\anyM E ops ef so R fuel ((a7m js l).setIfInBounds a true) (get ((da,.ptr n 0)::s.sl)) (s.hp++[some oa])) js sl H) :
  anyM E ops ef so R (fuel+js.length+1) l (get sl) H/\anyM E ops ef so R (fuel+js.length) (l.setIfInBounds a true) (upd (some da) (.ptr n 0) (get sl)) (H++[some oa]):=by
 have hma:∀{K:Sf->Hp->Prop} {σ:Sf} {H:Hp},H.length=n->K (upd (some da) (.ptr n 0) σ) (H++[some oa])->mOp E ops ef so a K σ H:=fun {K σ H} hn hk=>by
  unfold mOp
  simp only [hia,a2l,hea,if_true]
  refine a1o (ha _ _) ?_
  rintro r H' ⟨rfl,rfl⟩
  rw [hn];exact hk
 induction js generalizing l sl H with
 | nil =>
  cases h with
  | nil h =>
  refine ⟨h.1,?_⟩
  rw [<- a4O (d:=some da)];exact h.2
 | cons j js ih =>
  cases h with
  | @cons _ d op ty' pos' after' _ _ _ H1 v hi hs hl h =>
  simp only [b4h,Bool.and_eq_true,hi,Bool.not_eq_true'] at hok
  obtain ⟨⟨⟨⟨⟨h1,h2⟩,h3⟩,h4⟩,h5,h6⟩,h7⟩:=hok
  have hda:d≠da:=fun e=>by rw [e] at h6;simp at h6
  obtain ⟨iA,iB⟩:=ih (l.setIfInBounds j true) h7 (hl.trans hn) h
  have hu:get ((d,v)::sl)=upd (some d) v (get sl):=a4O (d:=some d)
  rw [hu] at iA iB
  have hB:mOp E ops ef so j (anyM E ops ef so R (fuel+js.length) ((l.setIfInBounds a true).setIfInBounds j true)) (upd (some da) (.ptr n 0) (get sl)) (H++[some oa]):=by
   unfold mOp
   simp only [hi,a2l,h3,if_true]
   rw [c0q h5]
   refine a1o (hs [some oa]) ?_
   rintro r H' ⟨rfl,rfl⟩
   rw [set_comm,b4C (fun k hk e=>hda (by cases hk;cases e;rfl))]
   exact iB
  have h8:anyM E ops ef so R (fuel+(j::js).length) (l.setIfInBounds a true) (upd (some da) (.ptr n 0) (get sl)) (H++[some oa]):=by
   refine ⟨fun h0=>?_,fun i hi=>?_⟩
   ·have:=eq_of_beq h2;rw [h0] at this;cases this
   rw [eq_of_beq h2] at hi
   cases List.mem_singleton.1 hi
   exact hB
  have hj:mOp E ops ef so j (anyM E ops ef so R (fuel+(j::js).length) (l.setIfInBounds j true)) (get sl) H:=by
   unfold mOp
   simp only [hi,a2l,h3,if_true]
   have h9:=hs []
   simp only [List.append_nil] at h9
   refine a1o h9 ?_
   rintro r H' ⟨rfl,rfl⟩
   exact iA
  refine ⟨⟨fun h0=>?_,fun i hi=>?_⟩,h8⟩
  ·rw [h0] at h1;cases h1
  have h9:i=j\/i=a:=by
   rcases Bool.or_eq_true _ _ ▸ h1 with e|e
   ·rw [eq_of_beq e] at hi;simpa using hi
   ·rw [eq_of_beq e] at hi;simpa [or_comm] using hi
  rcases h9 with rfl|rfl
  ·exact hj
  ·exact hma hn h8
theorem b3l(js:List Nat)(a:Nat){da n m:Nat}{e ty:TypeId}{z:List AV}{pos:String}{after:Array Edge}{sl:List (Nat × AV)}{H:Hp}{l:Array Bool}(hia:ops[a]?=some ⟨some da,.alloc e,ty,pos,after,none⟩)(he:Nat.blt e E.n=true)(hz:(E.ti e).z=some z)
  (hf:Nat.beq m (fuel+js.length+1)=true) (hok:(ef.contains a&&b4h ops ef a da js l)=true) (hn:H.length=n)
  (h:Rc E ops (fun s=>anyM E ops ef so R (fuel+1) (a7m js l) (get s.sl) s.hp/\anyM E ops ef so R fuel ((a7m js l).setIfInBounds a true) (get ((da,.ptr n 0)::s.sl)) (s.hp++[some (.cells z e)])) js sl H):anyM E ops ef so R m l (get sl) H:=by
 rw [Nat.eq_of_beq_eq_true hf]
 simp only [Bool.and_eq_true] at hok
 exact (c4F hia hok.1 (fun ρ H=>a1S he hz ⟨rfl,rfl⟩) l hok.2 hn h).1
end
end Go.Abs
namespace Go.Abs
section
variable{E:Env}{N n0:Nat}{sl sl':List (Nat × AV)}{hp H0:Hp}{c:Code}{Q:Exit->St->Prop}
theorem kk(k:Nat)(hok:HOk k H0)(h:(hp.take k,Nat.ble k hp.length&&Nat.ble n0 k,sl'.map fun p=>get sl p.1)=(H0,true,sl'.map (·.2)))(hi:a0e k (sl'.map (·.2))):Imp E N n0 ⟨sl,hp⟩ ⟨sl',H0⟩:=by
 obtain ⟨h1,h2,h3⟩:=by simpa only [Prod.mk.injEq,Bool.and_eq_true] using h
 exact ik k hok h1 h2.1 h2.2 h3 hi
def slB(f:AV->AV)(sl:List (Nat × AV)):List Nat->Option (List (Nat × AV))
 | []=>some []
 | i::r=>match nv (f (get sl i)),slB f sl r with
  | some v,some l=>some ((i,v)::l)
  | _,_=>none
theorem b8O{f:AV->AV}(hf:f .any=.any):∀{ks:List Nat} {sl':List (Nat × AV)},slB f sl ks=some sl'->sl'.map (fun p=>get (sl.map fun p=>(p.1,f p.2)) p.1)=sl'.map (·.2)
 | [],_,h=>by cases h;rfl
 | i::r,sl',h=>by
  simp only [slB] at h
  split at h
  ·rename_i v l hv hl
   cases h
   rw [List.map_cons,List.map_cons,b8O hf hl,get_map f hf,b2z hv]
  ·cases h
theorem Kc(ks:List Nat)(k:Nat)(hok:HOk k H0)(h:(hp.take k,Nat.ble k hp.length&&Nat.ble n0 k)=(H0,true))(hs:slB id sl ks=some sl')(hi:a0e k (sl'.map (·.2)))(g:AWp E N n0 c Q ⟨sl',H0⟩):AWp E N n0 c Q ⟨sl,hp⟩:=by
 obtain ⟨h1,h2⟩:=by simpa only [Prod.mk.injEq,Bool.and_eq_true] using h
 have:=b8O (f:=id) rfl hs
 refine a0t (ik k hok h1 h2.1 h2.2 (by simpa using this) hi) g
theorem Kz(i:Nat)(ks:List Nat)(k:Nat){cs:List AV}{e:TypeId}(hok:HOk k H0)(h:(hp[i]?,(hp.set i none).take k,Nat.ble k hp.length&&Nat.ble n0 k)=(some (some (.cells cs e)),H0,true))(hs:slB (c6j i cs) sl ks=some sl')(hi:a0e k (sl'.map (·.2)))(g:AWp E N n0 c Q ⟨sl',H0⟩):AWp E N n0 c Q ⟨sl,hp⟩:=by
 obtain ⟨h1,h2,h3⟩:=by simpa only [Prod.mk.injEq,Bool.and_eq_true] using h
 exact a0t ((a0X h1).trans (ik k hok h2 (by rw [List.length_set];exact h3.1) h3.2 (b8O (f:=c6j i cs) rfl hs) hi)) g
end
end Go.Abs
namespace Go.Abs
def b1I(n:Nat):AV:=.int .u32 n
def a4k:List Nat:=[0x00000000,0x105EC76F,0x20BD8EDE,0x30E349B1,0x417B1DBC,0x5125DAD3,0x61C69362,0x7198540D,0x82F63B78,0x92A8FC17,0xA24BB5A6,0xB21572C9,0xC38D26C4,0xD3D3E1AB,0xE330A81A,0xF36E6F75]
noncomputable def E0(X:Nat->Prop):Env:={ P:=Proofs.Tryz.prog,ti:=tiT,n:=334,G:=fun g=>if g=0 then .fp (a4k.map b1I) else .any,X:=X }
theorem c3j(X:Nat->Prop):(E0 X).Ok:=⟨mixed,c7N,fun _=>by { simp only [E0];split<;>first|exact a0h (fun _=>trivial)|simp [a0g] }⟩
mutual
theorem b6Y{a b:Nat}(h:a<=b):∀x:AV,a0g a x->a0g b x
 | .any,_|.int _ _,_|.bool _,_|.str _,_|.nilp,_|.nils,_|.nilm,_|.nilf,_|.nili,_=>by simp [a0g]
 | .fp cs,hx=>by simp only [a0g] at hx ⊢;exact a0x h hx
 | .ptr _ _,hx|.pe _ _ _,hx|.own _ _ _,hx|.mp _,hx=>by simp only [a0g] at hx ⊢;omega
 | .sl _ cs,hx=>by simp only [a0g] at hx ⊢;exact a0x h hx
 | .agg cs,hx=>by simp only [a0g] at hx ⊢;exact a0x h hx
 | .tup cs,hx=>by simp only [a0g] at hx ⊢;exact a0x h hx
 | .clo _ f c,hx=>by simp only [a0g] at hx ⊢;exact ⟨a0x h hx.1,a0x h hx.2⟩
 | .ifc _ x,hx=>by simp only [a0g] at hx ⊢;exact b6Y h x hx
 | .gp _ _,_=>by simp [a0g]
theorem a0x{a b:Nat}(h:a<=b):∀{xs:List AV},a0e a xs->a0e b xs
 | [],_=>trivial
 | x::xs,hx=>by simp only [a0e] at hx ⊢;exact ⟨b6Y h x hx.1,a0x h hx.2⟩
end
attribute [local irreducible] a0B a1G AWp Nx awM
theorem b6g(X:Nat->Prop)(ys:List UInt8)(lo n:Nat)(hn:lo+n<=ys.length)(hb:ys.length<=1073741824) :
  a0b (E0 X) 45 [.own 0 lo n] [some (.arr (ys.map u8A) 5)] (fun r H'=>r=.own 1 0 n/\H'=[some (.arr (ys.map u8A) 5),some (.arr (((ys.drop lo).take n).map u8A) 5)]):=by
 refine Z0 Proofs.Tryz.func45 rfl Proofs.Tryz.ntmps45 (by kernel_rfl) rfl ?_
 repeat' (first|refine Zs rfl ?_|refine Zc rfl ?_|refine Qa rfl ?_)
 refine b1B rfl rfl rfl rfl (by simpa using hn) (fun h0=>?_) ?_
 ·refine nx rfl rfl ?_
  repeat' (first|refine Zs rfl ?_|refine Zc rfl ?_|refine Zh ?_|refine Qh ?_|refine Qs ?_)
  refine a0t (imp_nil 2 5 rfl) ?_
  refine a0c ?_
  subst h0
  exact ⟨_,rfl,rfl,by simp⟩
 refine nx rfl rfl ?_
 repeat' (first|refine Qa rfl ?_|refine Qh ?_|refine Ql ?_|refine Qm ?_|refine Qo rfl ?_|refine Qq rfl ?_)
 refine a1i rfl rfl rfl rfl rfl rfl rfl (.inr rfl) rfl (.inr rfl) ?_
 refine nx rfl rfl ?_
 repeat' (first|refine Zs rfl ?_|refine Qa rfl ?_)
 have hsrc:a7d (E0 X) [some (.arr (ys.map u8A) 5),some (.arr [] 5)] 1 (.own 0 lo n)=some (((ys.drop lo).take n).map u8A):=by
  have h1:a7d (E0 X) [some (.arr (ys.map u8A) 5),some (.arr [] 5)] 1 (.own 0 lo n)=if lo+n<=(ys.map u8A).length then some (((ys.map u8A).drop lo).take n) else none:=by
   show (if (1:Nat)=1/\true=true/\lo+n<=(ys.map u8A).length then _ else _)=_
   simp
  rw [h1,if_pos (by simpa using hn)]
  simp [List.map_take,List.map_drop]
 have hnl:(((ys.drop lo).take n).map u8A).length=n:=by simp;omega
 refine a2K (oid:=some 1) (es:=[]) (new:=((ys.drop lo).take n).map u8A) rfl rfl rfl rfl rfl rfl rfl rfl (a0J (es:=[]) rfl rfl) hsrc (a0P _) ?_ ?_ ?_
 ·rw [hnl];simp [maxLen];omega
 ·rw [hnl]
  show _*1<=_
  simp;omega
 refine nx rfl rfl ?_
 repeat' (first|refine Zs rfl ?_|refine Zh ?_|refine Qs ?_)
 refine a0t (b7b 1 [2] [(2,.own 1 0 n)] [.arr (((ys.drop lo).take n).map u8A) 5] (Nat.le_refl _) (by simp [a3g]) (by simp) (by simp) ?_ ?_ rfl ?_) ?_
 ·intro j o ho
  match j,ho with
  | 0,ho=>cases ho;exact a0x (Nat.zero_le _) (a2c ys)
 ·refine a0a ?_ a0k
  show Ren _ (.own 2 0 _) (.own 1 0 n)
  have:([]:List AV).length+(((ys.drop lo).take n).map u8A).length=n:=by rw [hnl];simp
  rw [this]
  exact a0D rfl
 ·exact a0v rfl (a6i (by simp) (a2c _)) a0N
 ·exact a0c ⟨_,rfl,rfl,by simp [a3g]⟩
structure Dv where
 image:List UInt8
 old:List (Int × List UInt8)
 writes:Int
 fuse:Int
 dead:Bool
def c0P(p:Int × List UInt8):AV × AV:=(.int .i64 p.1,.agg (p.2.map u8A))
def a1c(v:Dv):Hp:=[some (.cells [.own 1 0 v.image.length,.mp 2,.int .i64 v.writes,.int .i64 v.fuse,.bool v.dead] 112),some (.arr (v.image.map u8A) 5),some (.map (v.old.map c0P))]
theorem c6b(X:Nat->Prop)(v:Dv):a0b (E0 X) 55 [.ptr 0 0] (a1c v) (fun r H'=>r=.bool v.dead/\H'=a1c v):=by
 refine Z0 Proofs.Tryz.func55 rfl Proofs.Tryz.ntmps55 (by kernel_rfl) rfl ?_
 refine a0O ?_
 refine a0w rfl ?_
 repeat' (first|(refine Qa rfl ?_;try ((refine Q1 ?_);refine QX rfl rfl ?_))|refine Qh ?_)
 refine a0O ?_
 refine a0w rfl ?_
 repeat' (first|(refine Qa rfl ?_;try ((first|refine Q0 ?_|refine Q1 ?_|refine Q3 rfl rfl rfl ?_|refine Q4 rfl rfl rfl rfl rfl ?_|refine Q5 rfl ?_|refine Q6 rfl ?_|refine QH rfl rfl rfl ?_);refine QX rfl rfl ?_))|refine Qh ?_)
 exact a0c ⟨_,rfl,rfl,rfl⟩
theorem b1w(X:Nat->Prop)(v:Dv):a0b (E0 X) 60 [.ptr 0 0] (a1c v) (fun r H'=>r=.int .i64 (IntKind.i64.wrap ((v.image.length:Int).tdiv 64))/\H'=a1c v):=by
 refine Z0 Proofs.Tryz.func60 rfl Proofs.Tryz.ntmps60 (by kernel_rfl) rfl ?_
 refine a0O ?_
 refine a0w rfl ?_
 repeat' (first|(refine Qa rfl ?_;try ((refine Q1 ?_);refine QX rfl rfl ?_))|refine Qh ?_)
 refine a0O ?_
 refine a0O ?_
 refine a0w rfl ?_
 repeat' (first|(refine Qa rfl ?_;try ((first|refine Q0 ?_|refine QH rfl rfl rfl ?_);refine QX rfl rfl ?_))|refine Qh ?_)
 refine a2f rfl ?_
 refine a2n ?_
 refine a0O ?_
 refine a0w rfl ?_
 repeat' (first|(refine Qa rfl ?_;try ((first|refine Q0 ?_|refine Q1 ?_|refine Q3 rfl rfl rfl ?_|refine Q4 rfl rfl rfl rfl rfl ?_|refine Q6 rfl ?_|refine Q7 rfl rfl rfl ?_|refine QA rfl rfl (by decide) ?_);refine QX rfl rfl ?_))|refine Qh ?_)
 exact a0c ⟨_,rfl,rfl,rfl⟩
def Dv.n(v:Dv):Int:=IntKind.i64.wrap ((v.image.length:Int).tdiv 64)
def Dv.check(v:Dv)(i:Int):Int:=if v.dead=true then 1 else if i<0\/v.n<=i then 2 else 0
theorem c3s(X:Nat->Prop)(v:Dv)(i:Int):a0b (E0 X) 139 [.ptr 0 0,.int .i64 i] (a1c v) (fun r H'=>r=.int .i64 (v.check i)/\H'=a1c v):=by
 refine Z0 Proofs.Tryz.func139 rfl Proofs.Tryz.ntmps139 (by kernel_rfl) rfl ?_
 refine a0O ?_
 refine a0w rfl ?_
 repeat' (first|(refine Qa rfl ?_;try ((refine Q1 ?_);refine QX rfl rfl ?_))|refine Qh ?_)
 refine a0O ?_
 refine a5N ?_
 refine a0O ?_
 refine a0w rfl ?_
 repeat' (first|(refine Qa rfl ?_;try ((first|refine Q0 ?_|refine Q1 ?_|refine Q3 rfl rfl rfl ?_|refine Q4 rfl rfl rfl rfl rfl ?_|refine Q5 rfl ?_|refine Q6 rfl ?_|refine QH rfl rfl rfl ?_);refine QX rfl rfl ?_))|refine Qh ?_)
 refine a0H rfl (fun hd=>?_) (fun hd=>?_)
 ·refine a0O ?_
  refine a0w rfl ?_
  repeat' (first|(refine Qa rfl ?_;try ((refine Q1 ?_);refine QX rfl rfl ?_))|refine Qh ?_)
  exact a0c ⟨_,rfl,by simp [Dv.check,hd]<;>rfl,rfl⟩
 refine a0O ?_
 refine a0w rfl ?_
 repeat' (first|(refine Qa rfl ?_;try ((first|refine Q0 ?_|refine Q1 ?_|refine Q2 rfl ?_|refine Q5 rfl ?_);refine QX rfl rfl ?_))|refine Qh ?_|refine Qi rfl ?_|refine Qy rfl rfl (fun _=>?_) (fun _=>?_))
 ·rename_i hi
  refine a1B rfl ?_
  refine a0O ?_
  refine a0w rfl ?_
  repeat' (first|(refine Qa rfl ?_;try ((refine Q1 ?_);refine QX rfl rfl ?_))|refine Qh ?_)
  exact a0c ⟨_,rfl,by simp [Dv.check,hd,hi]<;>rfl,rfl⟩
 rename_i hi
 refine Cn rfl (b1w X v) rfl rfl ?_
 repeat' (first|(refine Qa rfl ?_;try ((first|refine Q1 ?_|refine Q2 rfl ?_|refine Q5 rfl ?_);refine QX rfl rfl ?_))|refine Qh ?_)
 refine a0d rfl (fun hn=>?_) (fun hn=>?_)
 ·have hn2:v.n<=i:=hn
  refine a0O ?_
  refine a0w rfl ?_
  repeat' (first|(refine Qa rfl ?_;try ((refine Q1 ?_);refine QX rfl rfl ?_))|refine Qh ?_)
  exact a0c ⟨_,rfl,by simp [Dv.check,hd,hn2]<;>rfl,rfl⟩
 have hn2:¬ v.n<=i:=hn
 refine a2n ?_
 refine a0O ?_
 refine a0w rfl ?_
 repeat' (first|(refine Qa rfl ?_;try ((refine Q1 ?_);refine QX rfl rfl ?_))|refine Qh ?_)
 exact a0c ⟨_,rfl,by simp [Dv.check,hd,hi,hn2]<;>rfl,rfl⟩
theorem c9l(X:Nat->Prop)(v:Dv)(i:Nat)(hl:v.image.length<=1073741824)(hi:i*64+64<=v.image.length) :
  a0b (E0 X) 81 [.ptr 0 0,.int .i64 (i:Int)] (a1c v) (fun r H'=>r=.own 1 (i*64) 64/\H'=a1c v):=by
 refine Z0 Proofs.Tryz.func81 rfl Proofs.Tryz.ntmps81 (by kernel_rfl) rfl ?_
 refine a0O ?_
 refine a0w rfl ?_
 repeat' (first|(refine Qa rfl ?_;try ((refine Q1 ?_);refine QX rfl rfl ?_))|refine Qh ?_)
 refine a0O ?_
 refine a0w rfl ?_
 repeat' (refine Qa rfl ?_;try ((first|refine Q0 ?_|refine Q2 rfl ?_|refine Q3 rfl rfl rfl ?_|refine Q4 rfl rfl rfl rfl rfl ?_|refine Q6 rfl ?_);refine QX rfl rfl ?_))
 have h1:IntKind.i64.wrap ((i:Int)*64)=((i*64:Nat):Int):=by rw [a0p (by omega) (by omega)];omega
 have h2:IntKind.i64.wrap (IntKind.i64.wrap ((i:Int)+1)*64)=((i*64+64:Nat):Int):=by
  rw [a0p (n:=(i:Int)+1) (by omega) (by omega),a0p (by omega) (by omega)];omega
 refine a7f (l:=i*64) (h:=i*64+64) rfl rfl rfl rfl rfl rfl rfl (a0r rfl h1) (a0r rfl h2) (by omega) hi ?_
 have h3:AV.own (0+1) (0+i*64) (i*64+64 - i*64)=.own 1 (i*64) 64:=by simp
 rw [h3]
 refine nx rfl rfl ?_
 repeat' (first|(refine Qa rfl ?_;try ((refine Q1 ?_);refine QX rfl rfl ?_))|refine Qh ?_)
 exact a0c ⟨_,rfl,rfl,rfl⟩
theorem a7G{H:Hp}{id:Nat}{o:Option AO}(h:H[id]?=some o):H.set id o=H:=by
 apply List.ext_getElem?
 intro j
 rw [List.getElem?_set]
 split
 ·rename_i hj
  subst hj
  have:=(List.getElem?_eq_some_iff.1 h).1
  rw [if_pos this,h]
 ·rfl
theorem c0b(X:Nat->Prop)(H:Hp)(id:Nat)(ys:List UInt8)(lo n:Nat)(ho:H[id]?=some (some (.arr (ys.map u8A) 5)))(hn:lo+n<=ys.length)(hb:ys.length<=1073741824) :
  a0b (E0 X) 45 [.own id lo n] H (fun r H'=>r=.own H.length 0 n/\H'=H++[some (.arr (((ys.drop lo).take n).map u8A) 5)]):=by
 have hcl:∀(f:Nat->Nat) (l:List UInt8),rnL f (l.map u8A)=l.map u8A:=fun f l=>a1a _ (a2c l)
 have h:=a0b.frame (E:=E0 X) (fun X=>b6g X ys lo n hn hb) [id] H (by simp) rfl (fun j=>by
  match j with
  | 0=>simp
  | j+1=>simp) (fun j i o hj hh=>by
  match j,hj,hh with
  | 0,hj,hh =>
   simp at hj hh
   subst hj hh
   simp only [rnO,hcl]
   exact ho) (by simp [a0e,a0g]) (fun j o hh=>by
  match j,hh with
  | 0,hh =>
   simp at hh
   subst hh
   exact a0x (Nat.zero_le _) (a2c ys))
 refine a0b.mono h ?_
 rintro r H' ⟨r0,h',⟨rfl,rfl⟩,_,rfl,rfl⟩
 refine ⟨?_,?_⟩
 ·simp [rnA,reN]
 simp only [mrg,List.map_cons,List.map_nil,Option.map_some,rnO,hcl,a1F,List.length_cons,List.length_nil,Nat.zero_add,List.drop_succ_cons,List.drop_zero]
 rw [a7G ho]
theorem a8X{v:Dv}{i:Int}(hl:v.image.length<=1073741824)(h:v.check i=0):∃k:Nat,i=k/\k*64+64<=v.image.length:=by
 unfold Dv.check Dv.n at h
 have e:((v.image.length:Int).tdiv 64)=((v.image.length / 64:Nat):Int):=by rw [Int.tdiv_eq_ediv_of_nonneg (by omega)];omega
 rw [e] at h
 rw [a0p (by omega) (by omega)] at h
 split at h
 ·omega
 split at h
 ·omega
 rename_i h1
 refine ⟨i.toNat,by omega,?_⟩
 omega
theorem c7h(X:Nat->Prop)(v:Dv)(i:Int)(hl:v.image.length<=1073741824) :
  a0b (E0 X) 105 [.ptr 0 0,.int .i64 i] (a1c v) (fun r H'=>(v.check i≠0/\r=.tup [.nils,.int .i64 (v.check i)]/\H'=a1c v) \/
   (v.check i=0/\r=.tup [.own 3 0 64,.int .i64 0]/\H'=a1c v++[some (.arr (((v.image.drop (i.toNat*64)).take 64).map u8A) 5)])):=by
 refine Z0 Proofs.Tryz.func105 rfl Proofs.Tryz.ntmps105 (by kernel_rfl) rfl ?_
 refine a0O ?_
 refine a0w rfl ?_
 repeat' (first|(refine Qa rfl ?_;try ((refine Q1 ?_);refine QX rfl rfl ?_))|refine Qh ?_)
 refine a0O ?_
 refine a0O ?_
 refine a0w rfl ?_
 repeat' (refine Qa rfl ?_;try ((refine Q0 ?_);refine QX rfl rfl ?_))
 refine Cn rfl (c3s X v i) rfl rfl ?_
 repeat' (first|(refine Qa rfl ?_;try ((refine Q1 ?_);refine QX rfl rfl ?_))|refine Qh ?_)
 refine a0O ?_
 refine a0w rfl ?_
 repeat' (first|(refine Qa rfl ?_;try ((first|refine Q0 ?_|refine Q2 rfl ?_);refine QX rfl rfl ?_))|refine Qh ?_)
 refine a0d rfl (fun hc=>?_) (fun hc=>?_)
 ·have hc2:v.check i≠0:=hc
  refine a0O ?_
  refine a0w rfl ?_
  repeat' (first|(refine Qa rfl ?_;try ((first|refine Q0 ?_|refine Q1 ?_);refine QX rfl rfl ?_))|refine Qh ?_)
  exact a0c ⟨_,rfl,.inl ⟨hc2,rfl,rfl⟩⟩
 have hc2:v.check i=0:=Decidable.not_not.1 hc
 obtain ⟨k,rfl,hk⟩:=a8X hl hc2
 refine a2n ?_
 refine a0O ?_
 refine a0w rfl ?_
 repeat' (refine Qa rfl ?_;try ((refine Q0 ?_);refine QX rfl rfl ?_))
 refine Cn rfl (c9l X v k hl hk) rfl rfl ?_
 repeat' (refine Qa rfl ?_)
 refine Cn rfl (c0b X (a1c v) 1 v.image (k*64) 64 rfl hk hl) rfl rfl ?_
 repeat' (first|(refine Qa rfl ?_;try ((refine Q1 ?_);refine QX rfl rfl ?_))|refine Qh ?_)
 exact a0c ⟨_,rfl,.inr ⟨hc2,rfl,by simp<;>rfl⟩⟩
def Dv.sector(v:Dv)(k:Nat):List UInt8:=(v.image.drop (k*64)).take 64
def Dv.put(v:Dv)(k:Nat)(b:List UInt8):Dv :=
 { v with image:=v.image.take (k*64)++(b++List.replicate (64 - b.length) 0)++v.image.drop (k*64+64),old:=if (k:Int)∈v.old.map (·.1) then v.old else v.old++[((k:Int),v.sector k)],writes:=IntKind.i64.wrap (v.writes+1) }
theorem a1N(w:Dv):HOk 3 (a1c w):=fun j o ho=>by
 match j,ho with
 | 0,ho=>cases ho;exact ⟨by simp [a0g],by simp [a0g],trivial,trivial,trivial,trivial⟩
 | 1,ho=>cases ho;exact a0x (Nat.zero_le _) (a2c _)
 | 2,ho =>
  cases ho
  refine ⟨?_,?_⟩
  ·rw [List.map_map];exact a0x (Nat.zero_le _) (a9O (fun p=>by simp [c0P,a0g]) _)
  ·rw [List.map_map];exact a0x (Nat.zero_le _) (a9O (fun p=>by simp only [Function.comp,c0P,a0g];exact a2c _) _)
theorem b9Q{E:Env}{N n0:Nat}{Q:Exit->St->Prop}{s s1:St}{c1 c2:Code}(h1:AWp E N n0 c1 (fun e s=>e=.normal/\Imp E N n0 s s1) s)(h2:AWp E N n0 c2 Q s1):AWp E N n0 (.seq c1 c2) Q s :=
 a0O (a3y h1 fun e s h=>by
  obtain ⟨rfl,hi⟩:=h
  exact a0t hi h2)
theorem a4T(X:Nat->Prop)(ys:List UInt8)(hb:ys.length<=1073741824) :
  a0b (E0 X) 45 [.sl 1 (ys.map u8A)] [] (fun r H'=>r=.own 0 0 ys.length/\H'=[some (.arr (ys.map u8A) 5)]):=by
 refine Z0 Proofs.Tryz.func45 rfl Proofs.Tryz.ntmps45 (by kernel_rfl) rfl ?_
 refine a0O ?_
 refine a0w rfl ?_
 repeat' (first|(refine Qa rfl ?_;try ((refine Q1 ?_);refine QX rfl rfl ?_))|refine Qh ?_)
 refine a0O ?_
 refine a0O ?_
 refine a0w rfl ?_
 repeat' (refine Qa rfl ?_;try ((refine Q0 ?_);refine QX rfl rfl ?_))
 refine b2W rfl rfl rfl (by omega) (fun h0=>?_) ?_
 ·refine nx rfl rfl ?_
  repeat' (refine Qh ?_)
  refine a1B rfl ?_
  refine a0O ?_
  refine a0w rfl ?_
  repeat' (first|(refine Qa rfl ?_;try ((refine Q1 ?_);refine QX rfl rfl ?_))|refine Qh ?_)
  refine a0t (imp_nil 2 5 rfl) ?_
  refine a0c ?_
  have:ys=[]:=by simpa using h0
  subst this
  exact ⟨_,rfl,rfl,rfl⟩
 refine nx rfl rfl ?_
 repeat' (refine Qh ?_)
 refine a2f rfl ?_
 refine a2n ?_
 refine a0O ?_
 refine a0w rfl ?_
 repeat' (refine Qa rfl ?_)
 refine a1i rfl rfl rfl rfl rfl rfl rfl (.inr rfl) rfl (.inr rfl) ?_
 refine nx rfl rfl ?_
 repeat' (refine Qa rfl ?_;try ((refine Q0 ?_);refine QX rfl rfl ?_))
 refine a2K (oid:=some 0) (es:=[]) (new:=ys.map u8A) rfl rfl rfl rfl rfl rfl rfl rfl (a0J (es:=[]) rfl rfl) rfl (a0P _) ?_ ?_ ?_
 ·simp [maxLen];omega
 ·show _*1<=_
  simp;omega
 refine nx rfl rfl ?_
 repeat' (first|(refine Qa rfl ?_;try ((refine Q1 ?_);refine QX rfl rfl ?_))|refine Qh ?_)
 refine a0t (b3M [1] (sl':=[(2,.own 0 0 ys.length)]) (os:=[.arr (ys.map u8A) 5]) (by simp) rfl ?_ ?_) ?_
 ·refine a0a ?_ a0k
  show Ren _ (.own 1 0 _) (.own 0 0 ys.length)
  have:([]:List AV).length+(ys.map u8A).length=ys.length:=by simp
  rw [this]
  exact a0D rfl
 ·exact a0v rfl (a6i (by simp) (a2c _)) a0N
 ·exact a0c ⟨_,rfl,rfl,rfl⟩
def a4w(l:Nat):Prop:=l%64=0/\64<=l/\l<=67108864
def Dv.fresh(img:List UInt8):Dv:={ image:=img,old:=[],writes:=0,fuse:=-1,dead:=false }
theorem b7j{l:Nat}(h:l<=1073741824):IntKind.i64.wrap ((l:Int).tdiv 64)=((l / 64:Nat):Int):=by
 have e:((l:Int).tdiv 64)=((l / 64:Nat):Int):=by rw [Int.tdiv_eq_ediv_of_nonneg (by omega)];omega
 rw [e,a0p (by omega) (by omega)]
theorem c3U{l:Nat}(h:l<=1073741824):IntKind.i64.wrap ((l:Int).tmod 64)=((l%64:Nat):Int):=by
 have e:((l:Int).tmod 64)=((l%64:Nat):Int):=by rw [Int.tmod_eq_emod_of_nonneg (by omega)];omega
 rw [e,a0p (by omega) (by omega)]
theorem a9V(X:Nat->Prop)(img:List UInt8)(hb:img.length<=1073741824) :
  a0b (E0 X) 10 [.sl 1 (img.map u8A)] [] (fun r H'=>(a4w img.length/\r=.ptr 0 0/\H'=a1c (Dv.fresh img))\/(¬ a4w img.length/\r=.nilp/\H'=[])):=by
 refine Z0 Proofs.Tryz.func10 rfl Proofs.Tryz.ntmps10 (by kernel_rfl) rfl ?_
 have hll:(img.map u8A).length<=1073741824:=by simpa using hb
 have e1:=b7j hll
 have e2:=c3U hll
 rw [List.length_map] at e1 e2
 refine a0O ?_
 refine a0w rfl ?_
 repeat' (first|(refine Qa rfl ?_;try ((refine Q1 ?_);refine QX rfl rfl ?_))|refine Qh ?_)
 refine a0O ?_
 refine a0w rfl ?_
 repeat' (first|(refine Qa rfl ?_;try ((first|refine Q0 ?_|refine Q1 ?_|refine Q7 rfl rfl rfl ?_|refine QA rfl rfl (by decide) ?_);refine QX rfl rfl ?_))|refine Qh ?_)
 refine a0O ?_
 refine a0O ?_
 refine a0w rfl ?_
 repeat' (first|(refine Qa rfl ?_;try ((first|refine Q0 ?_|refine Q2 rfl ?_|refine Q5 rfl ?_|refine Q7 rfl rfl rfl ?_|refine QB rfl rfl (by decide) ?_);refine QX rfl rfl ?_))|refine Qh ?_|refine Qi rfl ?_|refine Qy rfl rfl (fun _=>?_) (fun _=>?_))
 ·rename_i h1
  have h1':((img.map u8A).length:Int).tmod 64≠0:=fun hh=>by
   exact h1 hh
  refine a1B rfl ?_
  refine a0O ?_
  refine a0w rfl ?_
  repeat' (first|(refine Qa rfl ?_;try ((refine Q1 ?_);refine QX rfl rfl ?_))|refine Qh ?_)
  refine a0c ⟨_,rfl,.inr ⟨fun hh=>?_,rfl,rfl⟩⟩
  apply h1'
  rw [List.length_map,Int.tmod_eq_emod_of_nonneg (by omega)]
  have:=hh.1
  omega
 ·rename_i h1 h2
  refine a1B rfl ?_
  refine a0O ?_
  refine a0w rfl ?_
  repeat' (first|(refine Qa rfl ?_;try ((refine Q1 ?_);refine QX rfl rfl ?_))|refine Qh ?_)
  refine a0c ⟨_,rfl,.inr ⟨fun hh=>?_,rfl,rfl⟩⟩
  have h3:IntKind.i64.wrap (((img.map u8A).length:Int).tdiv 64)<1:=h2
  rw [List.length_map,e1] at h3
  have:=hh.2.1
  omega
 rename_i h1 h2
 have h3:¬ IntKind.i64.wrap (((img.map u8A).length:Int).tdiv 64)<1:=h2
 rw [List.length_map,e1] at h3
 refine a0d rfl (fun h4=>?_) (fun h4=>?_)
 ·refine a0O ?_
  refine a0w rfl ?_
  repeat' (first|(refine Qa rfl ?_;try ((refine Q1 ?_);refine QX rfl rfl ?_))|refine Qh ?_)
  refine a0c ⟨_,rfl,.inr ⟨fun hh=>?_,rfl,rfl⟩⟩
  have h5:1048576<IntKind.i64.wrap (((img.map u8A).length:Int).tdiv 64):=h4
  rw [List.length_map,e1] at h5
  have:=hh.2.2
  omega
 have h5:¬ 1048576<IntKind.i64.wrap (((img.map u8A).length:Int).tdiv 64):=h4
 rw [List.length_map,e1] at h5
 refine a2n ?_
 refine a0O ?_
 refine a0w rfl ?_
 repeat' (refine Qa rfl ?_;try ((refine Q0 ?_);refine QX rfl rfl ?_))
 refine Cn rfl (a4T X img hb) rfl rfl ?_
 repeat' (refine Qa rfl ?_)
 refine a9r ?_
 refine nx rfl rfl ?_
 repeat' (first|(refine Qa rfl ?_;try ((first|refine Q1 ?_|refine QK rfl ?_|refine QP rfl rfl rfl rfl rfl rfl ?_);refine QX rfl rfl ?_))|refine Qh ?_)
 refine a0t (b3M [2,0,1] (sl':=[(2,.ptr 0 0)]) (os:=[.cells [.own 1 0 img.length,.mp 2,.int .i64 0,.int .i64 (-1),.bool false] 112,.arr (img.map u8A) 5,.map []]) (by simp) rfl ?_ ?_) ?_
 ·refine a0a ?_ a0k
  exact a1g rfl
 ·refine a0v rfl ?_ (a0v rfl (a6i rfl (a2c _)) (a0v rfl (a6i rfl ⟨trivial,trivial⟩) a0N))
  exact a1j (a3b.cons (a0D rfl) (a3b.cons (b8b rfl) (a3b.cons (b2K rfl trivial) (a3b.cons (b2K rfl trivial) (a3b.cons (b2K rfl trivial) a3b.nil)))))
 have h6:((img.map u8A).length:Int).tmod 64=0:=Decidable.not_not.1 h1
 rw [List.length_map,Int.tmod_eq_emod_of_nonneg (by omega)] at h6
 exact a0c ⟨_,rfl,.inl ⟨⟨by omega,by omega,by omega⟩,rfl,rfl⟩⟩
theorem c8H(X:Nat->Prop)(n:Int) :
  a0b (E0 X) 42 [.int .i64 n] [] (fun r H'=>(1<=n/\n<=1048576/\r=.ptr 0 0/\H'=a1c (Dv.fresh (List.replicate (n.toNat*64) 0)))\/(¬ (1<=n/\n<=1048576)/\r=.nilp/\H'=[])):=by
 refine Z0 Proofs.Tryz.func42 rfl Proofs.Tryz.ntmps42 (by kernel_rfl) rfl ?_
 refine a0O ?_
 refine a0w rfl ?_
 repeat' (first|(refine Qa rfl ?_;try ((refine Q1 ?_);refine QX rfl rfl ?_))|refine Qh ?_)
 refine a0O ?_
 refine a0O ?_
 refine a0w rfl ?_
 repeat' (first|(refine Qa rfl ?_;try ((first|refine Q0 ?_|refine Q2 rfl ?_|refine Q5 rfl ?_);refine QX rfl rfl ?_))|refine Qh ?_|refine Qi rfl ?_|refine Qy rfl rfl (fun _=>?_) (fun _=>?_))
 ·rename_i h1
  refine a1B rfl ?_
  refine a0O ?_
  refine a0w rfl ?_
  repeat' (first|(refine Qa rfl ?_;try ((refine Q1 ?_);refine QX rfl rfl ?_))|refine Qh ?_)
  exact a0c ⟨_,rfl,.inr ⟨fun hh=>by omega,rfl,rfl⟩⟩
 rename_i h1
 refine a0d rfl (fun h2=>?_) (fun h2=>?_)
 ·refine a0O ?_
  refine a0w rfl ?_
  repeat' (first|(refine Qa rfl ?_;try ((refine Q1 ?_);refine QX rfl rfl ?_))|refine Qh ?_)
  exact a0c ⟨_,rfl,.inr ⟨fun hh=>by omega,rfl,rfl⟩⟩
 refine a2n ?_
 refine a0O ?_
 refine a0w rfl ?_
 repeat' (refine Qa rfl ?_;try ((first|refine Q0 ?_|refine Q2 rfl ?_);refine QX rfl rfl ?_))
 have hw:IntKind.i64.wrap (n*64)=((n.toNat*64:Nat):Int):=by rw [a0p (by omega) (by omega)];omega
 refine b8Z (n:=n.toNat*64) rfl rfl rfl rfl rfl rfl (.inr rfl) (.inr rfl) rfl rfl hw hw ?_ ?_ ?_
 ·show 1 * _<=_
  omega
 ·unfold maxLen;omega
 have hz:List.replicate (n.toNat*64) (c4j [AV.int .u8 0] false)=(List.replicate (n.toNat*64) (0:UInt8)).map u8A:=by rw [List.map_replicate];rfl
 refine nx0 ?_
 refine bs rfl ?_
 refine a1h (fun _=>rfl) rfl ?_
 have hl:=a9V X (List.replicate (n.toNat*64) 0) (by simp;omega)
 rw [<- hz] at hl
 refine a0b.mono hl ?_
 rintro r H' (⟨_,rfl,rfl⟩|⟨hno,_,_⟩)
 ·refine nx rfl rfl ?_
  repeat' (first|(refine Qa rfl ?_;try ((refine Q1 ?_);refine QX rfl rfl ?_))|refine Qh ?_)
  exact a0c ⟨_,rfl,.inl ⟨by omega,by omega,rfl,rfl⟩⟩
 exfalso
 apply hno
 unfold a4w
 rw [List.length_replicate]
 omega
end Go.Abs
