/- RecoveryLoad's walk. Joined texts, each with what its own name promises; no condition beyond those stated. -/
import Derived.Test.YtkmmdlicifiknaaGreatDoorWC
import Derived.Test.YtkmmdlicifiknaaGreatDoorWS
set_option maxHeartbeats 0
set_option maxRecDepth 100000
set_option linter.all false
namespace Go.Abs
theorem d0u{s:Sb}{ps:List Pt}{img:List UInt8}(h:c8g s ps img):a4w img.length/\img.length<=8832:=by
 obtain ⟨h1,h2,h3⟩:=c1R h.ok h.fit
 have h4:=h.len
 have h5:(szN (a1n s.short)).toNat<=138:=by omega
 have h6:82<=(szN (a1n s.short)).toNat:=by omega
 refine ⟨?_,by omega⟩
 unfold a4w
 omega
attribute [local irreducible] a0B a1G AWp Nx awM
end Go.Abs
