/- RecoveryLoad's walk. Joined texts, each with what its own name promises; no condition beyond those stated. -/
import Derived.Test.YtkmmdlicifiknaaGreatDoorLC
import Derived.Test.YtkmmdlicifiknaaGreatDoorLS
set_option maxHeartbeats 0
set_option maxRecDepth 100000
set_option linter.all false
namespace Go.Abs
theorem d0u{s:Sb}{ps:List Pt}{img:List UInt8}(h:c8g s ps img):a4w img.length/\img.length<=8832:=by
 obtain ⟨h1,h2,h3⟩:=c1R h.ok h.fit
 have h4:=h.len
 have h5:(szN (a1n s.short)).toNat<=138:=by omega
 have h6:82<=(szN (a1n s.short)).toNat:=by omega
 refine ⟨?_,by omega⟩
 unfold a4w
 omega
attribute [local irreducible] a0B a1G AWp Nx awM
theorem d0v(X:Nat->Prop)(s:Sb)(ps:List Pt)(hp:∀p∈ps,c8Y p)(hpl:ps.length<=maxLen)(now:Int):a0b (E0 X) 5 [sbA s,.sl 33 (ps.map ptA),.int .i64 now] [] (fun r H'=>r=.bool true/\H'=[]):=by
 refine a0b.cut0 ?_ trivial
 have hpp:∀{n},a0g n (.sl 33 (ps.map ptA)):=c2L ps
 have hsi:∀{n},a0g n (.fp (sbL s)):=b0u s
 have hdv:=c0k X s ps hp hpl
 refine Z0 Proofs.Tryz.func5 rfl Proofs.Tryz.ntmps5 (by kernel_rfl) rfl ?_
 refine Zc rfl (Zc rfl (Zs rfl (Zs rfl (Zh ?_))))
 refine Kz 0 [1,2,3,6] 0 a2T rfl rfl ⟨hpp,trivial,hsi,trivial,trivial⟩ ?_
 repeat' (first|refine Zs rfl ?_|refine Zc rfl ?_)
 refine Qa rfl ?_
 refine a1h (fun _=>rfl) rfl ?_
 refine a0b.mono hdv ?_
 rintro r H' (⟨img,hd,rfl,rfl⟩|⟨rfl,rfl,-⟩)
 rotate_left
 ·refine nx rfl rfl ?_
  repeat' (first|refine Zs rfl ?_|refine Zc rfl ?_)
  refine Zp rfl rfl (b0g X) rfl ?_
  repeat' (refine Zs rfl ?_)
  refine a0c ⟨_,rfl,rfl⟩
 refine nx rfl rfl ?_
 obtain ⟨hok,him⟩:=d0u hd
 have hu:∀{n},a0e n (img.map u8A):=a0h fun _=>a0n
 repeat' (first|refine Zs rfl ?_|refine Zc rfl ?_)
 refine Qa rfl ?_
 refine a1h (fun _=>rfl) rfl ?_
 refine a0b.mono (a9V X img (by omega)) ?_
 rintro r H' (⟨-,rfl,rfl⟩|⟨h,-,-⟩)
 rotate_left
 ·exact absurd hok h
 refine nx rfl rfl ?_
 have hlv:Lv img.length (Dv.fresh img):=a9Y hok
 have hbv:∀s,a2R (Dv.fresh img)=some s->sbB s=true:=fun s h=>a9U h
 repeat' (first|refine Zs rfl ?_|refine Zc rfl ?_)
 refine Zx (ι:=RSt × Int) (P:=fun q=>a4x img (a2R (Dv.fresh img)) (fun s=>!(a1n s).any (nfB (Dv.fresh img))) (fun s=>a8K (Dv.fresh img) s.mig) now q.1 q.2) (r0:=fun q=>.tup [.agg (rsL q.1),.int .i64 q.2]) (h0:=fun _=>a1c (Dv.fresh img)) rfl rfl ((b7l X (Dv.fresh img) img.length hlv (by omega) now).mono fun r H' ⟨x,e,h1,h2,h3⟩=>⟨(x,e),h1,h2,h3⟩) rfl ?_
 rintro ⟨x,e⟩ hx
 replace hx:a4x img (a2R (Dv.fresh img)) (fun s=>!(a1n s).any (nfB (Dv.fresh img))) (fun s=>a8K (Dv.fresh img) s.mig) now x e:=hx
 obtain ⟨hs1,hs2,hs3⟩:=hx.small hbv (by omega)
 dsimp only
 repeat' (first|refine Zs rfl ?_|refine Zc rfl ?_)
 refine Zx (ι:=RSt × Int) (P:=fun q=>a4x img (a2R (Dv.fresh img)) (fun s=>!(a1n s).any (nfB (Dv.fresh img))) (fun s=>a8K (Dv.fresh img) s.mig) now q.1 q.2) (r0:=fun q=>.tup [.agg (rsL q.1),.int .i64 q.2]) rfl rfl (a4Q (ι:=RSt × Int) (r0:=fun q=>.tup [.agg (rsL q.1),.int .i64 q.2]) (fun Y=>(c4Q Y (Dv.fresh img) img.length hlv (by omega) now).mono fun r H' ⟨x,e,h1,h2,h3⟩=>⟨(x,e),h1,h2,h3⟩) ⟨hu,trivial,trivial⟩ (fun q=>⟨a6D _,trivial,trivial⟩) _) rfl ?_
 rintro ⟨y,f⟩ hy
 obtain ⟨rfl,rfl⟩:=hx.unique hbv hy
 dsimp only
 repeat' (first|refine Zs rfl ?_|refine Zc rfl ?_)
 refine Zp rfl rfl (b0g X) rfl ?_
 repeat' (refine Zs rfl ?_)
 rw [decide_eq_true (rfl:e=e)]
 repeat' (refine Zs rfl ?_)
 refine Zp rfl rfl (c7A x (by omega) (by omega) (by omega) X) rfl ?_
 repeat' (refine Zs rfl ?_)
 refine Qa rfl ?_
 refine Cn rfl (b4Q (fun X=>d0A X (Dv.fresh img) (by show img.length<=_;omega)) trivial (a0h fun _=>a0n) [some (.cells (rsL x) 51),some (.cells (rsL x) 54)]) rfl rfl ?_
 repeat' (refine Zs rfl ?_)
 have heq:Pur (E0 X) 16 [.sl 1 (img.map u8A),.sl 1 (img.map u8A)] (.bool true):=⟨⟨hu,hu,trivial⟩,fun Y=>(b6y Y img img (by omega)).mono fun r H' h=>by rw [decide_eq_true rfl] at h;exact h⟩
 refine Zp rfl rfl (heq) rfl ?_
 repeat' (refine Zs rfl ?_)
 refine a0c ⟨_,rfl,rfl⟩
end Go.Abs
