/- Superblocks: the program's Decode. Joined texts, each with what its own name promises; no condition beyond those stated. -/
import Derived.Test.YtkmmdlicifiknaaGreatDoorCC
import Derived.Test.YtkmmdlicifiknaaGreatDoorCM
import Derived.Test.YtkmmdlicifiknaaGreatDoorCG
import Derived.Test.YtkmmdlicifiknaaGreatDoorCE
import Derived.Test.YtkmmdlicifiknaaGreatDoorCL
set_option maxHeartbeats 0
set_option maxRecDepth 100000
set_option linter.all false
namespace Go.Abs
def zOs:AO:=.cells (sbF a4Q .nils) 26
def sdH(bs:List UInt8)(lo:Nat)(s:Sb)(fv:AV):Hp:=[some zOs,some (.arr (bs.map u8A) 5),some (b4F bs 1 lo),some (.cells (sbF s fv) 26)]
theorem a8x(bs:List UInt8)(lo:Nat)(s:Sb){fv:AV}(h:a0d 4 fv):HOk 4 (sdH bs lo s fv):=fun j o ho=>by
 match j,ho with
 | 0,ho=>cases ho;exact ⟨trivial,trivial,trivial,trivial,trivial,trivial,trivial,trivial,trivial,trivial,trivial,trivial,trivial,trivial,trivial⟩
 | 1,ho=>cases ho;exact a0h fun _=>a0k
 | 2,ho=>cases ho;exact ⟨by simp [a0d],trivial,trivial⟩
 | 3,ho=>cases ho;exact ⟨trivial,trivial,trivial,trivial,trivial,trivial,trivial,trivial,trivial,trivial,trivial,trivial,trivial,h,trivial⟩
theorem c1L(bs:List UInt8)(lo:Nat):HOk 3 [some zOs,some (.arr (bs.map u8A) 5),some (b4F bs 1 lo)]:=fun j o ho=>by
 match j,ho with
 | 0,ho=>cases ho;exact ⟨trivial,trivial,trivial,trivial,trivial,trivial,trivial,trivial,trivial,trivial,trivial,trivial,trivial,trivial,trivial⟩
 | 1,ho=>cases ho;exact a0h fun _=>a0k
 | 2,ho=>cases ho;exact ⟨by simp [a0d],trivial,trivial⟩
theorem b8K{E:Env}{N n0:Nat}{Q Q2:Exit->St->Prop}{s:St}{c c2:Code}{ι:Type}(σ:ι->St)(I:ι->Prop)(h1:AWp E N n0 c (fun e s'=>e=.normal/\∃i,I i/\Imp E N n0 s' (σ i)) s)(h2:∀i,I i->AWp E N n0 c2 Q2 (σ i)):AWp E N n0 c (a5W (AWp E N n0 c2 Q2) Q) s :=
 a2L h1 fun e s' ⟨he,i,hi,im⟩=>by subst he;exact a0t im (h2 i hi)
attribute [local irreducible] a0z a1p AWp Nx awM
theorem c5b(X:Nat->Prop)(b:List UInt8)(sector:Nat)(hs:sector<1048576)(hb:b.length<=1000) :
  a0b (E0 X) 106 [.sl 1 (b.map u8A),.int .i64 (sector:Int)] [] (fun r H'=>r=b5e (a6F b sector)/\H'=[]):=by
 refine a0b.cut0 ?_ (by unfold b5e;split<;>exact ⟨a1J,trivial,trivial⟩)
 refine a0b.weakR (R:=fun r _=>(r=.tup [.agg (sbF a4Q .nils),.bool false]/\a6F b sector=none)\/(∃s fv,r=.tup [.agg (sbF s fv),.bool true]/\a6F b sector=some s/\∀m w v,(E0 X).Rel m w fv v->(E0 X).Rel m w (.sl 4 (s.fo.map laA)) v)) ?_ ?_
 rotate_left
 ·rintro r H' (⟨rfl,h2⟩|⟨s,fv,rfl,h2,h3⟩)
  ·exact ⟨_,rfl,fun m w v h=>by rw [h2];exact b6G v h⟩
  ·exact ⟨_,rfl,fun m w v h=>by rw [h2];exact a5N (fun v h=>a5f (h3 m w) h) v h⟩
 have hdec:=fun X=>b2U X 3 0 sector b ⟨by decide,by decide,hs⟩ (by decide) (by omega)
 refine Z0 Proofs.Tryz.func106 rfl Proofs.Tryz.ntmps106 (by kernel_rfl) rfl ?_
 repeat' (first|refine Zs rfl ?_|refine Zc rfl ?_|refine Qa rfl ?_)
 refine Ck (fun _=>rfl) rfl (a0f (E:=E0 X) hdec (by simp [a0e,a0d]) _) ?_
 cases hd:a2A 3 0 sector b with
 | none =>
  have e:a6F b sector=none:=by simp only [a6F,hd]
  rw [e]
  show Nx _ (.tup [.nils,.bool false]) _
  refine nx rfl rfl ?_
  repeat' (first|refine Zs rfl ?_|refine Zc rfl ?_|refine Zh ?_|refine Qs ?_)
  exact a0c ⟨_,rfl,.inl ⟨rfl,rfl⟩⟩
 | some bs =>
  obtain ⟨hbl,-⟩:bs.length=59/\b.length=64:=by
   unfold a2A at hd
   split at hd
   ·rename_i h1
    simp only [Option.some.injEq] at hd
    subst hd
    simp;omega
   ·cases hd
  have e:a6F b sector=if a3L (b5f bs) sector=some b then some (b5f bs) else none:=by simp only [a6F,hd]
  rw [e]
  show Nx _ (.tup [.sl 1 (bs.map u8A),.bool true]) _
  refine nx rfl rfl ?_
  repeat' (first|refine Zs rfl ?_|refine Zc rfl ?_|refine Qa rfl ?_)
  refine Cn rfl (a9r X bs (by omega) _ _ rfl) rfl rfl ?_
  repeat' (first|((refine Qa rfl ?_);(refine QJ rfl rfl ?_);(refine QX rfl rfl ?_))|(refine Qb rfl ?_;try (refine QS rfl rfl rfl rfl rfl rfl rfl ?_;(refine QX rfl rfl ?_)))|refine Qh ?_)
  refine a2j ?_
  refine a0t (a0w (id:=3) (cs:=[.ptr 2 0]) rfl) ?_
  refine Kc [0,1,4,8] 3 (c1L bs 0) rfl rfl (by simp [a0d,a0e]) ?_
  have q1:=fun R=>a6y X bs 0 5 (by decide) (by decide) (by omega) (by omega) [some zOs] R 1 rfl
  have q2:=fun R=>a6y X bs 5 1 (by decide) (by decide) (by omega) (by omega) [some zOs] R 1 rfl
  have q3:=fun R=>a6y X bs 6 4 (by decide) (by decide) (by omega) (by omega) [some zOs] R 1 rfl
  have q4:=fun R=>a6y X bs 10 6 (by decide) (by decide) (by omega) (by omega) [some zOs] R 1 rfl
  have q5:=fun R=>a6y X bs 16 5 (by decide) (by decide) (by omega) (by omega) [some zOs] R 1 rfl
  have q6:=fun R=>a9D X bs 21 (by omega) (by omega) [some zOs] R 1 rfl
  have q7:=fun R=>a9D X bs 28 (by omega) (by omega) [some zOs] R 1 rfl
  have q8:=fun R=>a6y X bs 35 1 (by decide) (by decide) (by omega) (by omega) [some zOs] R 1 rfl
  have q9:=fun R=>a9D X bs 36 (by omega) (by omega) [some zOs] R 1 rfl
  have hp:b5f bs=⟨(a0J ((bs.drop 0).take 5):Nat),(a0J ((bs.drop 5).take 1):Nat),(a0J ((bs.drop 6).take 4):Nat),(a0J ((bs.drop 10).take 6):Nat),(a0J ((bs.drop 16).take 5):Nat),a7R bs 21,a7R bs 28,
   if a0J ((bs.drop 35).take 1)=1 then [a7R bs 28] else if a0J ((bs.drop 35).take 1)=2 then [a7R bs 28,a7R bs 36] else []⟩:=rfl
  have s8:=a0U (bs:=bs) (lo:=35) (w:=1) (by decide)
  rw [hp]
  generalize a0J ((bs.drop 0).take 5)=n1 at *
  generalize a0J ((bs.drop 5).take 1)=n2 at *
  generalize a0J ((bs.drop 6).take 4)=n3 at *
  generalize a0J ((bs.drop 10).take 6)=n4 at *
  generalize a0J ((bs.drop 16).take 5)=n5 at *
  generalize a0J ((bs.drop 35).take 1)=n8 at *
  generalize a7R bs 21=la at *
  generalize a7R bs 28=lh at *
  generalize a7R bs 36=lf at *
  repeat' (first|refine Zs rfl ?_|refine Zc rfl ?_)
  refine a2T (s1:=⟨[(0,.sl 1 (b.map u8A)),(1,.int .i64 (sector:Int)),(4,.ptr 0 0),(8,.fp [.ptr 2 0]),(9,(.clo (.func 151) [] [.fp [.ptr 2 0]])),(10,.ptr 3 0)],sdH bs 35 ⟨n1,n2,n3,n4,n5,la,lh,[]⟩ .nils⟩) ?_ ?_
  rotate_left
  ·repeat' (first|refine Zs rfl ?_|refine Zc rfl ?_|refine Qa rfl ?_)
   refine Cn rfl (q8 _) rfl rfl ?_
   repeat' (refine Qh ?_)
   refine a2j ?_
   refine b8K (fun p:Nat × List La × AV=>⟨[(0,.sl 1 (b.map u8A)),(1,.int .i64 (sector:Int)),(4,.ptr 0 0),(10,.ptr 3 0)],sdH bs p.1 ⟨n1,n2,n3,n4,n5,la,lh,p.2.1⟩ p.2.2⟩) (fun p=>p.2.1=(if n8=1 then [lh] else if n8=2 then [lh,lf] else [])/\a0d 4 p.2.2/\a0d 0 p.2.2/\(p.2.2=.nils\/p.2.2=.sl 4 (p.2.1.map laA))/\∀X m w v,(E0 X).Rel m w p.2.2 v->(E0 X).Rel m w (.sl 4 (p.2.1.map laA)) v) ?_ ?_
   ·repeat' (first|refine Zs rfl ?_|refine Zc rfl ?_|refine Zh ?_|refine Qs ?_)
    refine a0g rfl (fun h1=>?_) (fun h1=>?_)
    ·have h1':n8=1:=by omega
     repeat' (first|refine Zs rfl ?_|refine Zc rfl ?_|refine Zh ?_|refine Qu ?_)
     exact ⟨rfl,(36,[lh],.sl 4 ([lh].map laA)),⟨(if_pos h1').symm,a1w _,a1w _,.inr rfl,fun _ _ _ _ h=>h⟩,ik 4 (a8x bs 36 _ (a1w _)) rfl rfl rfl rfl (by simp [a0e,a0d])⟩
    have h1':¬ n8=1:=by omega
    rw [if_neg h1']
    repeat' (first|refine Zs rfl ?_|refine Zc rfl ?_|refine Zh ?_|refine Qs ?_)
    refine a0g rfl (fun h2=>?_) (fun h2=>?_)
    ·have h2':n8=2:=by omega
     skip
     refine a2L (Q:=fun e s=>e=.normal/\Imp (E0 X) 72 0 s ⟨[(0,.sl 1 (b.map u8A)),(1,.int .i64 (sector:Int)),(4,.ptr 0 0),(10,.ptr 3 0)],sdH bs 43 ⟨n1,n2,n3,n4,n5,la,lh,[lh,lf]⟩ (.sl 4 ([lh,lf].map laA))⟩) ?_ ?_
     rotate_left
     ·rintro e s ⟨rfl,h⟩
      exact ⟨rfl,(43,[lh,lf],.sl 4 ([lh,lf].map laA)),⟨(if_pos h2').symm,a1w _,a1w _,.inr rfl,fun _ _ _ _ h=>h⟩,h⟩
     refine a0n [1,3,6] [0,2,4,5] (by exact rfl) ?_
     refine a0y (fuel:=5) [0,2] (by exact rfl) (by kernel_rfl) (by kernel_rfl) ?_
     repeat' (first|((apply Qe rfl rfl rfl rfl;intro H9);(first|refine Q3 rfl rfl rfl ?_|refine Q4 rfl rfl rfl rfl rfl ?_);(exact QY rfl ⟨rfl,rfl⟩))|refine Qk ?_)
     refine a1R [1,3] (by kernel_rfl) (br2 ?_ ?_)
     ·refine a1q rfl rfl rfl ?_
      refine a3t rfl rfl rfl ?_
      refine nx rfl rfl ?_
      refine a0y (fuel:=0) [3,4,5,6] (by exact rfl) (by kernel_rfl) (by kernel_rfl) ?_
      refine a1E rfl rfl rfl ?_
      refine Cn rfl (q9 _) rfl rfl ?_
      repeat' (first|((apply Qe rfl rfl rfl rfl;intro H9);(first|refine Q4 rfl rfl rfl rfl rfl ?_|refine QQ rfl rfl rfl rfl rfl rfl rfl rfl rfl rfl rfl ?_);(exact QY rfl ⟨rfl,rfl⟩))|(refine Qf rfl rfl rfl ?_;refine QS rfl rfl rfl rfl rfl rfl rfl ?_;(refine QX rfl rfl ?_))|refine Qk ?_|refine Qw (by kernel_rfl) ?_)
      exact ⟨rfl,ik 4 (a8x bs 43 ⟨n1,n2,n3,n4,n5,la,lh,[lh,lf]⟩ (a1w [lh,lf])) rfl rfl rfl rfl (by simp [a0e,a0d])⟩
     refine a1q rfl rfl rfl ?_
     refine Cn rfl (q9 _) rfl rfl ?_
     refine a0y (fuel:=0) [1,4,5,6] (by exact rfl) (by kernel_rfl) (by kernel_rfl) ?_
     refine a1E rfl rfl rfl ?_
     refine a3t rfl rfl rfl ?_
     refine nx rfl rfl ?_
     repeat' (first|((apply Qe rfl rfl rfl rfl;intro H9);(first|refine Q4 rfl rfl rfl rfl rfl ?_|refine QQ rfl rfl rfl rfl rfl rfl rfl rfl rfl rfl rfl ?_);(exact QY rfl ⟨rfl,rfl⟩))|(refine Qf rfl rfl rfl ?_;refine QS rfl rfl rfl rfl rfl rfl rfl ?_;(refine QX rfl rfl ?_))|refine Qk ?_|refine Qw (by kernel_rfl) ?_)
     exact ⟨rfl,ik 4 (a8x bs 43 ⟨n1,n2,n3,n4,n5,la,lh,[lh,lf]⟩ (a1w [lh,lf])) rfl rfl rfl rfl (by simp [a0e,a0d])⟩
    have h2':¬ n8=2:=by omega
    repeat' (first|refine Zc rfl ?_|refine Qu ?_)
    exact ⟨rfl,(36,[],.nils),⟨(if_neg h2').symm,trivial,trivial,.inl rfl,fun _=>a7j⟩,ik 4 (a8x bs 36 _ (fv:=.nils) trivial) rfl rfl rfl rfl (by simp [a0e,a0d])⟩
   rintro ⟨lo,fo,fv⟩ ⟨rfl,i4,i0,hv,hrel⟩
   simp only at i4 i0 hv hrel ⊢
   generalize hfo:(if n8=1 then [lh] else if n8=2 then [lh,lf] else [])=fo at *
   have hfl:fo.length<=2:=by rw [<- hfo];split;simp;split<;>simp
   repeat' (first|refine Zs rfl ?_|refine Zc rfl ?_|((refine Qa rfl ?_);(refine Q3 rfl rfl rfl ?_);(refine QZ ?_))|refine Qa rfl ?_)
   refine Ck (fun _=>rfl) rfl (a0f (E:=E0 X) (fun X=>c5e X ⟨n1,n2,n3,n4,n5,la,lh,fo⟩ fv (hrel X) sector hs (by show fo.length<=_;omega)) ⟨⟨trivial,trivial,trivial,trivial,trivial,trivial,trivial,trivial,trivial,trivial,trivial,trivial,trivial,i0,trivial⟩,trivial,trivial⟩ _) ?_
   cases he:a3L ⟨n1,n2,n3,n4,n5,la,lh,fo⟩ sector with
   | none =>
    show Nx _ (.tup [.nils,.int .i64 4]) _
    refine nx0 ?_
    repeat' (first|refine Zs rfl ?_|refine Zc rfl ?_|refine Zh ?_|(refine Qb rfl ?_;try (refine QS rfl rfl rfl rfl rfl rfl rfl ?_;(refine QZ ?_)))|refine Qs ?_)
    exact a0c ⟨_,rfl,.inl ⟨rfl,if_neg (by simp)⟩⟩
   | some eb =>
    show Nx _ (.tup [.sl 1 (eb.map u8A),.int .i64 0]) _
    refine nx0 ?_
    repeat' (first|refine Zs rfl ?_|refine Zc rfl ?_|refine Qa rfl ?_)
    refine Ck (fun _=>rfl) rfl (a0f (E:=E0 X) (fun X=>b5q X eb b) (by simp [a0e,a0d]) _) ?_
    refine nx0 ?_
    repeat' (first|refine Zs rfl ?_|refine Zh ?_|refine Qs ?_)
    refine a0I rfl (fun h9=>?_) (fun h9=>?_)
    ·have h8:¬ eb=b:=by simpa using h9
     repeat' (first|refine Zs rfl ?_|refine Zc rfl ?_|refine Zh ?_|(refine Qb rfl ?_;try (refine QS rfl rfl rfl rfl rfl rfl rfl ?_;(refine QZ ?_)))|refine Qs ?_)
     exact a0c ⟨_,rfl,.inl ⟨rfl,if_neg (by simpa using h8)⟩⟩
    have h8:eb=b:=by simpa using h9
    rcases hv with rfl|rfl
    ·repeat' (first|refine Zs rfl ?_|refine Zc rfl ?_|refine Zh ?_|refine Qs ?_)
     exact a0c ⟨_,rfl,.inr ⟨⟨n1,n2,n3,n4,n5,la,lh,fo⟩,_,rfl,if_pos (by rw [h8]),hrel X⟩⟩
    repeat' (first|refine Zs rfl ?_|refine Zc rfl ?_|refine Zh ?_|refine Qs ?_)
    exact a0c ⟨_,rfl,.inr ⟨⟨n1,n2,n3,n4,n5,la,lh,fo⟩,_,rfl,if_pos (by rw [h8]),hrel X⟩⟩
  refine a0n [1,3,5,7,9,11,13,15,16] [0,2,4,6,8,10,12,14] (by exact rfl) ?_
  refine a0y (fuel:=10) [0,2,4,6,8,10,12] (by exact rfl) (by kernel_rfl) (by kernel_rfl) ?_
  repeat' (first|((apply Qe rfl rfl rfl rfl;intro H9);(first|refine Q0 ?_|refine Q3 rfl rfl rfl ?_);(exact QY rfl ⟨rfl,rfl⟩))|refine Qk ?_)
  refine b2z (fuel:=2) [1,3,5,7,9,11,13] 15 rfl rfl rfl rfl (by kernel_rfl) rfl ?_
  refine .cons rfl (fun Y=>a1c (fun _=>rfl) rfl (q1 Y)) rfl ?_
  refine .cons rfl (fun Y=>a1c (fun _=>rfl) rfl (q2 Y)) rfl ?_
  refine .cons rfl (fun Y=>a1c (fun _=>rfl) rfl (q3 Y)) rfl ?_
  refine .cons rfl (fun Y=>a1c (fun _=>rfl) rfl (q4 Y)) rfl ?_
  refine .cons rfl (fun Y=>a1c (fun _=>rfl) rfl (q5 Y)) rfl ?_
  refine .cons rfl (fun Y=>a1c (fun _=>rfl) rfl (q6 Y)) rfl ?_
  refine .cons rfl (fun Y=>a1c (fun _=>rfl) rfl (q7 Y)) rfl ?_
  refine .nil ⟨a0y (fuel:=0) [14,15,16] (by exact rfl) (by kernel_rfl) (by kernel_rfl) ?_,a0y (fuel:=0) [14,16] (by exact rfl) (by kernel_rfl) (by kernel_rfl) ?_⟩
  ·repeat' (first|((first|refine Qc rfl rfl rfl ?_|(apply Qe rfl rfl rfl rfl;intro H9));(first|refine QJ rfl rfl ?_|refine QP rfl rfl rfl rfl rfl rfl ?_);(first|exact QY rfl ⟨rfl,rfl⟩|refine QX rfl rfl ?_))|(refine Qf rfl rfl rfl ?_;refine QS rfl rfl rfl rfl rfl rfl rfl ?_;(refine QX rfl rfl ?_))|refine Qk ?_|refine Qw (by kernel_rfl) ?_)
   exact ⟨rfl,ik 4 (a8x _ _ _ (fv:=.nils) trivial) rfl rfl rfl rfl (by simp [a0e,a0d])⟩
  ·repeat' (first|((apply Qe rfl rfl rfl rfl;intro H9);(refine QP rfl rfl rfl rfl rfl rfl ?_);(exact QY rfl ⟨rfl,rfl⟩))|(refine Qf rfl rfl rfl ?_;refine QS rfl rfl rfl rfl rfl rfl rfl ?_;(refine QX rfl rfl ?_))|refine Qk ?_|refine Qw (by kernel_rfl) ?_)
   exact ⟨rfl,ik 4 (a8x _ _ _ (fv:=.nils) trivial) rfl rfl rfl rfl (by simp [a0e,a0d])⟩
def a4f(s:Sb):Nat:=(s.gen%2).toNat
theorem a9I(s:Sb):a4f s<2:=by unfold a4f;omega
def Dv.pub(v:Dv)(s:Sb):Int × Dv:=if sbB s=true then (if (v.write (a4f s) (a3D s (a4f s))).1≠0 then v.write (a4f s) (a3D s (a4f s)) else (v.write (a4f s) (a3D s (a4f s))).2.barrier) else (4,v)
theorem b0h{v:Dv}(h:v.fuse<=9223372036854775807):v.burn.fuse<=9223372036854775807:=by
 unfold Dv.burn;simp only;split<;>omega
theorem b4V{v:Dv}(h:v.fuse<=9223372036854775807)(i:Int)(b:List UInt8):(v.write i b).2.fuse<=9223372036854775807:=by
 unfold Dv.write
 split
 ·exact h
 split
 ·exact h
 split
 ·exact b0h h
 ·exact b0h h
theorem c2u(X:Nat->Prop)(g:Int):a0b (E0 X) 107 [.int .i64 g] [] (fun r H'=>r=.int .i64 (g.tmod 2)/\H'=[]):=by
 refine Z0 Proofs.Tryz.func107 rfl Proofs.Tryz.ntmps107 (by kernel_rfl) rfl ?_
 repeat' (first|refine Zs rfl ?_|refine Zc rfl ?_|refine Zh ?_|refine Qs ?_)
 refine a0c ⟨_,rfl,?_,?_⟩
 ·rfl
 ·rfl
theorem b6X(X:Nat->Prop)(s:Sb)(hg:1<=s.gen/\s.gen<=1099511627775):a0b (E0 X) 107 [.int .i64 s.gen] [] (fun r H'=>r=.int .i64 (a4f s:Int)/\H'=[]):=by
 refine (c2u X s.gen).mono ?_
 rintro r H' ⟨rfl,rfl⟩
 refine ⟨congrArg (AV.int .i64) ?_,rfl⟩
 unfold a4f
 rw [Int.tmod_eq_emod_of_nonneg (by omega)]
 omega
theorem b7c(X:Nat->Prop)(v:Dv)(hv:v.Ok)(s:Sb)(hfl:s.fo.length<=4611686018427387904) :
  a0b (E0 X) 97 [.ptr 0 0,sbA s] (a0K v) (fun r H'=>r=.int .i64 (v.pub s).1/\H'=a0K (v.pub s).2):=by
 have hva:=fun X=>a9S X s hfl
 unfold Dv.pub
 cases hb:sbB s with
 | false =>
  rw [hb] at hva
  rw [if_neg (by simp)]
  refine Z0 Proofs.Tryz.func97 rfl Proofs.Tryz.ntmps97 (by kernel_rfl) rfl ?_
  repeat' (first|refine Zs rfl ?_|refine Zc rfl ?_|refine Qa rfl ?_)
  refine Cn rfl (a0f (E:=E0 X) (fun X=>hva X) (by simp [a0e,a0d]) _) rfl rfl ?_
  repeat' (first|refine Zs rfl ?_|refine Zc rfl ?_|refine Zh ?_|refine Qs ?_)
  refine a0t (a0j 3 (Nat.le_refl _) (a1n _) rfl (by simp) (sl':=[(4,.int .i64 4)]) ?_) ?_
  ·repeat' (first|exact a0l|refine a0a ⟨?_,?_⟩ ?_)
   all_goals (try first|exact rfl|exact trivial)
  refine a0c ⟨_,rfl,?_,?_⟩
  ·rfl
  ·rfl
 | true =>
  rw [hb] at hva
  rw [if_pos rfl]
  have hg:=(b4M hb).gen
  have hpl:=fun X=>b6X X s hg
  have hs2:=a9I s
  have hen:=fun X=>c1a X s (a4f s) hb (by omega)
  have hlb:=a3k s (a4f s)
  have hw:=fun R=>a2U (fun X=>b8s X v hv (a4f s) (a3D s (a4f s)) (by omega)) ⟨trivial,a0h fun _=>a0k,trivial⟩ trivial R (X:=X)
  have hbr:=fun R=>a2U (fun X=>b0f X (v.write (a4f s) (a3D s (a4f s))).2 (b4V hv.fuse _ _)) trivial trivial R (X:=X)
  generalize v.write (a4f s) (a3D s (a4f s))=wr at *
  generalize a3D s (a4f s)=eb at *
  generalize a4f s=k at *
  refine Z0 Proofs.Tryz.func97 rfl Proofs.Tryz.ntmps97 (by kernel_rfl) rfl ?_
  repeat' (first|refine Zs rfl ?_|refine Zc rfl ?_|refine Qa rfl ?_)
  refine Cn rfl (a0f (E:=E0 X) (fun X=>hva X) (by simp [a0e,a0d]) _) rfl rfl ?_
  repeat' (first|refine Zs rfl ?_|refine Zc rfl ?_)
  refine a0p [] [] (by exact rfl) (by kernel_rfl) ?_
  repeat' (refine Zd rfl ?_)
  apply ds rfl rfl rfl rfl
  ·refine Ck (fun _=>rfl) rfl (a0f (E:=E0 X) (fun X=>hpl X) (by simp [a0e,a0d]) _) ?_
   exact nx rfl rfl ⟨rfl,rfl⟩
  skip
  apply ds rfl rfl rfl rfl
  ·refine Ck (fun _=>rfl) rfl (a0f (E:=E0 X) (fun X=>hen X) (by simp [a0e,a0d]) _) ?_
   exact nx rfl rfl ⟨rfl,rfl⟩
  repeat' (first|refine Zs rfl ?_|refine Zd rfl ?_|refine Zc rfl ?_|refine Qa rfl ?_)
  refine Cn rfl (a0f (E:=E0 X) (fun X=>hpl X) (by simp [a0e,a0d]) _) rfl rfl ?_
  repeat' (first|refine Zs rfl ?_|refine Qa rfl ?_)
  refine Cn rfl (hw _) rfl rfl ?_
  repeat' (first|refine Zs rfl ?_|refine Zc rfl ?_|refine Zh ?_|refine Qs ?_)
  refine a0g rfl (fun h1=>?_) (fun h1=>?_)
  ·rw [if_pos h1]
   repeat' (first|refine Zs rfl ?_|refine Zc rfl ?_|refine Zh ?_|refine Qs ?_)
   refine a0t (a0j 3 (Nat.le_refl _) (a1n _) rfl (by simp) (sl':=[(4,.int .i64 wr.1)]) ?_) ?_
   ·repeat' (first|exact a0l|refine a0a ⟨?_,?_⟩ ?_)
    all_goals (try first|exact rfl|exact trivial)
   refine a0c ⟨_,rfl,?_,?_⟩
   ·rfl
   ·rfl
  rw [if_neg h1]
  repeat' (first|refine Zs rfl ?_|refine Zc rfl ?_|refine Qa rfl ?_)
  refine Cn rfl (hbr _) rfl rfl ?_
  repeat' (first|refine Zs rfl ?_|refine Zh ?_|refine Qs ?_)
  refine a0t (a0j 3 (Nat.le_refl _) (a1n _) rfl (by simp) (sl':=[(4,.int .i64 wr.2.barrier.1)]) ?_) ?_
  ·repeat' (first|exact a0l|refine a0a ⟨?_,?_⟩ ?_)
   all_goals (try first|exact rfl|exact trivial)
  refine a0c ⟨_,rfl,?_,?_⟩
  ·rfl
  ·rfl
def a8l(o:Option Sb):List AV:=sbF (o.getD a4Q) (match o with|none=>.nils|some s=>.sl 4 (s.fo.map laA))
def c6f(o:Option Sb):Int:=(o.getD a4Q).gen
def a1Y(o:Option Sb)(k:Nat)(b:List UInt8):Option Sb:=match a6F b k with
 | none=>o
 | some s=>if s.gen%2=(k:Int)/\c6f o<s.gen then some s else o
def a2n(img:List UInt8):Nat->Option Sb
 | 0=>none
 | k+1=>a1Y (a2n img k) k ((img.drop (k*64)).take 64)
def a2c(v:Dv):Option Sb:=if v.check 0=0/\v.check 1=0 then a2n v.image 2 else none
theorem a5s(o:Option Sb)(n:Nat):a0e n (a8l o):=by
 cases o with
 | none=>exact ⟨trivial,trivial,trivial,trivial,trivial,trivial,trivial,trivial,trivial,trivial,trivial,trivial,trivial,trivial,trivial⟩
 | some s=>exact ⟨trivial,trivial,trivial,trivial,trivial,trivial,trivial,trivial,trivial,trivial,trivial,trivial,trivial,a1w _,trivial⟩
theorem b5r{E:Env}{o:Option Sb}{m:Mu}{w:World}{v:Value}(h:E.Rel m w (.tup [.agg (a8l o),.bool o.isSome]) v):E.Rel m w (b5e o) v:=by
 cases o with
 | none=>exact b6G v h
 | some s=>exact h
theorem a0b.cutD{E:Env}{f:FuncId}{args:List AV}{v v':Dv}{r0:AV}(h:a0b E f args (a0K v) (fun r H'=>r=r0/\H'.take 3=a0K v'))(hr:a0d 0 r0):a0b E f args (a0K v) (fun r H'=>r=r0/\H'=a0K v') :=
 h.imp fun r H' ⟨h1,h2⟩=>by
  subst h1
  refine ⟨_,_,⟨rfl,rfl⟩,a0j 3 (Nat.le_refl _) (a1n v') h2 ?_ ?_⟩
  ·have:(H'.take 3).length=3:=by rw [h2];rfl
   simp at this ⊢;omega
  ·exact a0a ⟨rfl,(a0F (Nat.zero_le _) (show a0e 0 [r] from ⟨hr,trivial⟩)).1⟩ a0l
theorem b9Y{s:Sb}(hg:1<=s.gen)(k:Nat):((a4f s:Nat):Int)=(k:Int) ↔ s.gen%2=(k:Int):=by unfold a4f;omega
theorem a8w(v:Dv)(o:Option Sb):HOk 5 (a0K v++[some zOs,some (.cells (a8l o) 26)]):=fun j o' ho=>by
 match j,ho with
 | 0,ho=>cases ho;exact ⟨by simp [a0d],by simp [a0d],trivial,trivial,trivial,trivial⟩
 | 1,ho=>cases ho;exact a0h fun _=>a0k
 | 2,ho=>cases ho;exact ⟨by rw [List.map_map];exact a0h fun _=>trivial,by rw [List.map_map];exact a0h fun p=>(a0h (f:=u8A) fun _=>a0k:a0e _ (p.2.map u8A))⟩
 | 3,ho=>cases ho;exact a5s none _
 | 4,ho=>cases ho;exact a5s o _
theorem a6k(o:Option Sb):HOk 2 [some zOs,some (.cells (a8l o) 26)]:=fun j o' ho=>by
 match j,ho with
 | 0,ho=>cases ho;exact a5s none _
 | 1,ho=>cases ho;exact a5s o _
theorem c3e(X:Nat->Prop)(v:Dv)(hv:v.Inv):a0b (E0 X) 56 [.ptr 0 0] (a0K v) (fun r H'=>r=b5e (a2c v)/\H'=a0K v):=by
 have hlv:v.image.length<=1073741824:=by have:=hv.load.2.2;omega
 refine a0b.cutD ?_ (by unfold b5e;split<;>exact ⟨a1J,trivial,trivial⟩)
 refine a0b.weakR (R:=fun r H'=>r=.tup [.agg (a8l (a2c v)),.bool (a2c v).isSome]/\H'.take 3=a0K v) ?_ ?_
 rotate_left
 ·rintro r H' ⟨rfl,h⟩
  exact ⟨_,⟨rfl,h⟩,fun m w v h=>b5r h⟩
 refine Z0 Proofs.Tryz.func56 rfl Proofs.Tryz.ntmps56 (by kernel_rfl) rfl ?_
 repeat' (first|refine Zs rfl ?_|refine Zc rfl ?_)
 refine a0s (fun k:Nat=>⟨[(0,.ptr 0 0),(2,.ptr 3 0),(4,.ptr 4 0),(5,.bool (a2n v.image k).isSome),(12,.int .i64 (k:Int))],a0K v++[some zOs,some (.cells (a8l (a2n v.image k)) 26)]⟩)
  (fun k=>k<=2/\∀j:Nat,j<k->v.check j=0) (fun k=>2 - k) 0 ⟨by omega,fun j h=>absurd h (Nat.not_lt_zero j)⟩ ?_ ?_
 ·exact kk 5 (a8w v none) rfl (by simp [a0d,a0e])
 rintro k ⟨hk,hck⟩
 have hbs:a2n v.image (k+1)=a1Y (a2n v.image k) k ((v.image.drop (k*64)).take 64):=rfl
 have hdn:k<2->v.check k≠0->a2c v=none:=fun h1 h2=>if_neg fun h3=>by
  have:k=0\/k=1:=by omega
  rcases this with rfl|rfl
  ·exact h2 h3.1
  ·exact h2 h3.2
 have hdk:k=2->a2c v=a2n v.image k:=fun h=>by
  subst h
  exact if_pos ⟨hck 0 (by omega),hck 1 (by omega)⟩
 generalize a2c v=res at *
 repeat' (first|refine Zs rfl ?_|refine Zc rfl ?_)
 refine a0g rfl (fun h1=>?_) (fun h1=>?_)
 ·have hk2:k<2:=by omega
  have hdn:=hdn hk2
  repeat' (first|refine Zs rfl ?_|refine Zc rfl ?_|refine Qa rfl ?_)
  by_cases hc:v.check (k:Int)=0
  ·obtain ⟨-,j,hj,hj2⟩:=a5t hv hc
   have hjk:j=k:=by omega
   subst hjk
   have hbl:((v.image.drop (j*64)).take 64).length=64:=by simp;omega
   have hrd:=a6t X v (j:Int) hlv [] [some zOs,some (.cells (a8l (a2n v.image j)) 26)] 0 rfl
   rw [Int.toNat_natCast] at hrd
   generalize (v.image.drop (j*64)).take 64=bb at *
   generalize a2n v.image j=o at *
   refine a1c (fun _=>rfl) rfl ?_
   refine a0b.mono hrd ?_
   rintro r H' (⟨hc2,-,-⟩|⟨-,rfl,rfl⟩)
   ·exact absurd hc hc2
   refine nx0 ?_
   repeat' (first|((refine Qa rfl ?_);(first|refine Q0 ?_|refine Q1 ?_|refine QC rfl rfl ?_);(refine QZ ?_))|refine Qh ?_)
   refine a2j ?_
   refine a0t (Imp.trans (a0N (id:=5) (k:=1) (es:=bb.map u8A) (e:=5) rfl rfl rfl) (a0j 5 (by simp [a0K]) (a8w v o) rfl (by simp [a0K,b5a])
    (sl':=[(0,.ptr 0 0),(2,.ptr 3 0),(4,.ptr 4 0),(5,.bool o.isSome),(6,.int .i64 (j:Int)),(7,.sl 1 (bb.map u8A)),(8,.int .i64 0),(12,.int .i64 (j:Int))]) ?_)) ?_
   ·repeat' (first|exact a0l|refine a0a ⟨?_,?_⟩ ?_)
    all_goals (try first|exact rfl|exact trivial|(simp [a0d,a0e];done))
    ·show frz 5 1 (bb.map u8A) (.own 5 0 64)=_
     simp [frz,hbl,List.take_of_length_le]
   repeat' (first|refine Zs rfl ?_|refine Zc rfl ?_|refine Qa rfl ?_)
   have hck2:∀i:Nat,i<j+1->v.check i=0:=fun i hi=>by
    rcases Nat.lt_or_ge i j with h|h
    ·exact hck i h
    ·have:i=j:=by omega
     subst this;exact hc
   refine Ck (fun _=>rfl) rfl (a0f (E:=E0 X) (fun X=>c5b X bb j (by omega) (by omega)) (by simp [a0e,a0d]) _) ?_
   cases hd:a6F bb j with
   | none =>
    have hp1:a1Y o j bb=o:=by simp only [a1Y,hd]
    show Nx _ (.tup [sbA a4Q,.bool false]) _
    refine nx0 ?_
    repeat' (first|refine Zs rfl ?_|refine Zc rfl ?_|refine Zh ?_|((refine Qa rfl ?_);(refine QJ rfl rfl ?_);(refine QZ ?_))|(refine Qb rfl ?_;try (refine QS rfl rfl rfl rfl rfl rfl rfl ?_;(refine QZ ?_)))|refine Qs ?_)
    refine ⟨j+1,⟨by omega,hck2⟩,by omega,?_⟩
    rw [hbs,hp1]
    refine a0j 5 (by simp [a0K]) (a8w v o) rfl (by simp [a0K]) ?_
    repeat' (first|exact a0l|refine a0a ⟨?_,?_⟩ ?_)
    all_goals (try first|exact rfl|exact trivial|(simp [a0d,a0e];done)|(refine congrArg (AV.int .i64) (a0x ?_ ?_ ?_)<;>(first|omega|(simp;omega))))
   | some s =>
    have hg:=(b4M (a6f hd).1).gen
    have hpl:=fun X=>b6X X s hg
    have hse:=b9Y hg.1 j
    generalize a4f s=sc at *
    show Nx _ (.tup [sbA s,.bool true]) _
    refine nx0 ?_
    repeat' (first|refine Zs rfl ?_|refine Zc rfl ?_|((refine Qa rfl ?_);(refine QJ rfl rfl ?_);(refine QZ ?_))|refine Qa rfl ?_|(refine Qb rfl ?_;try (refine QS rfl rfl rfl rfl rfl rfl rfl ?_;(refine QZ ?_))))
    refine Ck (fun _=>rfl) rfl (a0f (E:=E0 X) (fun X=>hpl X) (by simp [a0e,a0d]) _) ?_
    refine nx0 ?_
    by_cases hsj:s.gen%2=(j:Int)
    ·have hsc:sc=j:=by have:=hse.2 hsj;omega
     subst hsc
     repeat' (refine Zs rfl ?_)
     rw [decide_eq_true (rfl:(sc:Int)=sc)]
     repeat' (first|refine Zs rfl ?_|refine Zh ?_|refine Qs ?_)
     refine a0g rfl (fun h5=>?_) (fun h5=>?_)
     ·have hp1:a1Y o sc bb=some s:=by simp only [a1Y,hd];exact if_pos ⟨hsj,h5⟩
      repeat' (first|refine Zs rfl ?_|refine Zc rfl ?_|refine Zh ?_|refine Qs ?_)
      refine ⟨sc+1,⟨by omega,hck2⟩,by omega,?_⟩
      rw [hbs,hp1]
      refine a0j 5 (by simp [a0K]) (a8w v (some s)) rfl (by simp [a0K]) ?_
      repeat' (first|exact a0l|refine a0a ⟨?_,?_⟩ ?_)
      all_goals (try first|exact rfl|exact trivial|(simp [a0d,a0e];done)|(refine congrArg (AV.int .i64) (a0x ?_ ?_ ?_)<;>(first|omega|(simp;omega))))
     have hp1:a1Y o sc bb=o:=by simp only [a1Y,hd];exact if_neg fun h=>h5 h.2
     repeat' (first|refine Zs rfl ?_|refine Zc rfl ?_|refine Zh ?_|refine Qs ?_)
     refine ⟨sc+1,⟨by omega,hck2⟩,by omega,?_⟩
     rw [hbs,hp1]
     refine a0j 5 (by simp [a0K]) (a8w v o) rfl (by simp [a0K]) ?_
     repeat' (first|exact a0l|refine a0a ⟨?_,?_⟩ ?_)
     all_goals (try first|exact rfl|exact trivial|(simp [a0d,a0e];done)|(refine congrArg (AV.int .i64) (a0x ?_ ?_ ?_)<;>(first|omega|(simp;omega))))
    have hsc:¬ (sc:Int)=j:=fun h=>hsj (hse.1 h)
    have hp1:a1Y o j bb=o:=by simp only [a1Y,hd];exact if_neg fun h=>hsj h.1
    repeat' (refine Zs rfl ?_)
    rw [decide_eq_false hsc]
    repeat' (first|refine Zs rfl ?_|refine Zc rfl ?_|refine Zh ?_|refine Qs ?_)
    refine ⟨j+1,⟨by omega,hck2⟩,by omega,?_⟩
    rw [hbs,hp1]
    refine a0j 5 (by simp [a0K]) (a8w v o) rfl (by simp [a0K]) ?_
    repeat' (first|exact a0l|refine a0a ⟨?_,?_⟩ ?_)
    all_goals (try first|exact rfl|exact trivial|(simp [a0d,a0e];done)|(refine congrArg (AV.int .i64) (a0x ?_ ?_ ?_)<;>(first|omega|(simp;omega))))
  have hdn:=hdn hc
  subst hdn
  refine a1c (fun _=>rfl) rfl ?_
  refine a0b.mono (a6t X v (k:Int) hlv [] [some zOs,some (.cells (a8l (a2n v.image k)) 26)] 0 rfl) ?_
  rintro r H' (⟨-,rfl,rfl⟩|⟨hc2,-,-⟩)
  rotate_left
  ·exact absurd hc2 hc
  refine nx0 ?_
  repeat' (first|refine Zs rfl ?_|refine Zc rfl ?_|refine Zh ?_|refine Qs ?_)
  refine a0g rfl (fun h4=>?_) (fun h4=>?_)
  ·repeat' (first|refine Zs rfl ?_|refine Zc rfl ?_|refine Zh ?_|(refine Qb rfl ?_;try (refine QS rfl rfl rfl rfl rfl rfl rfl ?_;(refine QZ ?_)))|refine Qs ?_)
   exact a0c ⟨_,rfl,rfl,rfl⟩
  ·exact absurd (by omega) hc
 have hk2:k=2:=by omega
 have hdk:=hdk hk2
 rw [hdk]
 generalize a2n v.image k=o
 cases o with
 | none =>
  repeat' (first|refine Zs rfl ?_|refine Zc rfl ?_|refine Zh ?_|refine Qs ?_)
  exact a0c ⟨_,rfl,rfl,rfl⟩
 | some s =>
  repeat' (first|refine Zs rfl ?_|refine Zc rfl ?_|refine Zh ?_|refine Qs ?_)
  exact a0c ⟨_,rfl,rfl,rfl⟩
theorem b9X(X:Nat->Prop)(img:List UInt8)(hl:128<=img.length)(hl2:img.length<=1073741824):a0b (E0 X) 65 [.sl 1 (img.map u8A)] [] (fun r H'=>r=b5e (a2n img 2)/\H'=[]):=by
 refine a0b.cut0 ?_ (by unfold b5e;split<;>exact ⟨a1J,trivial,trivial⟩)
 refine a0b.weakR (R:=fun r _=>r=.tup [.agg (a8l (a2n img 2)),.bool (a2n img 2).isSome]) ?_ ?_
 rotate_left
 ·rintro r H' rfl
  exact ⟨_,rfl,fun m w v h=>b5r h⟩
 refine Z0 Proofs.Tryz.func65 rfl Proofs.Tryz.ntmps65 (by kernel_rfl) rfl ?_
 repeat' (first|refine Zs rfl ?_|refine Zc rfl ?_)
 refine a0s (fun k:Nat=>⟨[(0,.sl 1 (img.map u8A)),(2,.ptr 0 0),(4,.ptr 1 0),(5,.bool (a2n img k).isSome),(6,.int .i64 (k:Int))],[some zOs,some (.cells (a8l (a2n img k)) 26)]⟩)
  (fun k=>k<=2) (fun k=>2 - k) 0 (by omega) ?_ ?_
 ·exact kk 2 (a6k none) rfl (by simp [a0d,a0e])
 rintro j hk
 have hbs:a2n img (j+1)=a1Y (a2n img j) j ((img.drop (j*64)).take 64):=rfl
 have hdk:j=2->a2n img 2=a2n img j:=fun h=>by rw [h]
 generalize a2n img 2=res at *
 repeat' (first|refine Zs rfl ?_|refine Zc rfl ?_|refine Zh ?_|refine Qs ?_)
 refine a0g rfl (fun h1=>?_) (fun h1=>?_)
 ·have hk2:j<2:=by omega
  have hbl:((img.drop (j*64)).take 64).length=64:=by simp;omega
  have e1:IntKind.i64.wrap ((j:Int)*64)=((j*64:Nat):Int):=a0x (by omega) (by omega) (by omega)
  have e2:IntKind.i64.wrap (((j*64:Nat):Int)+64)=((j*64+64:Nat):Int):=a0x (by omega) (by omega) (by omega)
  repeat' (first|refine Zs rfl ?_|refine Zc rfl ?_|refine Qa rfl ?_)
  rw [e1,e2]
  refine a1f (l:=j*64) (h:=j*64+64) (ys:=(img.drop (j*64)).take 64) (a0q rfl rfl) (a0q rfl rfl) (by omega) (by omega) (by rw [List.drop_take];congr 1;omega) rfl rfl rfl rfl rfl ?_
  refine nx0 ?_
  generalize (img.drop (j*64)).take 64=bb at *
  generalize a2n img j=o at *
  repeat' (first|refine Zs rfl ?_|refine Qa rfl ?_)
  refine Ck (fun _=>rfl) rfl (a0f (E:=E0 X) (fun X=>c2W X bb j (by omega) (by omega)) (by simp [a0e,a0d]) _) ?_
  cases hd:a6F bb j with
  | none =>
   have hp1:a1Y o j bb=o:=by simp only [a1Y,hd]
   show Nx _ (.tup [sbA a4Q,.bool false]) _
   refine nx0 ?_
   repeat' (first|refine Zs rfl ?_|refine Zc rfl ?_|refine Zh ?_|((refine Qa rfl ?_);(refine QJ rfl rfl ?_);(refine QZ ?_))|(refine Qb rfl ?_;try (refine QS rfl rfl rfl rfl rfl rfl rfl ?_;(refine QZ ?_)))|refine Qs ?_)
   refine ⟨j+1,by omega,by omega,?_⟩
   rw [hbs,hp1]
   refine a0j 2 (Nat.zero_le _) (a6k o) rfl (by simp) ?_
   repeat' (first|exact a0l|refine a0a ⟨?_,?_⟩ ?_)
   all_goals (try first|exact rfl|exact trivial|(simp [a0d,a0e];done)|(refine congrArg (AV.int .i64) (a0x ?_ ?_ ?_)<;>(first|omega|(simp;omega))))
  | some s =>
   have hg:=(b4M (a6f hd).1).gen
   have htm:s.gen.tmod 2=s.gen%2:=Int.tmod_eq_emod_of_nonneg (by omega)
   show Nx _ (.tup [sbA s,.bool true]) _
   refine nx0 ?_
   repeat' (first|refine Zs rfl ?_|refine Zc rfl ?_|((refine Qa rfl ?_);(refine QJ rfl rfl ?_);(refine QZ ?_))|(refine Qb rfl ?_;try (refine QS rfl rfl rfl rfl rfl rfl rfl ?_;(refine QZ ?_))))
   rw [htm]
   by_cases hsj:s.gen%2=(j:Int)
   ·rw [decide_eq_true hsj]
    cases o with
    | none =>
     have hp1:a1Y none j bb=some s:=by simp only [a1Y,hd];exact if_pos ⟨hsj,by show (0:Int)<s.gen;omega⟩
     repeat' (first|refine Zs rfl ?_|refine Zc rfl ?_|refine Zh ?_|refine Qs ?_)
     refine ⟨j+1,by omega,by omega,?_⟩
     rw [hbs,hp1]
     refine a0j 2 (Nat.zero_le _) (a6k (some s)) rfl (by simp) ?_
     repeat' (first|exact a0l|refine a0a ⟨?_,?_⟩ ?_)
     all_goals (try first|exact rfl|exact trivial|(simp [a0d,a0e];done)|(refine congrArg (AV.int .i64) (a0x ?_ ?_ ?_)<;>(first|omega|(simp;omega))))
    | some s2 =>
     repeat' (first|refine Zs rfl ?_|refine Zh ?_|refine Qs ?_)
     refine a0g rfl (fun h5=>?_) (fun h5=>?_)
     ·have hp1:a1Y (some s2) j bb=some s:=by simp only [a1Y,hd];exact if_pos ⟨hsj,h5⟩
      repeat' (first|refine Zs rfl ?_|refine Zc rfl ?_|refine Zh ?_|refine Qs ?_)
      refine ⟨j+1,by omega,by omega,?_⟩
      rw [hbs,hp1]
      refine a0j 2 (Nat.zero_le _) (a6k (some s)) rfl (by simp) ?_
      repeat' (first|exact a0l|refine a0a ⟨?_,?_⟩ ?_)
      all_goals (try first|exact rfl|exact trivial|(simp [a0d,a0e];done)|(refine congrArg (AV.int .i64) (a0x ?_ ?_ ?_)<;>(first|omega|(simp;omega))))
     have hp1:a1Y (some s2) j bb=some s2:=by simp only [a1Y,hd];exact if_neg fun h=>h5 h.2
     repeat' (first|refine Zs rfl ?_|refine Zc rfl ?_|refine Zh ?_|refine Qs ?_)
     refine ⟨j+1,by omega,by omega,?_⟩
     rw [hbs,hp1]
     refine a0j 2 (Nat.zero_le _) (a6k (some s2)) rfl (by simp) ?_
     repeat' (first|exact a0l|refine a0a ⟨?_,?_⟩ ?_)
     all_goals (try first|exact rfl|exact trivial|(simp [a0d,a0e];done)|(refine congrArg (AV.int .i64) (a0x ?_ ?_ ?_)<;>(first|omega|(simp;omega))))
   have hp1:a1Y o j bb=o:=by simp only [a1Y,hd];exact if_neg fun h=>hsj h.1
   rw [decide_eq_false hsj]
   repeat' (first|refine Zs rfl ?_|refine Zc rfl ?_|refine Zh ?_|refine Qs ?_)
   refine ⟨j+1,by omega,by omega,?_⟩
   rw [hbs,hp1]
   refine a0j 2 (Nat.zero_le _) (a6k o) rfl (by simp) ?_
   repeat' (first|exact a0l|refine a0a ⟨?_,?_⟩ ?_)
   all_goals (try first|exact rfl|exact trivial|(simp [a0d,a0e];done)|(refine congrArg (AV.int .i64) (a0x ?_ ?_ ?_)<;>(first|omega|(simp;omega))))
 have hk2:j=2:=by omega
 have hdk:=hdk hk2
 rw [hdk]
 generalize a2n img j=o
 cases o with
 | none =>
  repeat' (first|refine Zs rfl ?_|refine Zc rfl ?_|refine Zh ?_|refine Qs ?_)
  exact a0c ⟨_,rfl,rfl⟩
 | some s =>
  repeat' (first|refine Zs rfl ?_|refine Zc rfl ?_|refine Zh ?_|refine Qs ?_)
  exact a0c ⟨_,rfl,rfl⟩
def Dv.pubd(v:Dv)(s:Sb):Dv:={ v.put (a4f s) (a3D s (a4f s)) with old:=[] }
theorem Lv.pubd{L:Nat}{v:Dv}(h:Lv L v)(hL:128<=L)(s:Sb):Lv L (v.pubd s):=by
 have h1:=a9I s
 exact (h.put (k:=a4f s) (by omega) (b:=a3D s (a4f s)) (by rw [a3k];decide)).clean
theorem Lv.pub{L:Nat}{v:Dv}(h:Lv L v)(hL:128<=L){s:Sb}(hb:sbB s=true):v.pub s=(0,v.pubd s):=by
 have h1:=a9I s
 have hw:=h.write (k:=a4f s) (by omega) (b:=a3D s (a4f s)) (by rw [a3k];decide)
 have hbr:=(h.put (k:=a4f s) (by omega) (b:=a3D s (a4f s)) (by rw [a3k];decide)).bar
 unfold Dv.pub
 rw [if_pos hb,hw]
 simp only [ne_eq,not_true_eq_false,if_false]
 rw [hbr]
 rfl
theorem b9H{v:Dv}{s:Sb}{j:Nat}(hL:128<=v.image.length)(hj:j*64+64<=v.image.length) :
  ((v.pubd s).image.drop (j*64)).take 64=if j=a4f s then a3D s (a4f s) else (v.image.drop (j*64)).take 64:=by
 have h1:=a9I s
 exact c3d (v:=v) (k:=a4f s) (j:=j) (b:=a3D s (a4f s)) (by omega) (a3k _ _) hj
theorem b3l{L:Nat}{v:Dv}(h:Lv L v)(hL:128<=L):a2c v=a2n v.image 2:=by
 refine if_pos ⟨a8W h.inv h.dead (k:=0) (by rw [h.len];omega),a8W h.inv h.dead (k:=1) (by rw [h.len];omega)⟩
theorem a6s{o:Option Sb}{k:Nat}{b:List UInt8}(h:a6F b k=none):a1Y o k b=o:=by simp only [a1Y,h]
theorem b4A{o:Option Sb}{k:Nat}{b:List UInt8}{s:Sb}(h:a6F b k=some s)(h1:s.gen%2=(k:Int))(h2:c6f o<s.gen):a1Y o k b=some s:=by
 simp only [a1Y,h];exact if_pos ⟨h1,h2⟩
theorem b0g(img:List UInt8):a2n img 2=a1Y (a1Y none 0 ((img.drop (0*64)).take 64)) 1 ((img.drop (1*64)).take 64):=rfl
theorem b7d(X:Nat->Prop)(v:Dv)(hv:v.Ok)(s:Sb)(fv:AV)(hfv:∀m w v,(E0 X).Rel m w fv v->(E0 X).Rel m w (.sl 4 (s.fo.map laA)) v)(hfl:s.fo.length<=4611686018427387904) :
  a0b (E0 X) 97 [.ptr 0 0,.agg (sbF s fv)] (a0K v) (fun r H'=>r=.int .i64 (v.pub s).1/\H'=a0K (v.pub s).2) :=
 a0b.weak (b7c X v hv s hfl) fun m w vs h=>by
  obtain ⟨u1,r1,rfl,h1,h⟩:=a0o.1 h
  obtain ⟨u2,r2,rfl,h2,h⟩:=a0o.1 h
  exact RelL.cons h1 (RelL.cons (a5f (hfv m w) h2) h)
theorem a9p{img:List UInt8}(h:a6C img.length):Lv img.length (Dv.fresh img):=⟨b6n h,rfl,rfl,rfl⟩
def a6D(hdr:La->Int->Option Hd)(l:La)(n:Nat):List Rg:=(List.range n).filterMap fun (i:Nat)=>(hdr l (i:Int)).map fun h=>⟨h,l⟩
def a3J(hdr:La->Int->Option Hd)(ls:List La):List Rg:=ls.flatMap fun l=>a6D hdr l l.regs.toNat
theorem b0k(hdr:La->Int->Option Hd)(l:La)(n:Nat):a6D hdr l (n+1)=a6D hdr l n++((hdr l (n:Int)).map fun h=>(⟨h,l⟩:Rg)).toList:=by
 unfold a6D
 rw [List.range_succ,List.filterMap_append]
 cases h:hdr l (n:Int)<;>simp [h]
theorem b0j{hdr:La->Int->Option Hd}{ls:List La}{i:Nat}{l:La}(h:ls[i]?=some l):a3J hdr (ls.take (i+1))=a3J hdr (ls.take i)++a6D hdr l l.regs.toNat:=by
 obtain ⟨hi,rfl⟩:=List.getElem?_eq_some_iff.1 h
 unfold a3J
 rw [List.take_succ_eq_append_getElem hi,List.flatMap_append];simp
theorem a8U(hdr:La->Int->Option Hd)(l:La)(n:Nat):(a6D hdr l n).length<=n:=by
 have:=List.length_filterMap_le (fun (i:Nat)=>(hdr l (i:Int)).map fun h=>(⟨h,l⟩:Rg)) (List.range n)
 simpa [a6D] using this
theorem a4C{hdr:La->Int->Option Hd}{ls:List La}(h:∀l∈ls,a1a l=true):(a3J hdr ls).length<=16*ls.length:=by
 induction ls with
 | nil=>simp [a3J]
 | cons l ls ih =>
  have h1:=ih fun x hx=>h x (List.mem_cons_of_mem _ hx)
  have h2:=a8U hdr l l.regs.toNat
  have h3:=a1z (h l (List.mem_cons_self ..))
  unfold a3J at h1 ⊢
  rw [List.flatMap_cons,List.length_append,List.length_cons]
  omega
def a0W(s:Sb):List La:=s.t::s.fo
theorem a7K(s:Sb)(hl:s.fo.length<=1000):∀X,Pur (E0 X) 22 [sbA s] (.sl 4 ((a0W s).map laA)):=by
 refine fun X=>⟨⟨a1J,trivial⟩,fun Y=>?_⟩
 refine a0b.frz0 (e:=23) 4 ?_ rfl (by kernel_rfl) (a1w _)
 refine Z0 Proofs.Tryz.func22 rfl Proofs.Tryz.ntmps22 (by kernel_rfl) rfl ?_
 refine Zc rfl (Zc rfl (Zs rfl (Zs rfl (Zh ?_))))
 refine Zc rfl ?_
 refine Zc rfl ?_
 refine Zs rfl ?_
 refine Zs rfl ?_
 refine Qa rfl ?_
 refine a1o rfl rfl rfl rfl rfl rfl rfl (.inl rfl) rfl (.inl rfl) ?_
 refine nx rfl rfl ?_
 repeat' (refine Zs rfl ?_)
 refine Qa rfl ?_
 have hl1:[laA s.t]++s.fo.map laA=(a0W s).map laA:=rfl
 have hl2:[laA s.t].length+(s.fo.map laA).length=(a0W s).length:=by simp [a0W];omega
 have hl3:(a0W s).length<=1001:=by simp [a0W];omega
 have hone:a2R (s.fo.map laA):=fun y hy=>by
  obtain ⟨b,_,rfl⟩:=List.mem_map.1 hy;exact ⟨rfl,rfl⟩
 refine a0V (oid:=some 1) (es:=[laA s.t]) (out:=(a0W s).map laA) (n:=(a0W s).length) (a0M rfl rfl) (rfl) (hone) (hl1) (hl2) (by show _<=9223372036854775807;omega) (by show _*32<=_;omega) rfl rfl rfl rfl rfl rfl rfl rfl ?_
 refine nx rfl rfl ?_
 repeat' (refine Zs rfl ?_)
 refine a0c ⟨_,rfl,2,_,rfl,by rw [List.length_map],rfl⟩
theorem a9y(img:List UInt8)(sb:Sb)(him:img.length<=1073741824)(hf:∀l∈a0W sb,a1a l=true)(hfo:sb.fo.length<=999):∀X,a0b (E0 X) 51 [.sl 1 (img.map u8A),sbA sb] []
  (fun r H'=>r=.sl 10 ((a3J (a2q img) (a0W sb)).map rgA)/\H'=[]):=fun X=>by
 refine a0b.frz0 (e:=63) 10 ?_ rfl (by kernel_rfl) (a1d _)
 have hlay:=a7K sb (by omega) X
 have hll:(a0W sb).length<=1000:=by simp [a0W];omega
 generalize a0W sb=ls at *
 have hu:∀{n},a0e n (img.map u8A):=a0h fun _=>a0k
 refine Z0 Proofs.Tryz.func51 rfl Proofs.Tryz.ntmps51 (by kernel_rfl) rfl ?_
 repeat' (first|refine Zs rfl ?_|refine Zc rfl ?_)
 refine Zp rfl rfl (hlay) rfl ?_
 repeat' (first|refine Zs rfl ?_|refine Zh ?_)
 refine a1B (I:=fun _:Unit=>True) (σ:=fun _=>⟨[(5,.own 0 0 (a3J (a2q img) ls).length)],[some (.arr ((a3J (a2q img) ls).map rgA) 63)]⟩) ?_ ?_
 ·refine Zc rfl ?_
  refine a0s (fun i:Nat=>⟨[(0,.sl 1 (img.map u8A)),(5,.own 0 0 (a3J (a2q img) (ls.take i)).length),(12,.sl 4 (ls.map laA)),(13,.int .i64 (ls.length:Int)),(14,.int .i64 (i:Int))],[some (.arr ((a3J (a2q img) (ls.take i)).map rgA) 63)]⟩) (fun i=>i<=ls.length) (fun i=>ls.length - i) 0 (Nat.zero_le _) ?_ ?_
  ·refine (imp_nil 5 63 rfl).trans (a0S 0 [1] (H':=[some (.arr [] 63)]) (os:=[.arr [] 63]) (Nat.zero_le _) (Nat.zero_le _) (by simp) (by simp) (fun j o ho=>by cases ho) rfl rfl ?_ ?_)
   ·exact a0a (a0v rfl hu) (a0a (a0L rfl) (a0a (a0v rfl (a1w ls)) (a0a (a0v (by rw [List.length_map];rfl) trivial) (a0a (a0v rfl trivial) a0l))))
   ·exact a0E rfl (a0A 0 (fun i h=>absurd h (Nat.not_lt_zero i)) trivial) a0T
  intro i hi
  repeat' (first|refine Zs rfl ?_|refine Zc rfl ?_)
  refine a0g rfl (fun h1=>?_) (fun h1=>?_)
  ·have hil:i<ls.length:=by omega
   obtain ⟨l,hlx⟩:∃l,ls[i]?=some l:=⟨_,List.getElem?_eq_getElem hil⟩
   have hfl:=hf l (List.mem_of_getElem? hlx)
   have hrs:=a1z hfl
   have hsn:=b0j (hdr:=a2q img) hlx
   have hol:=a4C (hdr:=a2q img) (ls:=ls.take i) (fun x hx=>hf x (List.mem_of_mem_take hx))
   rw [List.length_take] at hol
   have hiw:IntKind.i64.wrap ((i:Int)+1)=((i+1:Nat):Int):=a0r (by omega) (by omega)
   generalize hout:a3J (a2q img) (ls.take i)=out at *
   repeat' (refine Zc rfl ?_)
   refine Qa rfl ?_
   refine a0C hlx rfl rfl rfl rfl rfl rfl rfl (by first|rfl|omega) rfl ?_
   refine nx rfl rfl ?_
   repeat' (refine Zs rfl ?_)
   refine Zh (Kz 1 [0,5,7,12,13,14] 1 (a7G out) rfl rfl ⟨hu,Nat.zero_lt_one,⟨trivial,trivial,trivial,trivial,trivial⟩,a1w ls,trivial,trivial,trivial⟩ ?_)
   have hic:∀{n},a0d n (.fp (laL l)):=⟨trivial,trivial,trivial,trivial,trivial⟩
   repeat' (first|refine Zs rfl ?_|refine Zc rfl ?_)
   refine a0s (fun j:Nat=>⟨[(0,.sl 1 (img.map u8A)),(5,.own 0 0 (out++a6D (a2q img) l j).length),(7,.fp (laL l)),(12,.sl 4 (ls.map laA)),(13,.int .i64 (ls.length:Int)),(14,.int .i64 (i:Int)),(8,.int .i64 (j:Int))],[some (.arr ((out++a6D (a2q img) l j).map rgA) 63)]⟩) (fun j=>j<=l.regs.toNat) (fun j=>l.regs.toNat - j) 0 (Nat.zero_le _) ?_ ?_
   ·refine a0j 1 (Nat.zero_le _) (a7G _) (by rw [show a6D (a2q img) l 0=[] from rfl,List.append_nil];rfl) (Nat.le_refl 1) ?_
    exact a0a ⟨rfl,hu⟩ (a0a ⟨by rw [show a6D (a2q img) l 0=[] from rfl,List.append_nil];rfl,Nat.zero_lt_one⟩ (a0a ⟨rfl,hic⟩ (a0a ⟨rfl,a1w ls⟩ (a0a ⟨rfl,trivial⟩ (a0a ⟨rfl,trivial⟩ (a0a ⟨rfl,trivial⟩ a0l))))))
   intro j hj
   have hcs:=b0k (a2q img) l j
   have hcl:=a8U (a2q img) l j
   generalize hcj:a6D (a2q img) l j=cj at *
   have hjw:IntKind.i64.wrap ((j:Int)+1)=((j+1:Nat):Int):=a0r (by omega) (by omega)
   repeat' (first|refine Zs rfl ?_|refine Zc rfl ?_)
   refine a0g rfl (fun h2=>?_) (fun h2=>?_)
   ·have hjl:j<l.regs.toNat:=by omega
    have hda:Pur (E0 X) 101 [.sl 1 (img.map u8A),laA l,.int .i64 (j:Int)] (c4v (a2q img l (j:Int))):=⟨⟨hu,a1g,trivial,trivial⟩,fun Y=>c3W Y img him l (j:Int)⟩
    repeat' (first|refine Zs rfl ?_|refine Zc rfl ?_)
    refine Zp rfl rfl (hda) rfl ?_
    cases ho:a2q img l (j:Int) with
    | none =>
     rw [ho] at hcs
     have hcs2:a6D (a2q img) l (j+1)=cj:=by rw [hcs];simp
     repeat' (first|refine Zs rfl ?_|refine Zc rfl ?_)
     refine ⟨j+1,by show j+1<=l.regs.toNat;omega,by show l.regs.toNat - (j+1)<l.regs.toNat - j;omega,?_⟩
     rw [hcs2]
     exact a0j 1 (Nat.zero_le _) (a7G _) rfl (Nat.le_succ 1) (a0a ⟨rfl,hu⟩ (a0a ⟨rfl,Nat.zero_lt_one⟩ (a0a ⟨rfl,hic⟩ (a0a ⟨rfl,a1w ls⟩ (a0a ⟨rfl,trivial⟩ (a0a ⟨rfl,trivial⟩ (a0a ⟨congrArg (AV.int .i64) hjw,trivial⟩ a0l)))))))
    | some h =>
     rw [ho] at hcs
     have hcs2:out++a6D (a2q img) l (j+1)=out++cj++[Rg.mk h l]:=by rw [hcs];simp
     repeat' (first|refine Zs rfl ?_|refine Zc rfl ?_)
     refine Qa rfl ?_
     have hl1:((out++cj).map rgA)++[rgA (Rg.mk h l)]=(out++cj++[Rg.mk h l]).map rgA:=by simp
     have hl2:((out++cj).map rgA).length+1=(out++cj++[Rg.mk h l]).length:=by simp only [List.length_map,List.length_append,List.length_cons,List.length_nil]
     have hl3:(out++cj++[Rg.mk h l]).length<=1000001:=by simp;omega
     have hone:a2R [rgA (Rg.mk h l)]:=fun y hy=>by rw [List.mem_singleton.1 hy];exact ⟨rfl,rfl⟩
     refine a0V (oid:=some 0) (es:=(out++cj).map rgA) (out:=(out++cj++[Rg.mk h l]).map rgA) (n:=(out++cj++[Rg.mk h l]).length) (a0M rfl (by rw [List.length_map])) (rfl) (hone) (hl1) (hl2) (by show _<=9223372036854775807;omega) (by show _*80<=_;omega) rfl rfl rfl rfl rfl rfl rfl rfl ?_
     refine nx rfl rfl ?_
     repeat' (first|refine Zs rfl ?_|refine Zc rfl ?_)
     refine ⟨j+1,by show j+1<=l.regs.toNat;omega,by show l.regs.toNat - (j+1)<l.regs.toNat - j;omega,?_⟩
     rw [hcs2]
     refine a0S 0 [2] (H':=[some (.arr ((out++cj++[Rg.mk h l]).map rgA) 63)]) (os:=[.arr ((out++cj++[Rg.mk h l]).map rgA) 63]) (Nat.zero_le _) (Nat.zero_le _) (by simp) (by simp) (fun j o ho=>by cases ho) rfl ?_ ?_ ?_
     ·rfl
     ·exact a0a (a0v rfl hu) (a0a (a0L rfl) (a0a (a0v rfl hic) (a0a (a0v rfl (a1w ls)) (a0a (a0v rfl trivial) (a0a (a0v rfl trivial) (a0a (a0v (congrArg (AV.int .i64) hjw) trivial) a0l))))))
     ·exact a0E rfl (a0A 0 (fun i h=>absurd h (Nat.not_lt_zero i)) (a1d _)) a0T
   have hjj:j=l.regs.toNat:=by omega
   subst hjj
   rw [<- hcj,<- hsn]
   repeat' (first|refine Zs rfl ?_|refine Zc rfl ?_)
   refine ⟨i+1,hil,by omega,?_⟩
   exact a0j 1 (Nat.zero_le _) (a7G _) rfl (Nat.le_refl 1) (a0a ⟨rfl,hu⟩ (a0a ⟨rfl,Nat.zero_lt_one⟩ (a0a ⟨rfl,a1w ls⟩ (a0a ⟨rfl,trivial⟩ (a0a ⟨congrArg (AV.int .i64) hiw,trivial⟩ a0l)))))
  have hii:i=ls.length:=by omega
  repeat' (refine Zc rfl ?_)
  refine ⟨rfl,(),trivial,?_⟩
  rw [hii,List.take_length]
  exact kk 1 (a7G _) rfl ⟨Nat.zero_lt_one,trivial⟩
 intro _ _
 repeat' (first|refine Zs rfl ?_|refine Zc rfl ?_)
 exact a0c ⟨_,rfl,0,_,rfl,by rw [List.length_map],rfl⟩
end Go.Abs
