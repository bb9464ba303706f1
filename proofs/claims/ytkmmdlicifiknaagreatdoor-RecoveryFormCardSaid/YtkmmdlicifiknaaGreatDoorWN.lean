/- Superblocks: the program's Decode. Joined texts, each with what its own name promises; no condition beyond those stated. -/
import Derived.Test.YtkmmdlicifiknaaGreatDoorWC
import Derived.Test.YtkmmdlicifiknaaGreatDoorWM
import Derived.Test.YtkmmdlicifiknaaGreatDoorWG
import Derived.Test.YtkmmdlicifiknaaGreatDoorWE
import Derived.Test.YtkmmdlicifiknaaGreatDoorWL
set_option maxHeartbeats 0
set_option maxRecDepth 100000
set_option linter.all false
namespace Go.Abs
def zOs:AO:=.cells (sbF a4u .nils) 26
def sdH(bs:List UInt8)(lo:Nat)(s:Sb)(fv:AV):Hp:=[some zOs,some (.arr (bs.map u8A) 5),some (b5h bs 1 lo),some (.cells (sbF s fv) 26)]
theorem a9c(bs:List UInt8)(lo:Nat)(s:Sb){fv:AV}(h:a0g 4 fv):HOk 4 (sdH bs lo s fv):=fun j o ho=>by
 match j,ho with
 | 0,ho=>cases ho;exact ⟨trivial,trivial,trivial,trivial,trivial,trivial,trivial,trivial,trivial,trivial,trivial,trivial,trivial,trivial,trivial⟩
 | 1,ho=>cases ho;exact a0h fun _=>a0n
 | 2,ho=>cases ho;exact ⟨by simp [a0g],trivial,trivial⟩
 | 3,ho=>cases ho;exact ⟨trivial,trivial,trivial,trivial,trivial,trivial,trivial,trivial,trivial,trivial,trivial,trivial,trivial,h,trivial⟩
theorem c3M(bs:List UInt8)(lo:Nat):HOk 3 [some zOs,some (.arr (bs.map u8A) 5),some (b5h bs 1 lo)]:=fun j o ho=>by
 match j,ho with
 | 0,ho=>cases ho;exact ⟨trivial,trivial,trivial,trivial,trivial,trivial,trivial,trivial,trivial,trivial,trivial,trivial,trivial,trivial,trivial⟩
 | 1,ho=>cases ho;exact a0h fun _=>a0n
 | 2,ho=>cases ho;exact ⟨by simp [a0g],trivial,trivial⟩
theorem b9S{E:Env}{N n0:Nat}{Q Q2:Exit->St->Prop}{s:St}{c c2:Code}{ι:Type}(σ:ι->St)(I:ι->Prop)(h1:AWp E N n0 c (fun e s'=>e=.normal/\∃i,I i/\Imp E N n0 s' (σ i)) s)(h2:∀i,I i->AWp E N n0 c2 Q2 (σ i)):AWp E N n0 c (a8M (AWp E N n0 c2 Q2) Q) s :=
 a3y h1 fun e s' ⟨he,i,hi,im⟩=>by subst he;exact a0t im (h2 i hi)
attribute [local irreducible] a0B a1G AWp Nx awM
theorem c7C(X:Nat->Prop)(b:List UInt8)(sector:Nat)(hs:sector<1048576)(hb:b.length<=1000) :
  a0b (E0 X) 106 [.sl 1 (b.map u8A),.int .i64 (sector:Int)] [] (fun r H'=>r=b5J (a7v b sector)/\H'=[]):=by
 refine a0b.cut0 ?_ (by unfold b5J;split<;>exact ⟨a1P,trivial,trivial⟩)
 refine a0b.weakR (R:=fun r _=>(r=.tup [.agg (sbF a4u .nils),.bool false]/\a7v b sector=none)\/(∃s fv,r=.tup [.agg (sbF s fv),.bool true]/\a7v b sector=some s/\∀m w v,(E0 X).Rel m w fv v->(E0 X).Rel m w (.sl 4 (s.fo.map laA)) v)) ?_ ?_
 rotate_left
 ·rintro r H' (⟨rfl,h2⟩|⟨s,fv,rfl,h2,h3⟩)
  ·exact ⟨_,rfl,fun m w v h=>by rw [h2];exact b7w v h⟩
  ·exact ⟨_,rfl,fun m w v h=>by rw [h2];exact a6h (fun v h=>a6B (h3 m w) h) v h⟩
 have hdec:=fun X=>b3B X 3 0 sector b ⟨by decide,by decide,hs⟩ (by decide) (by omega)
 refine Z0 Proofs.Tryz.func106 rfl Proofs.Tryz.ntmps106 (by kernel_rfl) rfl ?_
 repeat' (first|refine Zs rfl ?_|refine Zc rfl ?_|refine Qa rfl ?_)
 refine Ck (fun _=>rfl) rfl (a0f (E:=E0 X) hdec (by simp [a0e,a0g]) _) ?_
 cases hd:a2M 3 0 sector b with
 | none =>
  have e:a7v b sector=none:=by simp only [a7v,hd]
  rw [e]
  show Nx _ (.tup [.nils,.bool false]) _
  refine nx rfl rfl ?_
  repeat' (first|refine Zs rfl ?_|refine Zc rfl ?_|refine Zh ?_|refine Qs ?_)
  exact a0c ⟨_,rfl,.inl ⟨rfl,rfl⟩⟩
 | some bs =>
  obtain ⟨hbl,-⟩:bs.length=59/\b.length=64:=by
   unfold a2M at hd
   split at hd
   ·rename_i h1
    simp only [Option.some.injEq] at hd
    subst hd
    simp;omega
   ·cases hd
  have e:a7v b sector=if a3W (b5K bs) sector=some b then some (b5K bs) else none:=by simp only [a7v,hd]
  rw [e]
  show Nx _ (.tup [.sl 1 (bs.map u8A),.bool true]) _
  refine nx rfl rfl ?_
  repeat' (first|refine Zs rfl ?_|refine Zc rfl ?_|refine Qa rfl ?_)
  refine Cn rfl (a9Z X bs (by omega) _ _ rfl) rfl rfl ?_
  repeat' (first|((refine Qa rfl ?_);(refine QJ rfl rfl ?_);(refine QX rfl rfl ?_))|(refine Qb rfl ?_;try (refine QS rfl rfl rfl rfl rfl rfl rfl ?_;(refine QX rfl rfl ?_)))|refine Qh ?_)
  refine a2s ?_
  refine a0t (a0X (id:=3) (cs:=[.ptr 2 0]) rfl) ?_
  refine Kc [0,1,4,8] 3 (c3M bs 0) rfl rfl (by simp [a0g,a0e]) ?_
  have q1:=fun R=>a6G X bs 0 5 (by decide) (by decide) (by omega) (by omega) [some zOs] R 1 rfl
  have q2:=fun R=>a6G X bs 5 1 (by decide) (by decide) (by omega) (by omega) [some zOs] R 1 rfl
  have q3:=fun R=>a6G X bs 6 4 (by decide) (by decide) (by omega) (by omega) [some zOs] R 1 rfl
  have q4:=fun R=>a6G X bs 10 6 (by decide) (by decide) (by omega) (by omega) [some zOs] R 1 rfl
  have q5:=fun R=>a6G X bs 16 5 (by decide) (by decide) (by omega) (by omega) [some zOs] R 1 rfl
  have q6:=fun R=>b0q X bs 21 (by omega) (by omega) [some zOs] R 1 rfl
  have q7:=fun R=>b0q X bs 28 (by omega) (by omega) [some zOs] R 1 rfl
  have q8:=fun R=>a6G X bs 35 1 (by decide) (by decide) (by omega) (by omega) [some zOs] R 1 rfl
  have q9:=fun R=>b0q X bs 36 (by omega) (by omega) [some zOs] R 1 rfl
  have hp:b5K bs=⟨(a0I ((bs.drop 0).take 5):Nat),(a0I ((bs.drop 5).take 1):Nat),(a0I ((bs.drop 6).take 4):Nat),(a0I ((bs.drop 10).take 6):Nat),(a0I ((bs.drop 16).take 5):Nat),a8q bs 21,a8q bs 28,
   if a0I ((bs.drop 35).take 1)=1 then [a8q bs 28] else if a0I ((bs.drop 35).take 1)=2 then [a8q bs 28,a8q bs 36] else []⟩:=rfl
  have s8:=a0Z (bs:=bs) (lo:=35) (w:=1) (by decide)
  rw [hp]
  generalize a0I ((bs.drop 0).take 5)=n1 at *
  generalize a0I ((bs.drop 5).take 1)=n2 at *
  generalize a0I ((bs.drop 6).take 4)=n3 at *
  generalize a0I ((bs.drop 10).take 6)=n4 at *
  generalize a0I ((bs.drop 16).take 5)=n5 at *
  generalize a0I ((bs.drop 35).take 1)=n8 at *
  generalize a8q bs 21=la at *
  generalize a8q bs 28=lh at *
  generalize a8q bs 36=lf at *
  repeat' (first|refine Zs rfl ?_|refine Zc rfl ?_)
  refine a3f (s1:=⟨[(0,.sl 1 (b.map u8A)),(1,.int .i64 (sector:Int)),(4,.ptr 0 0),(8,.fp [.ptr 2 0]),(9,(.clo (.func 151) [] [.fp [.ptr 2 0]])),(10,.ptr 3 0)],sdH bs 35 ⟨n1,n2,n3,n4,n5,la,lh,[]⟩ .nils⟩) ?_ ?_
  rotate_left
  ·repeat' (first|refine Zs rfl ?_|refine Zc rfl ?_|refine Qa rfl ?_)
   refine Cn rfl (q8 _) rfl rfl ?_
   repeat' (refine Qh ?_)
   refine a2s ?_
   refine b9S (fun p:Nat × List La × AV=>⟨[(0,.sl 1 (b.map u8A)),(1,.int .i64 (sector:Int)),(4,.ptr 0 0),(10,.ptr 3 0)],sdH bs p.1 ⟨n1,n2,n3,n4,n5,la,lh,p.2.1⟩ p.2.2⟩) (fun p=>p.2.1=(if n8=1 then [lh] else if n8=2 then [lh,lf] else [])/\a0g 4 p.2.2/\a0g 0 p.2.2/\(p.2.2=.nils\/p.2.2=.sl 4 (p.2.1.map laA))/\∀X m w v,(E0 X).Rel m w p.2.2 v->(E0 X).Rel m w (.sl 4 (p.2.1.map laA)) v) ?_ ?_
   ·repeat' (first|refine Zs rfl ?_|refine Zc rfl ?_|refine Zh ?_|refine Qs ?_)
    refine a0d rfl (fun h1=>?_) (fun h1=>?_)
    ·have h1':n8=1:=by omega
     repeat' (first|refine Zs rfl ?_|refine Zc rfl ?_|refine Zh ?_|refine Qu ?_)
     exact ⟨rfl,(36,[lh],.sl 4 ([lh].map laA)),⟨(if_pos h1').symm,a1k _,a1k _,.inr rfl,fun _ _ _ _ h=>h⟩,ik 4 (a9c bs 36 _ (a1k _)) rfl rfl rfl rfl (by simp [a0e,a0g])⟩
    have h1':¬ n8=1:=by omega
    rw [if_neg h1']
    repeat' (first|refine Zs rfl ?_|refine Zc rfl ?_|refine Zh ?_|refine Qs ?_)
    refine a0d rfl (fun h2=>?_) (fun h2=>?_)
    ·have h2':n8=2:=by omega
     skip
     refine a3y (Q:=fun e s=>e=.normal/\Imp (E0 X) 72 0 s ⟨[(0,.sl 1 (b.map u8A)),(1,.int .i64 (sector:Int)),(4,.ptr 0 0),(10,.ptr 3 0)],sdH bs 43 ⟨n1,n2,n3,n4,n5,la,lh,[lh,lf]⟩ (.sl 4 ([lh,lf].map laA))⟩) ?_ ?_
     rotate_left
     ·rintro e s ⟨rfl,h⟩
      exact ⟨rfl,(43,[lh,lf],.sl 4 ([lh,lf].map laA)),⟨(if_pos h2').symm,a1k _,a1k _,.inr rfl,fun _ _ _ _ h=>h⟩,h⟩
     refine a0o [1,3,6] [0,2,4,5] (by exact rfl) ?_
     refine a0C (fuel:=5) [0,2] (by exact rfl) (by kernel_rfl) (by kernel_rfl) ?_
     repeat' (first|((apply Qe rfl rfl rfl rfl;intro H9);(first|refine Q3 rfl rfl rfl ?_|refine Q4 rfl rfl rfl rfl rfl ?_);(exact QY rfl ⟨rfl,rfl⟩))|refine Qk ?_)
     refine a2e [1,3] (by kernel_rfl) (br2 ?_ ?_)
     ·refine a1v rfl rfl rfl ?_
      refine a4h rfl rfl rfl ?_
      refine nx rfl rfl ?_
      refine a0C (fuel:=0) [3,4,5,6] (by exact rfl) (by kernel_rfl) (by kernel_rfl) ?_
      refine a1D rfl rfl rfl ?_
      refine Cn rfl (q9 _) rfl rfl ?_
      repeat' (first|((apply Qe rfl rfl rfl rfl;intro H9);(first|refine Q4 rfl rfl rfl rfl rfl ?_|refine QQ rfl rfl rfl rfl rfl rfl rfl rfl rfl rfl rfl ?_);(exact QY rfl ⟨rfl,rfl⟩))|(refine Qf rfl rfl rfl ?_;refine QS rfl rfl rfl rfl rfl rfl rfl ?_;(refine QX rfl rfl ?_))|refine Qk ?_|refine Qw (by kernel_rfl) ?_)
      exact ⟨rfl,ik 4 (a9c bs 43 ⟨n1,n2,n3,n4,n5,la,lh,[lh,lf]⟩ (a1k [lh,lf])) rfl rfl rfl rfl (by simp [a0e,a0g])⟩
     refine a1v rfl rfl rfl ?_
     refine Cn rfl (q9 _) rfl rfl ?_
     refine a0C (fuel:=0) [1,4,5,6] (by exact rfl) (by kernel_rfl) (by kernel_rfl) ?_
     refine a1D rfl rfl rfl ?_
     refine a4h rfl rfl rfl ?_
     refine nx rfl rfl ?_
     repeat' (first|((apply Qe rfl rfl rfl rfl;intro H9);(first|refine Q4 rfl rfl rfl rfl rfl ?_|refine QQ rfl rfl rfl rfl rfl rfl rfl rfl rfl rfl rfl ?_);(exact QY rfl ⟨rfl,rfl⟩))|(refine Qf rfl rfl rfl ?_;refine QS rfl rfl rfl rfl rfl rfl rfl ?_;(refine QX rfl rfl ?_))|refine Qk ?_|refine Qw (by kernel_rfl) ?_)
     exact ⟨rfl,ik 4 (a9c bs 43 ⟨n1,n2,n3,n4,n5,la,lh,[lh,lf]⟩ (a1k [lh,lf])) rfl rfl rfl rfl (by simp [a0e,a0g])⟩
    have h2':¬ n8=2:=by omega
    repeat' (first|refine Zc rfl ?_|refine Qu ?_)
    exact ⟨rfl,(36,[],.nils),⟨(if_neg h2').symm,trivial,trivial,.inl rfl,fun _=>b0k⟩,ik 4 (a9c bs 36 _ (fv:=.nils) trivial) rfl rfl rfl rfl (by simp [a0e,a0g])⟩
   rintro ⟨lo,fo,fv⟩ ⟨rfl,i4,i0,hv,hrel⟩
   simp only at i4 i0 hv hrel ⊢
   generalize hfo:(if n8=1 then [lh] else if n8=2 then [lh,lf] else [])=fo at *
   have hfl:fo.length<=2:=by rw [<- hfo];split;simp;split<;>simp
   repeat' (first|refine Zs rfl ?_|refine Zc rfl ?_|((refine Qa rfl ?_);(refine Q3 rfl rfl rfl ?_);(refine QZ ?_))|refine Qa rfl ?_)
   refine Ck (fun _=>rfl) rfl (a0f (E:=E0 X) (fun X=>c7G X ⟨n1,n2,n3,n4,n5,la,lh,fo⟩ fv (hrel X) sector hs (by show fo.length<=_;omega)) ⟨⟨trivial,trivial,trivial,trivial,trivial,trivial,trivial,trivial,trivial,trivial,trivial,trivial,trivial,i0,trivial⟩,trivial,trivial⟩ _) ?_
   cases he:a3W ⟨n1,n2,n3,n4,n5,la,lh,fo⟩ sector with
   | none =>
    show Nx _ (.tup [.nils,.int .i64 4]) _
    refine nx0 ?_
    repeat' (first|refine Zs rfl ?_|refine Zc rfl ?_|refine Zh ?_|(refine Qb rfl ?_;try (refine QS rfl rfl rfl rfl rfl rfl rfl ?_;(refine QZ ?_)))|refine Qs ?_)
    exact a0c ⟨_,rfl,.inl ⟨rfl,if_neg (by simp)⟩⟩
   | some eb =>
    show Nx _ (.tup [.sl 1 (eb.map u8A),.int .i64 0]) _
    refine nx0 ?_
    repeat' (first|refine Zs rfl ?_|refine Zc rfl ?_|refine Qa rfl ?_)
    refine Ck (fun _=>rfl) rfl (a0f (E:=E0 X) (fun X=>b5X X eb b) (by simp [a0e,a0g]) _) ?_
    refine nx0 ?_
    repeat' (first|refine Zs rfl ?_|refine Zh ?_|refine Qs ?_)
    refine a0H rfl (fun h9=>?_) (fun h9=>?_)
    ·have h8:¬ eb=b:=by simpa using h9
     repeat' (first|refine Zs rfl ?_|refine Zc rfl ?_|refine Zh ?_|(refine Qb rfl ?_;try (refine QS rfl rfl rfl rfl rfl rfl rfl ?_;(refine QZ ?_)))|refine Qs ?_)
     exact a0c ⟨_,rfl,.inl ⟨rfl,if_neg (by simpa using h8)⟩⟩
    have h8:eb=b:=by simpa using h9
    rcases hv with rfl|rfl
    ·repeat' (first|refine Zs rfl ?_|refine Zc rfl ?_|refine Zh ?_|refine Qs ?_)
     exact a0c ⟨_,rfl,.inr ⟨⟨n1,n2,n3,n4,n5,la,lh,fo⟩,_,rfl,if_pos (by rw [h8]),hrel X⟩⟩
    repeat' (first|refine Zs rfl ?_|refine Zc rfl ?_|refine Zh ?_|refine Qs ?_)
    exact a0c ⟨_,rfl,.inr ⟨⟨n1,n2,n3,n4,n5,la,lh,fo⟩,_,rfl,if_pos (by rw [h8]),hrel X⟩⟩
  refine a0o [1,3,5,7,9,11,13,15,16] [0,2,4,6,8,10,12,14] (by exact rfl) ?_
  refine a0C (fuel:=10) [0,2,4,6,8,10,12] (by exact rfl) (by kernel_rfl) (by kernel_rfl) ?_
  repeat' (first|((apply Qe rfl rfl rfl rfl;intro H9);(first|refine Q0 ?_|refine Q3 rfl rfl rfl ?_);(exact QY rfl ⟨rfl,rfl⟩))|refine Qk ?_)
  refine b3l (fuel:=2) [1,3,5,7,9,11,13] 15 rfl rfl rfl rfl (by kernel_rfl) rfl ?_
  refine .cons rfl (fun Y=>a1h (fun _=>rfl) rfl (q1 Y)) rfl ?_
  refine .cons rfl (fun Y=>a1h (fun _=>rfl) rfl (q2 Y)) rfl ?_
  refine .cons rfl (fun Y=>a1h (fun _=>rfl) rfl (q3 Y)) rfl ?_
  refine .cons rfl (fun Y=>a1h (fun _=>rfl) rfl (q4 Y)) rfl ?_
  refine .cons rfl (fun Y=>a1h (fun _=>rfl) rfl (q5 Y)) rfl ?_
  refine .cons rfl (fun Y=>a1h (fun _=>rfl) rfl (q6 Y)) rfl ?_
  refine .cons rfl (fun Y=>a1h (fun _=>rfl) rfl (q7 Y)) rfl ?_
  refine .nil ⟨a0C (fuel:=0) [14,15,16] (by exact rfl) (by kernel_rfl) (by kernel_rfl) ?_,a0C (fuel:=0) [14,16] (by exact rfl) (by kernel_rfl) (by kernel_rfl) ?_⟩
  ·repeat' (first|((first|refine Qc rfl rfl rfl ?_|(apply Qe rfl rfl rfl rfl;intro H9));(first|refine QJ rfl rfl ?_|refine QP rfl rfl rfl rfl rfl rfl ?_);(first|exact QY rfl ⟨rfl,rfl⟩|refine QX rfl rfl ?_))|(refine Qf rfl rfl rfl ?_;refine QS rfl rfl rfl rfl rfl rfl rfl ?_;(refine QX rfl rfl ?_))|refine Qk ?_|refine Qw (by kernel_rfl) ?_)
   exact ⟨rfl,ik 4 (a9c _ _ _ (fv:=.nils) trivial) rfl rfl rfl rfl (by simp [a0e,a0g])⟩
  ·repeat' (first|((apply Qe rfl rfl rfl rfl;intro H9);(refine QP rfl rfl rfl rfl rfl rfl ?_);(exact QY rfl ⟨rfl,rfl⟩))|(refine Qf rfl rfl rfl ?_;refine QS rfl rfl rfl rfl rfl rfl rfl ?_;(refine QX rfl rfl ?_))|refine Qk ?_|refine Qw (by kernel_rfl) ?_)
   exact ⟨rfl,ik 4 (a9c _ _ _ (fv:=.nils) trivial) rfl rfl rfl rfl (by simp [a0e,a0g])⟩
def c7D(s:Sb):Nat:=(s.gen%2).toNat
theorem c4y(X:Nat->Prop)(g:Int):a0b (E0 X) 107 [.int .i64 g] [] (fun r H'=>r=.int .i64 (g.tmod 2)/\H'=[]):=by
 refine Z0 Proofs.Tryz.func107 rfl Proofs.Tryz.ntmps107 (by kernel_rfl) rfl ?_
 repeat' (first|refine Zs rfl ?_|refine Zc rfl ?_|refine Zh ?_|refine Qs ?_)
 refine a0c ⟨_,rfl,?_,?_⟩
 ·rfl
 ·rfl
theorem c4z(X:Nat->Prop)(s:Sb)(hg:1<=s.gen/\s.gen<=1099511627775):a0b (E0 X) 107 [.int .i64 s.gen] [] (fun r H'=>r=.int .i64 (c7D s:Int)/\H'=[]):=by
 refine (c4y X s.gen).mono ?_
 rintro r H' ⟨rfl,rfl⟩
 refine ⟨congrArg (AV.int .i64) ?_,rfl⟩
 unfold c7D
 rw [Int.tmod_eq_emod_of_nonneg (by omega)]
 omega
def a8O(o:Option Sb):List AV:=sbF (o.getD a4u) (match o with|none=>.nils|some s=>.sl 4 (s.fo.map laA))
def c9o(o:Option Sb):Int:=(o.getD a4u).gen
def a2k(o:Option Sb)(k:Nat)(b:List UInt8):Option Sb:=match a7v b k with
 | none=>o
 | some s=>if s.gen%2=(k:Int)/\c9o o<s.gen then some s else o
def a2H(img:List UInt8):Nat->Option Sb
 | 0=>none
 | k+1=>a2k (a2H img k) k ((img.drop (k*64)).take 64)
def a2R(v:Dv):Option Sb:=if v.check 0=0/\v.check 1=0 then a2H v.image 2 else none
theorem a5O(o:Option Sb)(n:Nat):a0e n (a8O o):=by
 cases o with
 | none=>exact ⟨trivial,trivial,trivial,trivial,trivial,trivial,trivial,trivial,trivial,trivial,trivial,trivial,trivial,trivial,trivial⟩
 | some s=>exact ⟨trivial,trivial,trivial,trivial,trivial,trivial,trivial,trivial,trivial,trivial,trivial,trivial,trivial,a1k _,trivial⟩
theorem b5Y{E:Env}{o:Option Sb}{m:Mu}{w:World}{v:Value}(h:E.Rel m w (.tup [.agg (a8O o),.bool o.isSome]) v):E.Rel m w (b5J o) v:=by
 cases o with
 | none=>exact b7w v h
 | some s=>exact h
theorem a0b.cutD{E:Env}{f:FuncId}{args:List AV}{v v':Dv}{r0:AV}(h:a0b E f args (a1c v) (fun r H'=>r=r0/\H'.take 3=a1c v'))(hr:a0g 0 r0):a0b E f args (a1c v) (fun r H'=>r=r0/\H'=a1c v') :=
 h.imp fun r H' ⟨h1,h2⟩=>by
  subst h1
  refine ⟨_,_,⟨rfl,rfl⟩,a0i 3 (Nat.le_refl _) (a1N v') h2 ?_ ?_⟩
  ·have:(H'.take 3).length=3:=by rw [h2];rfl
   simp at this ⊢;omega
  ·exact a0a ⟨rfl,(a0x (Nat.zero_le _) (show a0e 0 [r] from ⟨hr,trivial⟩)).1⟩ a0k
theorem c1z{s:Sb}(hg:1<=s.gen)(k:Nat):((c7D s:Nat):Int)=(k:Int) ↔ s.gen%2=(k:Int):=by unfold c7D;omega
theorem a9b(v:Dv)(o:Option Sb):HOk 5 (a1c v++[some zOs,some (.cells (a8O o) 26)]):=fun j o' ho=>by
 match j,ho with
 | 0,ho=>cases ho;exact ⟨by simp [a0g],by simp [a0g],trivial,trivial,trivial,trivial⟩
 | 1,ho=>cases ho;exact a0h fun _=>a0n
 | 2,ho=>cases ho;exact ⟨by rw [List.map_map];exact a0h fun _=>trivial,by rw [List.map_map];exact a0h fun p=>(a0h (f:=u8A) fun _=>a0n:a0e _ (p.2.map u8A))⟩
 | 3,ho=>cases ho;exact a5O none _
 | 4,ho=>cases ho;exact a5O o _
theorem c5l(X:Nat->Prop)(v:Dv)(hv:v.Inv):a0b (E0 X) 56 [.ptr 0 0] (a1c v) (fun r H'=>r=b5J (a2R v)/\H'=a1c v):=by
 have hlv:v.image.length<=1073741824:=by have:=hv.load.2.2;omega
 refine a0b.cutD ?_ (by unfold b5J;split<;>exact ⟨a1P,trivial,trivial⟩)
 refine a0b.weakR (R:=fun r H'=>r=.tup [.agg (a8O (a2R v)),.bool (a2R v).isSome]/\H'.take 3=a1c v) ?_ ?_
 rotate_left
 ·rintro r H' ⟨rfl,h⟩
  exact ⟨_,⟨rfl,h⟩,fun m w v h=>b5Y h⟩
 refine Z0 Proofs.Tryz.func56 rfl Proofs.Tryz.ntmps56 (by kernel_rfl) rfl ?_
 repeat' (first|refine Zs rfl ?_|refine Zc rfl ?_)
 refine a0q (fun k:Nat=>⟨[(0,.ptr 0 0),(2,.ptr 3 0),(4,.ptr 4 0),(5,.bool (a2H v.image k).isSome),(12,.int .i64 (k:Int))],a1c v++[some zOs,some (.cells (a8O (a2H v.image k)) 26)]⟩)
  (fun k=>k<=2/\∀j:Nat,j<k->v.check j=0) (fun k=>2 - k) 0 ⟨by omega,fun j h=>absurd h (Nat.not_lt_zero j)⟩ ?_ ?_
 ·exact kk 5 (a9b v none) rfl (by simp [a0g,a0e])
 rintro k ⟨hk,hck⟩
 have hbs:a2H v.image (k+1)=a2k (a2H v.image k) k ((v.image.drop (k*64)).take 64):=rfl
 have hdn:k<2->v.check k≠0->a2R v=none:=fun h1 h2=>if_neg fun h3=>by
  have:k=0\/k=1:=by omega
  rcases this with rfl|rfl
  ·exact h2 h3.1
  ·exact h2 h3.2
 have hdk:k=2->a2R v=a2H v.image k:=fun h=>by
  subst h
  exact if_pos ⟨hck 0 (by omega),hck 1 (by omega)⟩
 generalize a2R v=res at *
 repeat' (first|refine Zs rfl ?_|refine Zc rfl ?_)
 refine a0d rfl (fun h1=>?_) (fun h1=>?_)
 ·have hk2:k<2:=by omega
  have hdn:=hdn hk2
  repeat' (first|refine Zs rfl ?_|refine Zc rfl ?_|refine Qa rfl ?_)
  by_cases hc:v.check (k:Int)=0
  ·obtain ⟨-,j,hj,hj2⟩:=a5Q hv hc
   have hjk:j=k:=by omega
   subst hjk
   have hbl:((v.image.drop (j*64)).take 64).length=64:=by simp;omega
   have hrd:=a6z X v (j:Int) hlv [] [some zOs,some (.cells (a8O (a2H v.image j)) 26)] 0 rfl
   rw [Int.toNat_natCast] at hrd
   generalize (v.image.drop (j*64)).take 64=bb at *
   generalize a2H v.image j=o at *
   refine a1h (fun _=>rfl) rfl ?_
   refine a0b.mono hrd ?_
   rintro r H' (⟨hc2,-,-⟩|⟨-,rfl,rfl⟩)
   ·exact absurd hc hc2
   refine nx0 ?_
   repeat' (first|((refine Qa rfl ?_);(first|refine Q0 ?_|refine Q1 ?_|refine QC rfl rfl ?_);(refine QZ ?_))|refine Qh ?_)
   refine a2s ?_
   refine a0t (Imp.trans (a0M (id:=5) (k:=1) (es:=bb.map u8A) (e:=5) rfl rfl rfl) (a0i 5 (by simp [a1c]) (a9b v o) rfl (by simp [a1c,b5E])
    (sl':=[(0,.ptr 0 0),(2,.ptr 3 0),(4,.ptr 4 0),(5,.bool o.isSome),(6,.int .i64 (j:Int)),(7,.sl 1 (bb.map u8A)),(8,.int .i64 0),(12,.int .i64 (j:Int))]) ?_)) ?_
   ·repeat' (first|exact a0k|refine a0a ⟨?_,?_⟩ ?_)
    all_goals (try first|exact rfl|exact trivial|(simp [a0g,a0e];done))
    ·show frz 5 1 (bb.map u8A) (.own 5 0 64)=_
     simp [frz,hbl,List.take_of_length_le]
   repeat' (first|refine Zs rfl ?_|refine Zc rfl ?_|refine Qa rfl ?_)
   have hck2:∀i:Nat,i<j+1->v.check i=0:=fun i hi=>by
    rcases Nat.lt_or_ge i j with h|h
    ·exact hck i h
    ·have:i=j:=by omega
     subst this;exact hc
   refine Ck (fun _=>rfl) rfl (a0f (E:=E0 X) (fun X=>c7C X bb j (by omega) (by omega)) (by simp [a0e,a0g]) _) ?_
   cases hd:a7v bb j with
   | none =>
    have hp1:a2k o j bb=o:=by simp only [a2k,hd]
    show Nx _ (.tup [sbA a4u,.bool false]) _
    refine nx0 ?_
    repeat' (first|refine Zs rfl ?_|refine Zc rfl ?_|refine Zh ?_|((refine Qa rfl ?_);(refine QJ rfl rfl ?_);(refine QZ ?_))|(refine Qb rfl ?_;try (refine QS rfl rfl rfl rfl rfl rfl rfl ?_;(refine QZ ?_)))|refine Qs ?_)
    refine ⟨j+1,⟨by omega,hck2⟩,by omega,?_⟩
    rw [hbs,hp1]
    refine a0i 5 (by simp [a1c]) (a9b v o) rfl (by simp [a1c]) ?_
    repeat' (first|exact a0k|refine a0a ⟨?_,?_⟩ ?_)
    all_goals (try first|exact rfl|exact trivial|(simp [a0g,a0e];done)|(refine congrArg (AV.int .i64) (a0u ?_ ?_ ?_)<;>(first|omega|(simp;omega))))
   | some s =>
    have hg:=(b8E (a6s hd).1).gen
    have hpl:=fun X=>c4z X s hg
    have hse:=c1z hg.1 j
    generalize c7D s=sc at *
    show Nx _ (.tup [sbA s,.bool true]) _
    refine nx0 ?_
    repeat' (first|refine Zs rfl ?_|refine Zc rfl ?_|((refine Qa rfl ?_);(refine QJ rfl rfl ?_);(refine QZ ?_))|refine Qa rfl ?_|(refine Qb rfl ?_;try (refine QS rfl rfl rfl rfl rfl rfl rfl ?_;(refine QZ ?_))))
    refine Ck (fun _=>rfl) rfl (a0f (E:=E0 X) (fun X=>hpl X) (by simp [a0e,a0g]) _) ?_
    refine nx0 ?_
    by_cases hsj:s.gen%2=(j:Int)
    ·have hsc:sc=j:=by have:=hse.2 hsj;omega
     subst hsc
     repeat' (refine Zs rfl ?_)
     rw [decide_eq_true (rfl:(sc:Int)=sc)]
     repeat' (first|refine Zs rfl ?_|refine Zh ?_|refine Qs ?_)
     refine a0d rfl (fun h5=>?_) (fun h5=>?_)
     ·have hp1:a2k o sc bb=some s:=by simp only [a2k,hd];exact if_pos ⟨hsj,h5⟩
      repeat' (first|refine Zs rfl ?_|refine Zc rfl ?_|refine Zh ?_|refine Qs ?_)
      refine ⟨sc+1,⟨by omega,hck2⟩,by omega,?_⟩
      rw [hbs,hp1]
      refine a0i 5 (by simp [a1c]) (a9b v (some s)) rfl (by simp [a1c]) ?_
      repeat' (first|exact a0k|refine a0a ⟨?_,?_⟩ ?_)
      all_goals (try first|exact rfl|exact trivial|(simp [a0g,a0e];done)|(refine congrArg (AV.int .i64) (a0u ?_ ?_ ?_)<;>(first|omega|(simp;omega))))
     have hp1:a2k o sc bb=o:=by simp only [a2k,hd];exact if_neg fun h=>h5 h.2
     repeat' (first|refine Zs rfl ?_|refine Zc rfl ?_|refine Zh ?_|refine Qs ?_)
     refine ⟨sc+1,⟨by omega,hck2⟩,by omega,?_⟩
     rw [hbs,hp1]
     refine a0i 5 (by simp [a1c]) (a9b v o) rfl (by simp [a1c]) ?_
     repeat' (first|exact a0k|refine a0a ⟨?_,?_⟩ ?_)
     all_goals (try first|exact rfl|exact trivial|(simp [a0g,a0e];done)|(refine congrArg (AV.int .i64) (a0u ?_ ?_ ?_)<;>(first|omega|(simp;omega))))
    have hsc:¬ (sc:Int)=j:=fun h=>hsj (hse.1 h)
    have hp1:a2k o j bb=o:=by simp only [a2k,hd];exact if_neg fun h=>hsj h.1
    repeat' (refine Zs rfl ?_)
    rw [decide_eq_false hsc]
    repeat' (first|refine Zs rfl ?_|refine Zc rfl ?_|refine Zh ?_|refine Qs ?_)
    refine ⟨j+1,⟨by omega,hck2⟩,by omega,?_⟩
    rw [hbs,hp1]
    refine a0i 5 (by simp [a1c]) (a9b v o) rfl (by simp [a1c]) ?_
    repeat' (first|exact a0k|refine a0a ⟨?_,?_⟩ ?_)
    all_goals (try first|exact rfl|exact trivial|(simp [a0g,a0e];done)|(refine congrArg (AV.int .i64) (a0u ?_ ?_ ?_)<;>(first|omega|(simp;omega))))
  have hdn:=hdn hc
  subst hdn
  refine a1h (fun _=>rfl) rfl ?_
  refine a0b.mono (a6z X v (k:Int) hlv [] [some zOs,some (.cells (a8O (a2H v.image k)) 26)] 0 rfl) ?_
  rintro r H' (⟨-,rfl,rfl⟩|⟨hc2,-,-⟩)
  rotate_left
  ·exact absurd hc2 hc
  refine nx0 ?_
  repeat' (first|refine Zs rfl ?_|refine Zc rfl ?_|refine Zh ?_|refine Qs ?_)
  refine a0d rfl (fun h4=>?_) (fun h4=>?_)
  ·repeat' (first|refine Zs rfl ?_|refine Zc rfl ?_|refine Zh ?_|(refine Qb rfl ?_;try (refine QS rfl rfl rfl rfl rfl rfl rfl ?_;(refine QZ ?_)))|refine Qs ?_)
   exact a0c ⟨_,rfl,rfl,rfl⟩
  ·exact absurd (by omega) hc
 have hk2:k=2:=by omega
 have hdk:=hdk hk2
 rw [hdk]
 generalize a2H v.image k=o
 cases o with
 | none =>
  repeat' (first|refine Zs rfl ?_|refine Zc rfl ?_|refine Zh ?_|refine Qs ?_)
  exact a0c ⟨_,rfl,rfl,rfl⟩
 | some s =>
  repeat' (first|refine Zs rfl ?_|refine Zc rfl ?_|refine Zh ?_|refine Qs ?_)
  exact a0c ⟨_,rfl,rfl,rfl⟩
theorem a9Y{img:List UInt8}(h:a4w img.length):Lv img.length (Dv.fresh img):=⟨b1b h,rfl,rfl,rfl⟩
def a7l(hdr:La->Int->Option Hd)(l:La)(n:Nat):List Rg:=(List.range n).filterMap fun (i:Nat)=>(hdr l (i:Int)).map fun h=>⟨h,l⟩
def a3T(hdr:La->Int->Option Hd)(ls:List La):List Rg:=ls.flatMap fun l=>a7l hdr l l.regs.toNat
theorem b0L(hdr:La->Int->Option Hd)(l:La)(n:Nat):a7l hdr l (n+1)=a7l hdr l n++((hdr l (n:Int)).map fun h=>(⟨h,l⟩:Rg)).toList:=by
 unfold a7l
 rw [List.range_succ,List.filterMap_append]
 cases h:hdr l (n:Int)<;>simp [h]
theorem b0K{hdr:La->Int->Option Hd}{ls:List La}{i:Nat}{l:La}(h:ls[i]?=some l):a3T hdr (ls.take (i+1))=a3T hdr (ls.take i)++a7l hdr l l.regs.toNat:=by
 obtain ⟨hi,rfl⟩:=List.getElem?_eq_some_iff.1 h
 unfold a3T
 rw [List.take_succ_eq_append_getElem hi,List.flatMap_append];simp
theorem a9B(hdr:La->Int->Option Hd)(l:La)(n:Nat):(a7l hdr l n).length<=n:=by
 have:=List.length_filterMap_le (fun (i:Nat)=>(hdr l (i:Int)).map fun h=>(⟨h,l⟩:Rg)) (List.range n)
 simpa [a7l] using this
theorem a5P{hdr:La->Int->Option Hd}{ls:List La}(h:∀l∈ls,a1f l=true):(a3T hdr ls).length<=16*ls.length:=by
 induction ls with
 | nil=>simp [a3T]
 | cons l ls ih =>
  have h1:=ih fun x hx=>h x (List.mem_cons_of_mem _ hx)
  have h2:=a9B hdr l l.regs.toNat
  have h3:=a1M (h l (List.mem_cons_self ..))
  unfold a3T at h1 ⊢
  rw [List.flatMap_cons,List.length_append,List.length_cons]
  omega
theorem a9a(v:Dv)(o:List Rg):HOk 4 (a1c v++[some (.arr (o.map rgA) 63)]):=fun j o' ho=>by
 match j,ho with
 | 0,ho=>cases ho;exact ⟨by simp [a0g],by simp [a0g],trivial,trivial,trivial,trivial⟩
 | 1,ho=>cases ho;exact a0h fun _=>a0n
 | 2,ho=>cases ho;exact ⟨by rw [List.map_map];exact a0h fun _=>trivial,by rw [List.map_map];exact a0h fun p=>(a0h (f:=u8A) fun _=>a0n:a0e _ (p.2.map u8A))⟩
 | 3,ho=>cases ho;exact a0Y o
theorem c3r(X:Nat->Prop)(v:Dv)(hv:v.Inv)(ls:List La)(hf:∀l∈ls,a1f l=true)(hl:ls.length<=1000):a0b (E0 X) 62 [.ptr 0 0,.sl 4 (ls.map laA)] (a1c v)
  (fun r H'=>r=.sl 10 ((a3T (a3s v) ls).map rgA)/\H'=a1c v):=by
 refine a0b.frzD (e:=63) 10 ?_ rfl rfl (a0Y _)
 refine Z0 Proofs.Tryz.func62 rfl Proofs.Tryz.ntmps62 (by kernel_rfl) rfl ?_
 repeat' (first|refine Zs rfl ?_|refine Zh ?_|refine Ql ?_|refine Qo rfl ?_)
 have hdl:(a1c v).length=3:=rfl
 refine a1r (I:=fun _:Unit=>True) (σ:=fun _=>⟨[(5,.own 3 0 (a3T (a3s v) ls).length)],a1c v++[some (.arr ((a3T (a3s v) ls).map rgA) 63)]⟩) ?_ ?_
 ·refine Zc rfl ?_
  refine a0q (fun i:Nat=>⟨[(0,.ptr 0 0),(5,.own 3 0 (a3T (a3s v) (ls.take i)).length),(11,.sl 4 (ls.map laA)),(12,.int .i64 (ls.length:Int)),(13,.int .i64 (i:Int))],a1c v++[some (.arr ((a3T (a3s v) (ls.take i)).map rgA) 63)]⟩) (fun i=>i<=ls.length) (fun i=>ls.length - i) 0 (Nat.zero_le _) ?_ ?_
  ·refine (imp_nil 5 63 rfl).trans (a0i 4 (Nat.le_succ 3) (a9a v []) rfl (Nat.le_refl 4) ?_)
   exact a0a ⟨rfl,Nat.zero_lt_succ 3⟩ (a0a ⟨rfl,Nat.lt_succ_self 3⟩ (a0a ⟨rfl,a1k ls⟩ (a0a ⟨by rw [List.length_map];rfl,trivial⟩ (a0a ⟨rfl,trivial⟩ a0k))))
  intro i hi
  repeat' (first|refine Zs rfl ?_|refine Zc rfl ?_)
  refine a0d rfl (fun h1=>?_) (fun h1=>?_)
  ·have hil:i<ls.length:=by omega
   obtain ⟨l,hlx⟩:∃l,ls[i]?=some l:=⟨_,List.getElem?_eq_getElem hil⟩
   have hfl:=hf l (List.mem_of_getElem? hlx)
   have hrs:=a1M hfl
   have hsn:=b0K (hdr:=a3s v) hlx
   have hol:=a5P (hdr:=a3s v) (ls:=ls.take i) (fun x hx=>hf x (List.mem_of_mem_take hx))
   rw [List.length_take] at hol
   have hiw:IntKind.i64.wrap ((i:Int)+1)=((i+1:Nat):Int):=a0p (by omega) (by omega)
   generalize hout:a3T (a3s v) (ls.take i)=out at *
   repeat' (refine Zc rfl ?_)
   refine Qa rfl ?_
   refine a0y hlx rfl rfl rfl rfl rfl rfl rfl (by first|rfl|omega) rfl ?_
   refine nx rfl rfl ?_
   repeat' (refine Zs rfl ?_)
   refine Zh (Kz 4 [0,5,7,11,12,13] 4 (a9a v out) rfl rfl ⟨Nat.zero_lt_succ 3,Nat.lt_succ_self 3,⟨trivial,trivial,trivial,trivial,trivial⟩,a1k ls,trivial,trivial,trivial⟩ ?_)
   have hic:∀{n},a0g n (.fp (laL l)):=⟨trivial,trivial,trivial,trivial,trivial⟩
   repeat' (first|refine Zs rfl ?_|refine Zc rfl ?_)
   refine a0q (fun j:Nat=>⟨[(0,.ptr 0 0),(5,.own 3 0 (out++a7l (a3s v) l j).length),(7,.fp (laL l)),(11,.sl 4 (ls.map laA)),(12,.int .i64 (ls.length:Int)),(13,.int .i64 (i:Int)),(18,.int .i64 l.regs),(19,.int .i64 (j:Int))],a1c v++[some (.arr ((out++a7l (a3s v) l j).map rgA) 63)]⟩) (fun j=>j<=l.regs.toNat) (fun j=>l.regs.toNat - j) 0 (Nat.zero_le _) ?_ ?_
   ·refine a0i 4 (Nat.le_succ 3) (a9a v _) (by rw [show a7l (a3s v) l 0=[] from rfl,List.append_nil];rfl) (Nat.le_refl 4) ?_
    exact a0a ⟨rfl,Nat.zero_lt_succ 3⟩ (a0a ⟨by rw [show a7l (a3s v) l 0=[] from rfl,List.append_nil];rfl,Nat.lt_succ_self 3⟩ (a0a ⟨rfl,hic⟩ (a0a ⟨rfl,a1k ls⟩ (a0a ⟨rfl,trivial⟩ (a0a ⟨rfl,trivial⟩ (a0a ⟨rfl,trivial⟩ (a0a ⟨rfl,trivial⟩ a0k)))))))
   intro j hj
   have hcs:=b0L (a3s v) l j
   have hcl:=a9B (a3s v) l j
   generalize hcj:a7l (a3s v) l j=cj at *
   have hjw:IntKind.i64.wrap ((j:Int)+1)=((j+1:Nat):Int):=a0p (by omega) (by omega)
   repeat' (first|refine Zs rfl ?_|refine Zc rfl ?_)
   refine a0d rfl (fun h2=>?_) (fun h2=>?_)
   ·have hjl:j<l.regs.toNat:=by omega
    have hda:=c2p (c5f · v hv l (j:Int)) ⟨a1u,trivial,trivial⟩ ⟨a4C,trivial,trivial⟩ [] [some (.arr ((out++cj).map rgA) 63)] 0 rfl (X:=X)
    repeat' (first|refine Zs rfl ?_|refine Zc rfl ?_)
    refine Zf rfl rfl (hda) rfl rfl rfl ?_
    cases ho:a3s v l (j:Int) with
    | none =>
     rw [ho] at hcs
     have hcs2:a7l (a3s v) l (j+1)=cj:=by rw [hcs];simp
     repeat' (first|refine Zs rfl ?_|refine Zc rfl ?_)
     refine ⟨j+1,by show j+1<=l.regs.toNat;omega,by show l.regs.toNat - (j+1)<l.regs.toNat - j;omega,?_⟩
     rw [hcs2]
     exact a0i 4 (Nat.le_succ 3) (a9a v _) rfl (Nat.le_succ 4) (a0a ⟨rfl,Nat.zero_lt_succ 3⟩ (a0a ⟨rfl,Nat.lt_succ_self 3⟩ (a0a ⟨rfl,hic⟩ (a0a ⟨rfl,a1k ls⟩ (a0a ⟨rfl,trivial⟩ (a0a ⟨rfl,trivial⟩ (a0a ⟨rfl,trivial⟩ (a0a ⟨congrArg (AV.int .i64) hjw,trivial⟩ a0k))))))))
    | some h =>
     rw [ho] at hcs
     have hcs2:out++a7l (a3s v) l (j+1)=out++cj++[Rg.mk h l]:=by rw [hcs];simp
     repeat' (first|refine Zs rfl ?_|refine Zc rfl ?_)
     refine Qa rfl ?_
     have hl1:((out++cj).map rgA)++[rgA (Rg.mk h l)]=(out++cj++[(Rg.mk h l)]).map rgA:=by simp
     have hl2:((out++cj).map rgA).length+1=(out++cj++[(Rg.mk h l)]).length:=by simp only [List.length_map,List.length_append,List.length_cons,List.length_nil]
     have hl3:(out++cj++[(Rg.mk h l)]).length<=1000001:=by simp;omega
     have hone:a2N [rgA (Rg.mk h l)]:=fun y hy=>by rw [List.mem_singleton.1 hy];exact ⟨rfl,rfl⟩
     refine a0V (oid:=some 3) (es:=(out++cj).map rgA) (out:=(out++cj++[(Rg.mk h l)]).map rgA) (n:=(out++cj++[(Rg.mk h l)]).length) (a0J rfl (by rw [List.length_map])) (rfl) (hone) (hl1) (hl2) (by show _<=9223372036854775807;omega) (by show _*80<=_;omega) rfl rfl rfl rfl rfl rfl rfl rfl ?_
     refine nx rfl rfl ?_
     repeat' (first|refine Zs rfl ?_|refine Zc rfl ?_)
     refine ⟨j+1,by show j+1<=l.regs.toNat;omega,by show l.regs.toNat - (j+1)<l.regs.toNat - j;omega,?_⟩
     rw [hcs2]
     refine a0L 3 [5] (H':=a1c v++[some (.arr ((out++cj++[(Rg.mk h l)]).map rgA) 63)]) (os:=[.arr ((out++cj++[(Rg.mk h l)]).map rgA) 63]) (Nat.le_refl 3) ?_ (by simp) (by simp) ?_ rfl ?_ ?_ ?_
     ·exact Nat.le_of_ble_eq_true rfl
     ·exact a1N v
     ·rfl
     ·exact a0a (a0s rfl (Nat.zero_lt_succ 2)) (a0a (a0D rfl) (a0a (a0s rfl hic) (a0a (a0s rfl (a1k ls)) (a0a (a0s rfl trivial) (a0a (a0s rfl trivial) (a0a (a0s rfl trivial) (a0a (a0s (congrArg (AV.int .i64) hjw) trivial) a0k)))))))
     ·exact a0v rfl (a0A 3 a1V (a0Y _)) a0N
   have hjj:j=l.regs.toNat:=by omega
   subst hjj
   rw [<- hcj,<- hsn]
   repeat' (first|refine Zs rfl ?_|refine Zc rfl ?_)
   refine ⟨i+1,hil,by omega,?_⟩
   exact a0i 4 (Nat.le_succ 3) (a9a v _) rfl (Nat.le_refl 4) (a0a ⟨rfl,Nat.zero_lt_succ 3⟩ (a0a ⟨rfl,Nat.lt_succ_self 3⟩ (a0a ⟨rfl,a1k ls⟩ (a0a ⟨rfl,trivial⟩ (a0a ⟨congrArg (AV.int .i64) hiw,trivial⟩ a0k)))))
  have hii:i=ls.length:=by omega
  repeat' (refine Zc rfl ?_)
  refine ⟨rfl,(),trivial,?_⟩
  rw [hii,List.take_length]
  exact kk 4 (a9a v _) rfl ⟨Nat.lt_succ_self 3,trivial⟩
 intro _ _
 repeat' (first|refine Zs rfl ?_|refine Zc rfl ?_)
 exact a0c ⟨_,rfl,3,_,rfl,by rw [List.length_map],Nat.le_refl 3,rfl,rfl⟩
def a1n(s:Sb):List La:=s.t::s.fo
theorem a8k(s:Sb)(hl:s.fo.length<=1000):∀X,Pur (E0 X) 22 [sbA s] (.sl 4 ((a1n s).map laA)):=by
 refine fun X=>⟨⟨a1P,trivial⟩,fun Y=>?_⟩
 refine a0b.frz0 (e:=23) 4 ?_ rfl (by kernel_rfl) (a1k _)
 refine Z0 Proofs.Tryz.func22 rfl Proofs.Tryz.ntmps22 (by kernel_rfl) rfl ?_
 refine Zc rfl (Zc rfl (Zs rfl (Zs rfl (Zh ?_))))
 refine Zc rfl ?_
 refine Zc rfl ?_
 refine Zs rfl ?_
 refine Zs rfl ?_
 refine Qa rfl ?_
 refine a1i rfl rfl rfl rfl rfl rfl rfl (.inl rfl) rfl (.inl rfl) ?_
 refine nx rfl rfl ?_
 repeat' (refine Zs rfl ?_)
 refine Qa rfl ?_
 have hl1:[laA s.t]++s.fo.map laA=(a1n s).map laA:=rfl
 have hl2:[laA s.t].length+(s.fo.map laA).length=(a1n s).length:=by simp [a1n];omega
 have hl3:(a1n s).length<=1001:=by simp [a1n];omega
 have hone:a2N (s.fo.map laA):=fun y hy=>by
  obtain ⟨b,_,rfl⟩:=List.mem_map.1 hy;exact ⟨rfl,rfl⟩
 refine a0V (oid:=some 1) (es:=[laA s.t]) (out:=(a1n s).map laA) (n:=(a1n s).length) (a0J rfl rfl) (rfl) (hone) (hl1) (hl2) (by show _<=9223372036854775807;omega) (by show _*32<=_;omega) rfl rfl rfl rfl rfl rfl rfl rfl ?_
 refine nx rfl rfl ?_
 repeat' (refine Zs rfl ?_)
 refine a0c ⟨_,rfl,2,_,rfl,by rw [List.length_map],rfl⟩
end Go.Abs
