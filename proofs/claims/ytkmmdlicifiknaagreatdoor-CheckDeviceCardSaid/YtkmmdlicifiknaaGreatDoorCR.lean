/- The reference's Load. Joined texts, each with what its own name promises; no condition beyond those stated. -/
import Derived.Test.YtkmmdlicifiknaaGreatDoorCC
import Derived.Test.YtkmmdlicifiknaaGreatDoorCQ
import Derived.Test.YtkmmdlicifiknaaGreatDoorCE
import Derived.Test.YtkmmdlicifiknaaGreatDoorCN
import Derived.Test.YtkmmdlicifiknaaGreatDoorCG
import Derived.Test.YtkmmdlicifiknaaGreatDoorCP
import Derived.Test.YtkmmdlicifiknaaGreatDoorCF
set_option maxHeartbeats 0
set_option maxRecDepth 100000
set_option linter.all false
namespace Go.Abs
theorem b7V(l:List Rg):∃s,b5j l s:=by
 refine ⟨l.mergeSort fun x y=>!(a6T y x),List.mergeSort_perm _ _,fun i j hi hj hij=>?_⟩
 have h:=List.pairwise_mergeSort (le:=fun x y=>!(a6T y x)) (fun a b c h1 h2=>by
  simp only [Bool.not_eq_true',Bool.eq_false_iff,ne_eq,a5r] at *
  omega) (fun a b=>by
  by_cases h:a6T b a=true
  ·have h2:a6T a b=false:=by rw [Bool.eq_false_iff];intro h3;have:=b1l a b a h3 h;rw [a8Q] at this;cases this
   rw [h2];simp
  ·rw [Bool.not_eq_true] at h
   rw [h];simp) l
 have h2:=List.pairwise_iff_getElem.1 h i j hi hj hij
 simpa using h2
theorem b9s{L:Nat}{v:Dv}(hv:Lv L v):a2c v=if v.image.length<128 then none else a2n v.image 2:=by
 unfold a2c
 rw [a3K hv.inv,a3K hv.inv,hv.dead]
 have h64:=hv.inv.load.1
 simp only [Bool.false_eq_true,if_false]
 by_cases h:v.image.length<128
 ·rw [if_pos h,if_neg]
  rintro ⟨h1,h2⟩
  rw [if_pos (by omega)] at h2
  cases h2
 ·rw [if_neg h,if_pos]
  exact ⟨by rw [if_neg (by omega)],by rw [if_neg (by omega)]⟩
theorem a9f{l:La}(h:a1a l=true):l.ver=1\/l.ver=2:=by
 unfold a1a at h
 simp only [Bool.and_eq_true,Bool.or_eq_true,decide_eq_true_eq] at h
 exact h.2.2.1
def rfR(cs:List AV):Hp:=[some (.cells rsZ 54),some (.cells cs 54)]
theorem b6c:HOk 1 [some (.cells rsZ 54)]:=fun j o' ho=>by
 match j,ho with
 | 0,ho=>cases ho;exact b2f
theorem a4U{cs:List AV}(h:∀{n},a0e n cs):HOk 2 (rfR cs):=fun j o' ho=>by
 match j,ho with
 | 0,ho=>cases ho;exact b2f
 | 1,ho=>cases ho;exact h
theorem b6f{cs:List AV}(h:∀{n},a0e n cs)(bs:List (Int × List (Nat × Rec))):HOk 3 (rfR cs++[some (.arr (bs.map baA) 143)]):=fun j o' ho=>by
 match j,ho with
 | 0,ho=>cases ho;exact b2f
 | 1,ho=>cases ho;exact h
 | 2,ho=>cases ho;exact a0F (Nat.zero_le _) (a4S bs)
attribute [local irreducible] a0z a1p AWp Nx awM
theorem c2M(X:Nat->Prop)(v:Dv)(L:Nat)(hv:Lv L v)(hL:L<=20000)(now:Int):a0b (E0 X) 20 [.sl 1 (v.image.map u8A),.int .i64 now] []
  (fun r _=>∃x e,b4a v.image (a2c v) (fun s=>!(a0W s).any (nfB v)) (fun s=>a7k v s.mig) now x e/\∃b,(e≠0->b=rsZ)/\(e=0->b=rsL x)/\r=.tup [.agg b,.int .i64 e]):=by
 have hlv:v.image.length<=20000:=by rw [hv.len];exact hL
 have hu:∀{n},a0e n (v.image.map u8A):=a0h fun _=>a0k
 have hld:=b9s hv
 refine Z0 Proofs.Tryz.func20 rfl Proofs.Tryz.ntmps20 (by kernel_rfl) rfl ?_
 repeat' (first|refine Zs rfl ?_|refine Zc rfl ?_)
 by_cases h1:now<0
 ·rw [decide_eq_true h1]
  repeat' (first|refine Zs rfl ?_|refine Zc rfl ?_)
  exact a0c ⟨_,rfl,a9X,2,.inr (.inl ⟨rfl,rfl,fun h=>absurd h1 (by omega)⟩),rsZ,fun _=>rfl,(fun h=>by cases h),rfl⟩
 rw [decide_eq_false h1]
 repeat' (refine Zs rfl ?_)
 by_cases h2:now > 549755813888
 ·rw [decide_eq_true h2]
  repeat' (first|refine Zs rfl ?_|refine Zc rfl ?_)
  exact a0c ⟨_,rfl,a9X,2,.inr (.inl ⟨rfl,rfl,fun h=>absurd h2 (by omega)⟩),rsZ,fun _=>rfl,(fun h=>by cases h),rfl⟩
 rw [decide_eq_false h2]
 repeat' (first|refine Zs rfl ?_|refine Zc rfl ?_)
 rw [List.length_map]
 by_cases h4:(v.image.length:Int)<128
 ·rw [decide_eq_true h4]
  rw [if_pos (by omega)] at hld
  repeat' (first|refine Zs rfl ?_|refine Zc rfl ?_)
  exact a0c ⟨_,rfl,a9X,4,.inr (.inr ⟨rfl,rfl,by omega,by omega,fun t ht=>by rw [hld] at ht;cases ht⟩),rsZ,fun _=>rfl,(fun h=>by cases h),rfl⟩
 rw [decide_eq_false h4]
 rw [if_neg (by omega)] at hld
 repeat' (first|refine Zs rfl ?_|refine Zc rfl ?_)
 have hrs:Pur (E0 X) 65 [.sl 1 (v.image.map u8A)] (b5e (a2c v)):=⟨⟨hu,trivial⟩,fun Y=>by rw [hld];exact b9X Y v.image (by omega) (by omega)⟩
 cases ho:a2c v with
 | none =>
  rw [ho] at hrs
  refine Zp rfl rfl (hrs) rfl ?_
  repeat' (first|refine Zs rfl ?_|refine Zc rfl ?_)
  exact a0c ⟨_,rfl,a9X,4,.inr (.inr ⟨rfl,rfl,by omega,by omega,fun t ht=>by cases ht⟩),rsZ,fun _=>rfl,(fun h=>by cases h),rfl⟩
 | some s =>
  rw [ho] at hrs
  refine Zp rfl rfl (hrs) rfl ?_
  repeat' (refine Zs rfl ?_)
  have hsi:∀{n},a0d n (.fp (sbL s)):=a5h s
  have hsb:=a5D ho
  obtain ⟨hlf,hln,hl2⟩:=a7I hsb
  have hll:(a0W s).length=s.fo.length+1:=rfl
  have hly:∀{n},a0e n ((a0W s).map laA):=a1w _
  refine Zh (Kz 1 [0,1,4,5,6,7] 1 b6c rfl rfl ⟨hu,trivial,Nat.zero_lt_one,trivial,hsi,trivial,trivial⟩ ?_)
  repeat' (first|refine Zs rfl ?_|refine Zc rfl ?_)
  refine Zp rfl rfl (a7K s (by omega) X) rfl ?_
  repeat' (first|refine Zs rfl ?_|refine Zc rfl ?_)
  refine a0s (fun i:Nat=>⟨[(0,.sl 1 (v.image.map u8A)),(1,.int .i64 now),(4,.ptr 0 0),(5,.int .i64 0),(6,.fp (sbL s)),(39,.sl 4 ((a0W s).map laA)),(40,.int .i64 ((a0W s).length:Int)),(41,.int .i64 (i:Int))],[some (.cells rsZ 54)]⟩) (fun i=>i<=(a0W s).length/\((a0W s).take i).any (nfB v)=false) (fun i=>(a0W s).length - i) 0 ⟨Nat.zero_le _,rfl⟩ ?_ ?_
  ·refine a0j 1 (Nat.zero_le _) b6c rfl (Nat.le_refl 1) ?_
   exact a0a ⟨rfl,hu⟩ (a0a ⟨rfl,trivial⟩ (a0a ⟨rfl,Nat.zero_lt_one⟩ (a0a ⟨rfl,trivial⟩ (a0a ⟨rfl,hsi⟩ (a0a ⟨rfl,hly⟩ (a0a ⟨by rw [List.length_map];rfl,trivial⟩ (a0a ⟨rfl,trivial⟩ a0l)))))))
  rintro i ⟨hi,hfi⟩
  repeat' (first|refine Zs rfl ?_|refine Zc rfl ?_)
  refine a0g rfl (fun h3=>?_) (fun h3=>?_)
  ·have hil:i<(a0W s).length:=by omega
   obtain ⟨l,hl⟩:∃l,(a0W s)[i]?=some l:=⟨_,List.getElem?_eq_getElem hil⟩
   have hiw:IntKind.i64.wrap ((i:Int)+1)=((i+1:Nat):Int):=a0r (by omega) (by omega)
   have htk:((a0W s).take (i+1)).any (nfB v)=(((a0W s).take i).any (nfB v) || nfB v l):=by
    obtain ⟨_,rfl⟩:=List.getElem?_eq_some_iff.1 hl
    rw [List.take_succ_eq_append_getElem hil,List.any_append];simp
   have hnf:nfB v l=!b1e l ((v.image.length / 64:Nat):Int):=rfl
   repeat' (refine Zc rfl ?_)
   refine Qa rfl ?_
   refine a0C hl rfl rfl rfl rfl rfl rfl rfl (by first|rfl|omega) rfl ?_
   refine nx rfl rfl ?_
   repeat' (first|refine Zs rfl ?_|refine Zc rfl ?_)
   rw [List.length_map,a8a (by omega)]
   refine Zp rfl rfl (c2I l ((v.image.length / 64:Nat):Int) X) rfl ?_
   cases hf:b1e l ((v.image.length / 64:Nat):Int) with
   | false =>
    repeat' (first|refine Zs rfl ?_|refine Zc rfl ?_)
    refine a0c ⟨_,rfl,a9X,4,.inr (.inr ⟨rfl,rfl,by omega,by omega,fun t ht=>?_⟩),rsZ,fun _=>rfl,(fun h=>by cases h),rfl⟩
    cases ht
    have hn:(a0W s).any (nfB v)=true:=List.any_eq_true.2 ⟨l,List.mem_of_getElem? hl,by rw [hnf,hf];rfl⟩
    show (!(a0W s).any (nfB v))=false
    rw [hn];rfl
   | true =>
    repeat' (first|refine Zs rfl ?_|refine Zc rfl ?_)
    refine ⟨i+1,⟨by omega,by rw [htk,hfi,hnf,hf];rfl⟩,by omega,?_⟩
    rw [hiw]
    exact kk 1 b6c rfl ⟨hu,trivial,Nat.zero_lt_one,trivial,hsi,hly,trivial,trivial,trivial⟩
  have hii:i=(a0W s).length:=by omega
  have hany:(a0W s).any (nfB v)=false:=by rw [hii,List.take_length] at hfi;exact hfi
  have hmg:=b7M hsb
  obtain ⟨nw,hnw⟩:∃nw,nw=max now s.now:=⟨_,rfl⟩
  obtain ⟨cs,hcs⟩:∃cs,cs=a3J (a2q v.image) (a0W s):=⟨_,rfl⟩
  have hcc:Pur (E0 X) 51 [.sl 1 (v.image.map u8A),sbA s] (.sl 10 (cs.map rgA)):=⟨⟨hu,a1J,trivial⟩,fun Y=>by rw [hcs];exact a9y v.image s (by omega) hlf (by omega) Y⟩
  have hcl:cs.length<=48:=by
   have h:=a4C (hdr:=a2q v.image) hlf
   rw [hcs];omega
  have hci:∀{n},a0e n (cs.map rgA):=a1d cs
  have hck:∀r∈cs,c5A (a0W s) r:=fun r hr=>(b0l (by rw [hcs] at hr;exact hr)).1
  obtain ⟨T1,hT1⟩:∃T1,T1=mxL s.tail (cs.map (·.h.tail)):=⟨_,rfl⟩
  obtain ⟨N2,hN2⟩:∃N2,N2=mxL nw (cs.map (·.h.now)):=⟨_,rfl⟩
  obtain ⟨S2,hS2⟩:∃S2,S2=mxL 1 (cs.map (fun r=>r.h.seq+1)):=⟨_,rfl⟩
  repeat' (first|refine Zs rfl ?_|refine Zc rfl ?_)
  refine Zp rfl rfl (hcc) rfl ?_
  rw [<- hnw]
  repeat' (first|refine Zs rfl ?_|refine Zh ?_|refine Ql ?_|refine Qo rfl ?_)
  refine a1B (I:=fun _:Unit=>True) (σ:=fun _=>⟨[(0,.sl 1 (v.image.map u8A)),(4,.ptr 0 0),(6,.fp (sbL s)),(10,.ptr 1 0),(11,.sl 10 (cs.map rgA))],rfR (stC s .nils T1 S2 N2 0 .nils)⟩) ?_ ?_
  ·refine Zc rfl ?_
   refine a0s (fun i:Nat=>⟨[(0,.sl 1 (v.image.map u8A)),(4,.ptr 0 0),(6,.fp (sbL s)),(10,.ptr 1 0),(11,.sl 10 (cs.map rgA)),(64,.sl 10 (cs.map rgA)),(65,.int .i64 (cs.length:Int)),(66,.int .i64 (i:Int))],rfR (stC s .nils (mxL s.tail ((cs.take i).map (·.h.tail))) (mxL 1 ((cs.take i).map (fun r=>r.h.seq+1))) (mxL nw ((cs.take i).map (·.h.now))) 0 .nils)⟩) (fun i=>i<=cs.length) (fun i=>cs.length - i) 0 (Nat.zero_le _) ?_ ?_
   ·refine a0j 2 (Nat.zero_le _) (a4U (a3s trivial trivial)) rfl (Nat.le_refl 2) ?_
    exact a0a ⟨rfl,hu⟩ (a0a ⟨rfl,Nat.zero_lt_succ 1⟩ (a0a ⟨rfl,hsi⟩ (a0a ⟨rfl,Nat.lt_succ_self 1⟩ (a0a ⟨rfl,hci⟩ (a0a ⟨rfl,hci⟩ (a0a ⟨by rw [List.length_map];rfl,trivial⟩ (a0a ⟨rfl,trivial⟩ a0l)))))))
   intro k hk
   repeat' (first|refine Zs rfl ?_|refine Zc rfl ?_)
   refine a0g rfl (fun h5=>?_) (fun h5=>?_)
   ·have hkl:k<cs.length:=by omega
    obtain ⟨q,hq,_,hqa⟩:=c4N hkl
    have hqk:=hck q (List.mem_of_getElem? hq)
    have hqb:=a5c hqk.hd
    have hm1:=a5F (f:=fun r:Rg=>r.h.tail) hq s.tail
    have hm2:=a5F (f:=fun r:Rg=>r.h.seq+1) hq 1
    have hm3:=a5F (f:=fun r:Rg=>r.h.now) hq nw
    have hkw:IntKind.i64.wrap ((k:Int)+1)=((k+1:Nat):Int):=a0r (by omega) (by omega)
    have hsw:IntKind.i64.wrap (q.h.seq+1)=q.h.seq+1:=a0r (by omega) (by omega)
    repeat' (refine Zc rfl ?_)
    refine Qa rfl ?_
    refine a0C hq rfl rfl rfl rfl rfl rfl rfl (by first|rfl|omega) rfl ?_
    refine nx rfl rfl ?_
    repeat' (refine Zs rfl ?_)
    have hqi:∀{n},a0d n (.fp (rgL q)):=a3d q
    refine Zh (a0t ((a0w (id:=2) (cs:=rgL q) rfl).trans (a0j 2 (Nat.zero_le _) (a4U (cs:=stC s .nils (mxL s.tail ((cs.take k).map (·.h.tail))) (mxL 1 ((cs.take k).map (fun r=>r.h.seq+1))) (mxL nw ((cs.take k).map (·.h.now))) 0 .nils) (a3s trivial trivial)) rfl (Nat.le_succ 2)
     (sl':=[(0,.sl 1 (v.image.map u8A)),(4,.ptr 0 0),(6,.fp (sbL s)),(10,.ptr 1 0),(11,.sl 10 (cs.map rgA)),(13,.fp (rgL q)),(64,.sl 10 (cs.map rgA)),(65,.int .i64 (cs.length:Int)),(66,.int .i64 (k:Int))]) ?_)) ?_)
    ·exact a0a ⟨rfl,hu⟩ (a0a ⟨rfl,Nat.zero_lt_succ 1⟩ (a0a ⟨rfl,hsi⟩ (a0a ⟨rfl,Nat.lt_succ_self 1⟩ (a0a ⟨rfl,hci⟩ (a0a ⟨rfl,hqi⟩ (a0a ⟨rfl,hci⟩ (a0a ⟨rfl,trivial⟩ (a0a ⟨rfl,trivial⟩ a0l))))))))
    refine a0n [20,22,24] [0,2,3,4,5,6,8,9,10,11,12,14,15,16,17,18,19,21,23] (by exact rfl) ?_
    refine a0y (fuel:=0) [0,1,2,3,4,5,6,7,8,9,10,11,12,13,14,15,16,17,18,19,20,21,22,23,24] (by exact rfl) (by kernel_rfl) (by kernel_rfl) ?_
    repeat' (first|refine Zs rfl ?_|refine Zc rfl ?_|refine Zd rfl ?_|refine Zk ?_|refine Qw (by kernel_rfl) ?_)
    rw [hkw,hsw]
    refine ⟨k+1,by omega,by omega,?_⟩
    rw [hm1,hm2,hm3]
    exact kk 2 (a4U (a3s trivial trivial)) rfl ⟨hu,Nat.zero_lt_succ 1,hsi,Nat.lt_succ_self 1,hci,hci,trivial,trivial,trivial⟩
   have hkk:k=cs.length:=by omega
   repeat' (refine Zc rfl ?_)
   refine ⟨rfl,(),trivial,?_⟩
   rw [hkk,List.take_length,<- hT1,<- hS2,<- hN2]
   exact kk 2 (a4U (a3s trivial trivial)) rfl ⟨hu,Nat.zero_lt_succ 1,hsi,Nat.lt_succ_self 1,hci,trivial⟩
  intro _ _
  obtain ⟨pl,hpl⟩:∃pl,pl=b8z s (a7k v s.mig):=⟨_,rfl⟩
  obtain ⟨T2,hT2⟩:∃T2,T2=mxL T1 (pl.map (·.tail)):=⟨_,rfl⟩
  repeat' (first|refine Zs rfl ?_|refine Zh ?_|refine Ql ?_|refine Qo rfl ?_)
  refine a1B (I:=fun _:Unit=>True) (σ:=fun _=>⟨[(0,.sl 1 (v.image.map u8A)),(4,.ptr 0 0),(10,.ptr 1 0),(11,.sl 10 (cs.map rgA))],rfR (stC s .nils T2 S2 N2 (pl.length:Int) .nils)⟩) ?_ ?_
  ·refine a0g rfl (fun hph=>?_) (fun hph=>?_)
   ·have hpe:pl=a7k v s.mig:=by rw [hpl];exact if_neg hph
    have hpn:pl.length<=36:=by rw [hpe];exact b3K v s.mig
    have hpi:∀{n},a0e n (pl.map plA):=a0h fun _=>a3b
    have h4736:4736<=L:=by
     have hm:s.t∈a0W s:=List.mem_cons_self ..
     have h6:nfB v s.t=false:=by
      cases hq:nfB v s.t with
      | false=>rfl
      | true=>rw [List.any_eq_true.2 ⟨_,hm,hq⟩] at hany;cases hany
     unfold nfB b1e at h6
     have hf:=hlf s.t hm
     rw [hf,Bool.true_and] at h6
     have h7:74+s.t.regs*s.t.rs<=((v.image.length / 64:Nat):Int):=by simpa using h6
     have hr:=a1z hf
     have h8:0<=s.t.regs*s.t.rs:=Int.mul_nonneg (by omega) (by omega)
     have:=hv.len
     omega
    have hrc:Pur (E0 X) 67 [.sl 1 (v.image.map u8A),.int .i64 s.mig] (.sl 8 (pl.map plA)):=by
     refine ⟨⟨hu,trivial,trivial⟩,fun Y=>?_⟩
     refine a0b.frz0 (e:=89) 8 ?_ rfl (by kernel_rfl) hpi
     rw [hpe]
     exact (b7G Y v L h4736 (by omega) hv s.mig (by omega)).mono fun r H' ⟨h1,h2⟩=>⟨0,_,h1,(List.length_map _).symm,by rw [h2];rfl⟩
    repeat' (first|refine Zs rfl ?_|refine Zc rfl ?_)
    refine Zp rfl rfl (hrc) rfl ?_
    repeat' (first|refine Zs rfl ?_|refine Zc rfl ?_)
    refine a0s (fun i:Nat=>⟨[(0,.sl 1 (v.image.map u8A)),(4,.ptr 0 0),(10,.ptr 1 0),(11,.sl 10 (cs.map rgA)),(99,.sl 8 (pl.map plA)),(100,.int .i64 (pl.length:Int)),(101,.int .i64 (i:Int))],rfR (stC s .nils (mxL T1 ((pl.take i).map (·.tail))) S2 N2 (i:Int) .nils)⟩) (fun i=>i<=pl.length) (fun i=>pl.length - i) 0 (Nat.zero_le _) ?_ ?_
    ·refine a0j 2 (Nat.zero_le _) (a4U (a3s trivial trivial)) rfl (Nat.le_refl 2) ?_
     exact a0a ⟨rfl,hu⟩ (a0a ⟨rfl,Nat.zero_lt_succ 1⟩ (a0a ⟨rfl,Nat.lt_succ_self 1⟩ (a0a ⟨rfl,hci⟩ (a0a ⟨rfl,hpi⟩ (a0a ⟨by rw [List.length_map];rfl,trivial⟩ (a0a ⟨rfl,trivial⟩ a0l))))))
    intro k hk
    repeat' (first|refine Zs rfl ?_|refine Zc rfl ?_)
    refine a0g rfl (fun h5=>?_) (fun h5=>?_)
    ·have hkl:k<pl.length:=by omega
     obtain ⟨q,hq⟩:∃q,pl[k]?=some q:=⟨_,List.getElem?_eq_getElem hkl⟩
     have hms:=a5F (f:=fun p:Pl=>p.tail) hq T1
     have hkw:IntKind.i64.wrap ((k:Int)+1)=((k+1:Nat):Int):=a0r (by omega) (by omega)
     repeat' (refine Zc rfl ?_)
     refine Qa rfl ?_
     refine a0C hq rfl rfl rfl rfl rfl rfl rfl (by first|rfl|omega) rfl ?_
     refine nx rfl rfl ?_
     repeat' (first|refine Zs rfl ?_|refine Zc rfl ?_)
     rw [hkw]
     refine ⟨k+1,by omega,by omega,?_⟩
     rw [hms]
     exact kk 2 (a4U (a3s trivial trivial)) rfl ⟨hu,Nat.zero_lt_succ 1,Nat.lt_succ_self 1,hci,hpi,trivial,trivial,trivial⟩
    have hkk:k=pl.length:=by omega
    repeat' (refine Zc rfl ?_)
    refine ⟨rfl,(),trivial,?_⟩
    rw [hkk,List.take_length,<- hT2]
    exact kk 2 (a4U (a3s trivial trivial)) rfl ⟨hu,Nat.zero_lt_succ 1,Nat.lt_succ_self 1,hci,trivial⟩
   have hph1:s.phase=1:=Decidable.not_not.1 hph
   have hpe:pl=[]:=by rw [hpl];exact if_pos hph1
   rw [hpe] at hT2 ⊢
   rw [hT2]
   repeat' (refine Zc rfl ?_)
   refine ⟨rfl,(),trivial,?_⟩
   exact kk 2 (a4U (a3s trivial trivial)) rfl ⟨hu,Nat.zero_lt_succ 1,Nat.lt_succ_self 1,hci,trivial⟩
  intro _ _
  obtain ⟨N3,hN3⟩:∃N3,N3=max S2 T2:=⟨_,rfl⟩
  obtain ⟨srt,hsrt⟩:=b7V cs
  have hsp:srt.Pairwise (fun a b=>a6T a b=true):=b4P hln (by rw [<- hcs];exact hsrt)
  have hrm:∀r∈(a7M T2 srt).reverse,c5A (a0W s) r:=fun r hr=>hck r (hsrt.1.mem_iff.1 (b9p (List.mem_reverse.1 hr)))
  have hrl:(a7M T2 srt).reverse.length<=48:=by have:=b3k T2 srt;have:=hsrt.1.length_eq;rw [List.length_reverse];omega
  have hlv2:Pur (E0 X) 68 [.sl 10 (cs.map rgA),.int .i64 T2] (.sl 10 ((a7M T2 srt).reverse.map rgA)) :=
   ⟨⟨hci,trivial,trivial⟩,fun Y=>c2L Y cs srt T2 (by rw [hcs];exact a7u hln) hsrt.1 hsp (by omega)⟩
  obtain ⟨rs,hrs2⟩:∃rs,rs=(a7M T2 srt).reverse:=⟨_,rfl⟩
  rw [<- hrs2] at hrm hrl hlv2
  have hri:∀{n},a0e n (rs.map rgA):=a1d rs
  have hri2:∀{n},a0d n (.sl 10 (rs.map rgA)):=a1d rs
  have hst:∀{n},a0e n (stC s (.sl 10 (rs.map rgA)) T2 N3 N2 (pl.length:Int) .nils):=a3s hri2 trivial
  repeat' (first|refine Zs rfl ?_|refine Zc rfl ?_)
  rw [<- hN3]
  refine Zp rfl rfl (hlv2) rfl ?_
  repeat' (first|refine Zs rfl ?_|refine Zh ?_|refine Ql ?_|refine Qo rfl ?_)
  refine a1B (I:=fun _:Unit=>True) (σ:=fun _=>⟨[(4,.ptr 0 0),(10,.ptr 1 0),(16,.sl 2 ((a5q v.image rs).map baA))],rfR (stC s (.sl 10 (rs.map rgA)) T2 N3 N2 (pl.length:Int) .nils)⟩) ?_ ?_
  ·have hreg:∀r∈rs,Pur (E0 X) 52 [.sl 1 (v.image.map u8A),laA r.l,.int .i64 r.h.slot,.int .i64 r.h.seq] (.sl 6 ((a5Y v.image r).map foA)):=fun r hr=>by
    have hq:=a5c (hrm r hr).hd
    have hvr:=(a9f (hrm r hr).slot.1)
    refine ⟨⟨hu,a1g,trivial,trivial,trivial⟩,fun Y=>?_⟩
    have h:=b0K Y v.image (by omega) r.l r.h.slot r.h.seq.toNat (hrm r hr).slot hvr (by omega) (by omega)
    rw [Int.toNat_of_nonneg (by omega)] at h
    exact h
   refine Zc rfl ?_
   refine a0s (fun i:Nat=>⟨[(0,.sl 1 (v.image.map u8A)),(4,.ptr 0 0),(10,.ptr 1 0),(16,.own 2 0 i),(128,.sl 10 (rs.map rgA)),(129,.int .i64 (rs.length:Int)),(130,.int .i64 (i:Int))],rfR (stC s (.sl 10 (rs.map rgA)) T2 N3 N2 (pl.length:Int) .nils)++[some (.arr ((a5q v.image (rs.take i)).map baA) 143)]⟩) (fun i=>i<=rs.length) (fun i=>rs.length - i) 0 (Nat.zero_le _) ?_ ?_
   ·refine (imp_nil 16 143 rfl).trans (a0j 3 (Nat.zero_le _) (b6f hst []) rfl (Nat.le_refl 3) ?_)
    exact a0a ⟨rfl,hu⟩ (a0a ⟨rfl,by show 0<3;decide⟩ (a0a ⟨rfl,by show 1<3;decide⟩ (a0a ⟨rfl,by show 2<3;decide⟩ (a0a ⟨rfl,hri⟩ (a0a ⟨by rw [List.length_map];rfl,trivial⟩ (a0a ⟨rfl,trivial⟩ a0l))))))
   intro k hk
   repeat' (first|refine Zs rfl ?_|refine Zc rfl ?_)
   refine a0g rfl (fun h5=>?_) (fun h5=>?_)
   ·have hkl:k<rs.length:=by omega
    obtain ⟨q,hq,_,hqa⟩:=c4N hkl
    have hqm:=List.mem_of_getElem? hq
    have hkw:IntKind.i64.wrap ((k:Int)+1)=((k+1:Nat):Int):=a0r (by omega) (by omega)
    have hbs:=b8N (img:=v.image) hq
    have hqi:∀{n},a0d n (.fp (rgL q)):=a3d q
    repeat' (refine Zc rfl ?_)
    refine Qa rfl ?_
    refine a0C hq rfl rfl rfl rfl rfl rfl rfl (by first|rfl|omega) rfl ?_
    refine nx rfl rfl ?_
    repeat' (refine Zs rfl ?_)
    refine Zh (Kz 3 [0,4,10,16,18,128,129,130] 3 (b6f hst (a5q v.image (rs.take k))) rfl rfl ⟨hu,(by show 0<3;decide),(by show 1<3;decide),(by show 2<3;decide),hqi,hri,trivial,trivial,trivial⟩ ?_)
    have hbl:(a5q v.image (rs.take k)).length=k:=by unfold a5q;rw [List.length_map,List.length_take];omega
    refine a0n [16] [] (by exact rfl) ?_
    refine a0y (fuel:=0) [0,1,2,3,4,5,6,7,8,9,10,11,12,13,14,15,16,17] (by exact rfl) (by kernel_rfl) (by kernel_rfl) ?_
    repeat' (refine Zd rfl ?_)
    refine Zq rfl rfl rfl rfl (hreg q hqm) rfl ?_
    repeat' (refine Zd rfl ?_)
    refine a1E rfl rfl rfl ?_
    have hl1:((a5q v.image (rs.take k)).map baA)++[baA (q.h.seq,a5Y v.image q)]=(a5q v.image (rs.take (k+1))).map baA:=by rw [hbs,List.map_append];rfl
    have hl2':((a5q v.image (rs.take k)).map baA).length+1=k+1:=by rw [List.length_map,hbl]
    have hl3:k+1<=49:=by omega
    have hone:a2R [baA (q.h.seq,a5Y v.image q)]:=fun y hy=>by rw [List.mem_singleton.1 hy];exact ⟨rfl,rfl⟩
    refine a0V (oid:=some 2) (es:=(a5q v.image (rs.take k)).map baA) (out:=(a5q v.image (rs.take (k+1))).map baA) (n:=k+1) (a0M rfl (by rw [List.length_map,hbl])) (rfl) (hone) (hl1) (hl2') (by show _<=9223372036854775807;omega) (by show _*32<=_;omega) rfl rfl rfl rfl rfl rfl rfl rfl ?_
    refine nx rfl rfl ?_
    repeat' (first|refine Zs rfl ?_|refine Zc rfl ?_|refine Zd rfl ?_|refine Zk ?_|refine Qw (by kernel_rfl) ?_)
    rw [hkw]
    refine ⟨k+1,by omega,by omega,?_⟩
    refine a0S 2 [3] (H':=rfR (stC s (.sl 10 (rs.map rgA)) T2 N3 N2 (pl.length:Int) .nils)++[some (.arr ((a5q v.image (rs.take (k+1))).map baA) 143)]) (os:=[.arr ((a5q v.image (rs.take (k+1))).map baA) 143]) (Nat.zero_le _) ?_ (by simp) (by simp) ?_ rfl ?_ ?_ ?_
    ·exact Nat.le_of_ble_eq_true rfl
    ·exact a4U hst
    ·rfl
    ·exact a0a (a0v rfl hu) (a0a (a0v rfl (by show 0<2;decide)) (a0a (a0v rfl (by show 1<2;decide)) (a0a (a0L rfl) (a0a (a0v rfl hri) (a0a (a0v rfl trivial) (a0a (a0v rfl trivial) a0l))))))
    ·exact a0E rfl (a0A 2 a2m (a0F (Nat.zero_le _) (a4S _))) a0T
   have hkk:k=rs.length:=by omega
   repeat' (refine Zc rfl ?_)
   refine ⟨rfl,(),trivial,?_⟩
   have hbl:k=((a5q v.image (rs.take k)).map baA).length:=by rw [List.length_map];unfold a5q;rw [List.length_map,List.length_take];omega
   have htk:rs.take k=rs:=by rw [hkk,List.take_length]
   rw [htk] at hbl ⊢
   rw [hbl]
   refine (a0N (id:=2) (k:=2) (es:=(a5q v.image rs).map baA) (e:=143) rfl rfl (by kernel_rfl)).trans (a0j 2 (Nat.zero_le _) (a4U hst) rfl (Nat.le_of_ble_eq_true rfl) ?_)
   exact a0a ⟨rfl,by show 0<2;decide⟩ (a0a ⟨rfl,by show 1<2;decide⟩ (a0a ⟨by simp [get,frz,List.take_of_length_le];rfl,a0F (Nat.zero_le _) (a4S _)⟩ a0l))
  intro _ _
  have hbt:=c1p v.image rs
  have hbl:(a5q v.image rs).length=rs.length:=by simp [a5q]
  have hbm:rs.length*v.image.length<=48*20000:=Nat.mul_le_mul hrl hlv
  have hkey:∀b∈a5q v.image rs,∀p∈b.2,p.2.key.length<=1000000:=fun b hb p hp=>by
   obtain ⟨r,_,rfl⟩:=List.mem_map.1 hb
   have:=b9N hp
   omega
  have hll2:∀b∈a5q v.image rs,b.2.length<=290000:=fun b hb=>by
   obtain ⟨r,_,rfl⟩:=List.mem_map.1 hb
   have:=a7i v.image r
   show (a5Y v.image r).length<=290000
   omega
  repeat' (first|refine Zs rfl ?_|refine Zc rfl ?_)
  refine Zx rfl rfl (a8p (fun Y=>c2J Y (a5q v.image rs) N2 hkey (by omega) (by omega) hll2) ⟨a4S _,trivial,trivial⟩ (fun L=>a4o L) _) rfl ?_
  intro Lp hLp
  repeat' (first|refine Zs rfl ?_|refine Zc rfl ?_)
  refine a0c ⟨_,rfl,⟨s,rs,T2,N3,N2,(pl.length:Int),Lp⟩,0,.inl ⟨rfl,by omega,by omega,s,rfl,?_,?_⟩,_,(fun h=>absurd rfl h),fun _=>?_,rfl⟩
  ·show (!(a0W s).any (nfB v))=true
   rw [hany];rfl
  ·refine ⟨rfl,?_,?_,?_,?_,⟨srt,by rw [<- hcs];exact hsrt,hrs2⟩,by rw [hLp];exact b4G _ _⟩
   ·show (pl.length:Int)=_
    rw [hpl]
   ·show T2=_
    rw [hT2,hT1,hpl,hcs,a9q]
   ·show N2=_
    rw [hN2,hnw,hcs]
   ·show N3=max _ T2
    rw [hN3,hS2,hcs]
  ·rfl
theorem c2N(X:Nat->Prop)(v:Dv)(L:Nat)(hv:Lv L v)(hL:L<=20000)(now:Int):a0b (E0 X) 20 [.sl 1 (v.image.map u8A),.int .i64 now] []
  (fun r H'=>∃x e,b4a v.image (a2c v) (fun s=>!(a0W s).any (nfB v)) (fun s=>a7k v s.mig) now x e/\r=.tup [.agg (rsL x),.int .i64 e]/\H'=[]) :=
 (c2M X v L hv hL now).imp fun r H' ⟨x,e,h1,b,h2,h3,h4⟩=>by
  subst h4
  refine ⟨_,_,⟨x,e,h1,rfl,rfl⟩,(a6m (r':=.tup [.agg (rsL x),.int .i64 e]) fun m w u hu=>?_).trans (kk 0 (fun j o ho=>by cases ho) rfl ⟨⟨b2e x,trivial,trivial⟩,trivial⟩)⟩
  by_cases he:e=0
  ·rw [h3 he] at hu;exact hu
  rw [h2 he] at hu
  rw [h1.zero he]
  exact b7n hu
theorem a4T:HOk 0 []:=fun j o ho=>by cases ho
theorem c4m{X:Nat->Prop}{x:AV}(h:a3E (E0 X) 3 24 [x]):∃l:List La,x=.sl 4 (l.map laA)/\l.length<=maxLen:=by
 have h1:∃es,[x]=[.sl 4 es]/\es.length<=maxLen/\∀y∈es,∃ys,y=elA true ys/\b3b (E0 X) (a3E (E0 X) 1) [(0,3),(1,3),(2,3),(3,3)] ys:=h
 obtain ⟨es,h2,hlen,h3⟩:=h1
 simp only [List.cons.injEq,and_true] at h2
 subst h2
 obtain ⟨l,rfl⟩:=a9n (f:=laA) fun y hy=>by
  obtain ⟨ys,rfl,_,_,rfl,⟨m0,rfl,_⟩,_,_,rfl,⟨m1,rfl,_⟩,_,_,rfl,⟨m2,rfl,_⟩,_,_,rfl,⟨m3,rfl,_⟩,rfl⟩:=h3 y hy
  exact ⟨⟨m0,m1,m2,m3⟩,rfl⟩
 exact ⟨l,rfl,by simpa using hlen⟩
theorem b3W{X:Nat->Prop}{xs:List AV}(h:a3E (E0 X) 4 26 xs):∃s:Sb,xs=sbL s/\s.fo.length<=maxLen:=by
 have h1:b3b (E0 X) (a3E (E0 X) 3) [(0,3),(1,3),(2,3),(3,3),(4,3),(5,23),(9,23),(13,24)] xs:=h
 obtain ⟨_,_,rfl,⟨n0,rfl,_⟩,_,_,rfl,⟨n1,rfl,_⟩,_,_,rfl,⟨n2,rfl,_⟩,_,_,rfl,⟨n3,rfl,_⟩,_,_,rfl,⟨n4,rfl,_⟩,a,_,rfl,ha,b,_,rfl,hb,c,_,rfl,hc,rfl⟩:=h1
 have ha2:b3b (E0 X) (a3E (E0 X) 2) [(0,3),(1,3),(2,3),(3,3)] a:=ha
 have hb2:b3b (E0 X) (a3E (E0 X) 2) [(0,3),(1,3),(2,3),(3,3)] b:=hb
 obtain ⟨_,_,rfl,⟨m0,rfl,_⟩,_,_,rfl,⟨m1,rfl,_⟩,_,_,rfl,⟨m2,rfl,_⟩,_,_,rfl,⟨m3,rfl,_⟩,rfl⟩:=ha2
 obtain ⟨_,_,rfl,⟨k0,rfl,_⟩,_,_,rfl,⟨k1,rfl,_⟩,_,_,rfl,⟨k2,rfl,_⟩,_,_,rfl,⟨k3,rfl,_⟩,rfl⟩:=hb2
 have hc1:∃es,c=[.sl 4 es]/\es.length<=maxLen/\∀y∈es,∃ys,y=elA true ys/\a3E (E0 X) 2 23 ys:=hc
 obtain ⟨es,rfl,_⟩:=hc1
 obtain ⟨l,h2,h3⟩:=c4m hc
 rw [h2]
 exact ⟨⟨n0,n1,n2,n3,n4,⟨m0,m1,m2,m3⟩,⟨k0,k1,k2,k3⟩,l⟩,rfl,h3⟩
def Sb.short(s:Sb):Sb:={ s with fo:=s.fo.take 4 }
theorem b7S(X:Nat->Prop)(s:Sb):a0b (E0 X) 29 [sbA s] [] (fun r H'=>r=sbA s.short/\H'=[]):=by
 refine a0b.cut0 ?_ a1J
 have e1:s.fo.take (min s.fo.length 4)=s.fo.take 4:=by
  rcases Nat.le_total s.fo.length 4 with h|h
  ·rw [Nat.min_eq_left h,List.take_of_length_le (Nat.le_refl _),List.take_of_length_le h]
  ·rw [Nat.min_eq_right h]
 show a0b (E0 X) 29 [.agg [.int .i64 s.gen,.int .i64 s.phase,.int .i64 s.mig,.int .i64 s.tail,.int .i64 s.now,.int .i64 s.t.id,.int .i64 s.t.ver,.int .i64 s.t.rs,.int .i64 s.t.regs,.int .i64 s.h.id,.int .i64 s.h.ver,.int .i64 s.h.rs,.int .i64 s.h.regs,.sl 4 (s.fo.map laA)]] [] _
 refine Z0 Proofs.Tryz.func29 rfl Proofs.Tryz.ntmps29 (by kernel_rfl) rfl ?_
 repeat' (first|refine Zs rfl ?_|refine Zc rfl ?_|refine Qa rfl ?_)
 refine a1f (l:=0) (h:=min s.fo.length 4) (ys:=s.fo.take 4) (a1u) (a0q rfl (by rw [List.length_map];omega)) (by omega) (by omega) (by rw [List.drop_zero,e1]) rfl rfl rfl rfl rfl ?_
 refine nx rfl rfl ?_
 repeat' (first|refine Zs rfl ?_|refine Zc rfl ?_|refine Zh ?_|refine Qs ?_)
 exact a0c ⟨_,rfl,rfl⟩
structure Pt where
 kind:Int
 lay:Int
 h:Hd
 rs:List Rec
 p:Pl
 s:Sb
 pos:Int
 add:UInt8
def plL(p:Pl):List AV:=[.int .i64 p.kind,.int .i64 p.mig,.int .i64 p.idx,.int .i64 p.tail,.int .i64 p.t.id,.int .i64 p.t.ver,.int .i64 p.t.rs,.int .i64 p.t.regs]
def ptL(p:Pt):List AV:=.int .i64 p.kind::.int .i64 p.lay::(hdL p.h++.sl 4 (p.rs.map a5X)::(plL p.p++(sbL p.s++[.int .i64 p.pos,u8A p.add])))
def ptA(p:Pt):AV:=.agg (ptL p)
theorem b6Z{n:Nat}{p:Pt}:a0e n (ptL p):=⟨trivial,trivial,trivial,trivial,trivial,trivial,trivial,trivial,a0h fun _=>a2x,trivial,trivial,trivial,trivial,trivial,trivial,trivial,trivial,trivial,trivial,trivial,trivial,trivial,trivial,trivial,trivial,trivial,trivial,trivial,trivial,trivial,a0h fun _=>a1g,trivial,trivial,trivial⟩
@[simp] theorem c2v{n:Nat}{p:Pt}:a0d n (ptA p):=b6Z
theorem b7a(l:List Pt){n:Nat}:a0e n (l.map ptA):=a0h fun _=>c2v
structure c3y(p:Pt):Prop where
 rs:p.rs.length<=maxLen
 key:∀r∈p.rs,r.key.length<=maxLen/\r.val.length<=maxLen
theorem b9D{X:Nat->Prop}{x:AV}(h:a3E (E0 X) 6 27 [x]):∃l:List Pt,x=.sl 33 (l.map ptA)/\l.length<=maxLen/\∀p∈l,c3y p:=by
 have h1:∃es,[x]=[.sl 33 es]/\es.length<=maxLen/\∀y∈es,∃ys,y=elA true ys/\b3b (E0 X) (a3E (E0 X) 4) [(0,3),(1,3),(2,61),(8,87),(9,89),(17,26),(31,3),(32,5)] ys:=h
 obtain ⟨es,h2,hlen,h3⟩:=h1
 simp only [List.cons.injEq,and_true] at h2
 subst h2
 obtain ⟨l,rfl,hl⟩:=a9o (f:=ptA) (P:=c3y) fun y hy=>by
  obtain ⟨ys,rfl,_,_,rfl,⟨k,rfl,_⟩,_,_,rfl,⟨la,rfl,_⟩,a,_,rfl,ha,b,_,rfl,hb,c,_,rfl,hc,d,_,rfl,hd,_,_,rfl,⟨at0,rfl,_⟩,e,_,rfl,he,rfl⟩:=h3 y hy
  have ha1:b3b (E0 X) (a3E (E0 X) 3) [(0,3),(1,3),(2,3),(3,3),(4,3),(5,3)] a:=ha
  obtain ⟨_,_,rfl,⟨h0,rfl,_⟩,_,_,rfl,⟨h1,rfl,_⟩,_,_,rfl,⟨h2,rfl,_⟩,_,_,rfl,⟨h3,rfl,_⟩,_,_,rfl,⟨h4,rfl,_⟩,_,_,rfl,⟨h5,rfl,_⟩,rfl⟩:=ha1
  obtain ⟨rs,rfl,hr1,hr2⟩:=c2E hb
  have hc1:b3b (E0 X) (a3E (E0 X) 3) [(0,3),(1,3),(2,3),(3,3),(4,23)] c:=hc
  obtain ⟨_,_,rfl,⟨p0,rfl,_⟩,_,_,rfl,⟨p1,rfl,_⟩,_,_,rfl,⟨p2,rfl,_⟩,_,_,rfl,⟨p3,rfl,_⟩,pt,_,rfl,hpt,rfl⟩:=hc1
  have hpt1:b3b (E0 X) (a3E (E0 X) 2) [(0,3),(1,3),(2,3),(3,3)] pt:=hpt
  obtain ⟨_,_,rfl,⟨t0,rfl,_⟩,_,_,rfl,⟨t1,rfl,_⟩,_,_,rfl,⟨t2,rfl,_⟩,_,_,rfl,⟨t3,rfl,_⟩,rfl⟩:=hpt1
  obtain ⟨s,rfl,_⟩:=b3W hd
  obtain ⟨u,rfl⟩:=b8S (X:=X) he
  exact ⟨⟨k,la,⟨h0,h1,h2,h3,h4,h5⟩,rs,⟨p0,p1,p2,p3,⟨t0,t1,t2,t3⟩⟩,s,at0,u⟩,rfl,hr1,hr2⟩
 exact ⟨l,rfl,by simpa using hlen,hl⟩
def c2b(l:La)(h:Hd):Int:=if a1a l=true/\hdB h=true/\h.ver=l.ver/\h.lay=l.id then (if l.regs<=h.slot then 2 else 0) else 4
def ptH(l:La)(p:Pt):Hd:={ p.h with ver:=l.ver,lay:=l.id }
def c3O(l:La)(h:Hd):Nat:=(74+h.slot*l.rs).toNat
def c6h(r:Rd)(l:La)(h:Hd):Rd:=(r.wr (c3O l h) (a8Z h (c3O l h))).bar
def b8w(l:La)(F seq:Nat)(x:Rd × List UInt8 × Nat)(r:Rec):Rd × List UInt8 × Nat :=
 if a4i l.ver r=0/\(x.2.1.length:Int)+(a1M r:Int)<=(l.rs - 1)*59 then
  (a8j x.1 F seq (x.2.1++a4a l.ver seq x.2.1.length r) x.2.2 ((x.2.1++a4a l.ver seq x.2.1.length r).length / 59 - x.2.2),x.2.1++a4a l.ver seq x.2.1.length r,(x.2.1++a4a l.ver seq x.2.1.length r).length / 59)
 else x
def c0j(F seq:Nat)(x:Rd × List UInt8 × Nat):Rd:=(a8j x.1 F seq (padS x.2.1) x.2.2 ((padS x.2.1).length / 59 - x.2.2)).bar
def b9c(r:Rd)(l:La)(h:Hd)(rs:List Rec):Rd:=c0j (c3O l h) h.seq.toNat (rs.foldl (b8w l (c3O l h) h.seq.toNat) (c6h r l h,[],0))
def b5h(s:Sb)(L:Nat)(p:Pt)(r r':Rd):Prop :=
 Lr L r'/\(p.kind=0->∃l∈a0W s,r'=if c2b l (ptH l p)=0 then b9c r l (ptH l p) ((p.rs.take 5).map Rec.short) else r)
def a4R(s:Sb)(L:Nat):List Pt->Rd->Rd->Prop
 | [],r,r'=>r'=r
 | p::ps,r,r'=>∃r1,b5h s L p r r1/\a4R s L ps r1 r'
theorem a4R.snoc{s:Sb}{L:Nat}{p:Pt}{r1 r2:Rd}(h2:b5h s L p r1 r2):∀{l:List Pt} {r0:Rd},a4R s L l r0 r1->a4R s L (l++[p]) r0 r2
 | [],r0,h=>by
  have h':r1=r0:=h
  subst h'
  exact ⟨r2,h2,rfl⟩
 | q::l,r0,⟨r3,h3,h4⟩=>⟨r3,h3,a4R.snoc h2 h4⟩
structure WJ(L:Nat)(l:La)(p:Rd × List UInt8 × Nat):Prop where
 lr:Lr L p.1
 tt:p.2.2=p.2.1.length / 59
 cap:(p.2.1.length:Int)<=(l.rs - 1)*59
def szN(l:List La):Int:=l.foldl (fun a l=>max a (74+l.regs*l.rs)) 74
theorem c0k(l:List La)(x:La):szN (l++[x])=max (szN l) (74+x.regs*x.rs):=by simp [szN]
theorem c1e:∀(l:List La) (a:Int),a<=l.foldl (fun a l=>max a (74+l.regs*l.rs)) a
 | [],a=>Int.le_refl a
 | x::l,a=>Int.le_trans (Int.le_max_left a _) (c1e l _)
theorem b2s{x:La}:∀{l:List La} {a:Int},x∈l->74+x.regs*x.rs<=l.foldl (fun a l=>max a (74+l.regs*l.rs)) a
 | y::l,a,h=>by
  rcases List.mem_cons.1 h with rfl|h
  ·exact Int.le_trans (Int.le_max_right a _) (c1e l _)
  ·exact b2s (l:=l) h
theorem c1f{n:Int}:∀{l:List La} {a:Int},a<=n->(∀x∈l,74+x.regs*x.rs<=n)->l.foldl (fun a l=>max a (74+l.regs*l.rs)) a<=n
 | [],a,h,_=>h
 | x::l,a,h,hx=>c1f (l:=l) (Int.max_le.2 ⟨h,hx x (by simp)⟩) fun y hy=>hx y (by simp [hy])
def b1r(s:Sb):Rd:=(Rd.fresh (List.replicate ((szN (a0W s)).toNat*64) 0)).wr (s.gen%2).toNat (a3D s (s.gen%2).toNat)
structure c5n(s:Sb)(ps:List Pt)(img:List UInt8):Prop where
 ok:sbB s.short=true
 fit:∀l∈a0W s.short,l.rs<=8/\l.regs<=8
 len:img.length=(szN (a0W s.short)).toNat*64
 ex:∃r,a4R s.short ((szN (a0W s.short)).toNat*64) (ps.take 12) (b1r s.short) r/\img=r.new
theorem c6x{a b:Int}(h0:0<=a)(h1:a<=8)(h2:0<=b)(h3:b<=8):0<=a*b/\a*b<=64:=by
 have h4:=Int.mul_le_mul h1 h3 h2 (by omega:(0:Int)<=8)
 exact ⟨Int.mul_nonneg h0 h2,h4⟩
theorem b3X{s:Sb}(hs:sbB s=true)(hf:∀l∈a0W s,l.rs<=8/\l.regs<=8):82<=szN (a0W s)/\szN (a0W s)<=138/\∀l∈a0W s,74+l.regs*l.rs<=szN (a0W s):=by
 have h1:=(a7I hs).1
 have hm:∀l∈a0W s,8<=l.regs*l.rs/\l.regs*l.rs<=64:=fun l hl=>by
  have h2:=a1z (h1 l hl)
  have h3:=hf l hl
  have h4:=Int.mul_le_mul h2.2.2.1 h2.1 (by omega) (by omega)
  have h5:=(c6x (a:=l.regs) (b:=l.rs) (by omega) (by omega) (by omega) (by omega)).2
  exact ⟨h4,h5⟩
 have h6:s.t∈a0W s:=by simp [a0W]
 have h7:74+s.t.regs*s.t.rs<=szN (a0W s):=b2s h6
 exact ⟨by have:=hm _ h6;omega,c1f (by omega) fun l hl=>by have:=hm l hl;omega,fun l hl=>b2s hl⟩
theorem c4Q(l:La)(h:Hd):∀X,Pur (E0 X) 34 [laA l,hdA h] (.int .i64 (c2b l h)):=by
 refine Zj ⟨a1g,a4l,trivial⟩ trivial fun X=>?_
 have hc:=b7t l X
 have hd:Pur (E0 X) 88 [hdA h] (.bool (hdB h)):=⟨⟨a4l,trivial⟩,fun Y=>b0G Y h⟩
 unfold c2b
 generalize a1a l=f at *
 generalize hdB h=g at *
 refine Z0 Proofs.Tryz.func34 rfl Proofs.Tryz.ntmps34 (by kernel_rfl) rfl ?_
 repeat' (first|refine Zs rfl ?_|refine Zc rfl ?_)
 refine Zp rfl rfl (hc) rfl ?_
 cases f with
 | false =>
  rw [if_neg (by simp)]
  repeat' (first|refine Zs rfl ?_|refine Zc rfl ?_)
  refine a0c ⟨_,rfl,rfl⟩
 | true =>
  repeat' (refine Zs rfl ?_)
  refine Zp rfl rfl (hd) rfl ?_
  cases g with
  | false =>
   rw [if_neg (by simp)]
   repeat' (first|refine Zs rfl ?_|refine Zc rfl ?_)
   refine a0c ⟨_,rfl,rfl⟩
  | true =>
   repeat' (refine Zs rfl ?_)
   by_cases h1:h.ver=l.ver
   ·rw [decide_eq_false (fun h=>h h1:¬ h.ver≠l.ver)]
    repeat' (refine Zs rfl ?_)
    by_cases h2:h.lay=l.id
    ·rw [decide_eq_false (fun h=>h h2:¬ h.lay≠l.id),if_pos ⟨rfl,rfl,h1,h2⟩]
     repeat' (first|refine Zs rfl ?_|refine Zc rfl ?_)
     by_cases h3:l.regs<=h.slot
     ·rw [decide_eq_true h3,if_pos h3]
      repeat' (first|refine Zs rfl ?_|refine Zc rfl ?_)
      refine a0c ⟨_,rfl,rfl⟩
     rw [decide_eq_false h3,if_neg h3]
     repeat' (first|refine Zs rfl ?_|refine Zc rfl ?_)
     refine a0c ⟨_,rfl,rfl⟩
    rw [decide_eq_true (h2:h.lay≠l.id),if_neg (fun h=>h2 h.2.2.2)]
    repeat' (first|refine Zs rfl ?_|refine Zc rfl ?_)
    refine a0c ⟨_,rfl,rfl⟩
   rw [decide_eq_true (h1:h.ver≠l.ver),if_neg (fun h=>h1 h.2.2.1)]
   repeat' (first|refine Zs rfl ?_|refine Zc rfl ?_)
   refine a0c ⟨_,rfl,rfl⟩
theorem b5X{s:Sb}(h:sbB s=true):s.gen.tmod 2=((s.gen%2).toNat:Int)/\(s.gen%2).toNat<=1:=by
 have h1:1<=s.gen:=by
  unfold sbB at h
  rw [Bool.and_eq_true] at h
  exact of_decide_eq_true h.1
 rw [Int.tmod_eq_emod_of_nonneg (by omega)]
 omega
theorem WJ.app{L:Nat}{l:La}{d:Rd}{s:List UInt8}{t:Nat}(w:WJ L l (d,s,t)){F seq:Nat}{r:Rec}(hfl:(F+l.rs.toNat)*64<=L):WJ L l (b8w l F seq (d,s,t) r):=by
 unfold b8w
 split
 ·rename_i h
  have hl:(s.length:Int)+(a1M r:Int)<=(l.rs - 1)*59:=h.2
  have htt:t=s.length / 59:=w.tt
  refine ⟨w.lr.df _ ?_,rfl,?_⟩
  ·show (F+1+t+((s++a4a l.ver seq s.length r).length / 59 - t))*64<=L
   rw [List.length_append,a4E]
   omega
  ·show ((s++a4a l.ver seq s.length r).length:Int)<=_
   rw [List.length_append,a4E];omega
 ·exact w
theorem WJ.sync{L:Nat}{l:La}{d:Rd}{s:List UInt8}{t:Nat}(w:WJ L l (d,s,t)){F seq:Nat}(hfl:(F+l.rs.toNat)*64<=L):Lr L (c0j F seq (d,s,t)):=by
 have hc:=b1S (l:=l) (s:=s) w.cap
 have htt:t=s.length / 59:=w.tt
 have hps:s.length<=(padS s).length:=by simp [padS]
 refine (w.lr.df _ ?_).bar
 show (F+1+t+((padS s).length / 59 - t))*64<=L
 omega
theorem c2w{L:Nat}{r:Rd}(h:Lr L r){i:Nat}{x:UInt8}:Lr L { r with new:=r.new.set i x } :=
 ⟨by show (r.new.set i x).length=L;rw [List.length_set];exact h.new,h.old,h.dirt,h.has,h.gone,h.le⟩
end Go.Abs
