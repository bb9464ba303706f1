/- replay: Map. Joined texts, each with what its own name promises; no condition beyond those stated. -/
import Derived.Test.YtkmmdlicifiknaaGreatDoorWC
import Derived.Test.YtkmmdlicifiknaaGreatDoorWJ
set_option maxHeartbeats 0
set_option maxRecDepth 100000
set_option linter.all false
namespace Go.Abs
theorem a7x{bs:List (Int × List (Nat × Rec))}{i:Nat}{b:Int × List (Nat × Rec)}(h:bs[i]?=some b):flB (bs.take (i+1))=flB (bs.take i)++b.2.map fun p=>(b.1,p):=by
 rw [List.take_add_one,h];simp [flB]
theorem b3e{s:Int}{l:List (Nat × Rec)}{j:Nat}{p:Nat × Rec}(h:l[j]?=some p):((l.take (j+1)).map fun p=>(s,p))=((l.take j).map fun p=>(s,p))++[(s,p)]:=by
 rw [List.take_add_one,h];simp
theorem a4B(bs:List (Int × List (Nat × Rec))){i:Nat}{b:Int × List (Nat × Rec)}(h:bs[i]?=some b)(j:Nat):(flB (bs.take i)++(b.2.take j).map fun p=>(b.1,p)).length<=(flB bs).length:=by
 have h1:flB bs=flB (bs.take (i+1))++flB (bs.drop (i+1)):=by
  show _=(bs.take (i+1)).flatMap _++(bs.drop (i+1)).flatMap _
  rw [<- List.flatMap_append,List.take_append_drop];rfl
 rw [h1,a7x h]
 simp only [List.length_append,List.length_map,List.length_take]
 omega
theorem b3R(now:Int)(e:En):(!(decide (e.exp≠0)&&decide (e.exp<=now)))=a2p now e:=by
 unfold a2p
 by_cases h1:e.exp=0
 ·simp [h1]
 by_cases h2:e.exp<=now
 ·have h3:¬ now<e.exp:=by omega
  simp [h1,h2,h3]
 ·have h3:now<e.exp:=by omega
  simp [h1,h2,h3]
theorem c0r{L:List Pr}{q:Nat}{p:Pr}(h:L[q]?=some p)(f:Pr->Bool):(L.take (q+1)).filter f=(L.take q).filter f++if f p then [p] else []:=by
 rw [List.take_add_one,h,List.filter_append]
 cases hf:f p<;>simp [hf]
theorem c0U{t:Tb}(h:TOk t):IsMap ((((t.all.map (·.1)).mergeSort fun a b=>decide (a<=b))).map fun k=>(k,a4r t k)) t.look:=by
 refine b1g h (List.mergeSort_perm _ _) ?_
 have h1:((t.all.map (·.1)).mergeSort fun a b=>decide (a<=b)).Pairwise (fun a b=>decide (a<=b)=true):=List.pairwise_mergeSort (fun a b c h1 h2=>by
  simp only [decide_eq_true_eq] at *;exact List.le_trans h1 h2) (fun a b=>by
  simp only [Bool.or_eq_true,decide_eq_true_eq];exact List.le_total a b) _
 have h2:((t.all.map (·.1)).mergeSort fun a b=>decide (a<=b)).Nodup:=(List.mergeSort_perm _ _).nodup_iff.2 t.all_nd
 refine (h1.and h2).imp fun {a b} h=>?_
 obtain ⟨h3,h4⟩:=h
 simp only [decide_eq_true_eq] at h3
 rcases a5A a b with h|h|h
 ·exact h
 ·exact absurd h h4
 ·exact absurd h h3
theorem b7J{t:Tb}(h:TOk t):((((t.all.map (·.1)).mergeSort fun a b=>decide (a<=b))).map fun k=>(k,a4r t k)).length=t.all.length:=by
 rw [List.length_map,(List.mergeSort_perm _ _).length_eq,List.length_map]
abbrev foL(p:Nat × Rec):List AV:=[.int .i64 (p.1:Int),.int .i64 (a1K p.2:Int),.int .i64 p.2.kind,.sl 1 (p.2.key.map u8A),.sl 1 (p.2.val.map u8A),.int .i64 p.2.exp]
theorem a8d(p:Nat × Rec):a0e 0 (foL p):=⟨trivial,trivial,trivial,a0h fun _=>a0n,a0h fun _=>a0n,trivial,trivial⟩
attribute [local irreducible] a0B a1G AWp Nx awM
theorem c7p(X:Nat->Prop)(bs:List (Int × List (Nat × Rec)))(now:Int)(hkey:∀b∈bs,∀p∈b.2,p.2.key.length<=1000000)(htot:(flB bs).length<=290000)(hbl:bs.length<=290000)(hll:∀b∈bs,b.2.length<=290000) :
  a0b (E0 X) 64 [.sl 2 (bs.map baA),.int .i64 now] [] (fun r H'=>∃L,IsMap L (b4Z now (a8Y (flB bs)))/\r=.sl 6 (L.map prA)/\H'=[]):=by
 have hbi:a0e 3 (bs.map baA):=a0x (Nat.zero_le 3) (a2v bs)
 have hf0:∀l:List (Nat × Rec),a0e 0 (l.map foA):=fun l=>a0h fun _=>a2j
 have hfi:∀l:List (Nat × Rec),a0e 3 (l.map foA):=fun l=>a0h fun _=>a2j
 refine a0b.frzH (e:=69) 6 ?_ (Nat.le_refl 0) a0T rfl rfl a2b
 refine Z0 Proofs.Tryz.func64 rfl Proofs.Tryz.ntmps64 (by kernel_rfl) rfl ?_
 refine Zc rfl (Zc rfl (Zs rfl (Zh ?_)))
 refine Zc rfl (Zc rfl ?_)
 refine Zf rfl rfl (c3a X) rfl rfl rfl ?_
 repeat' (first|refine Zs rfl ?_|refine Zh ?_|refine Ql ?_|refine Qo rfl ?_)
 refine a1r (I:=fun t:Tb=>RpI t (flB bs)) (σ:=fun t=>⟨[(1,.int .i64 now),(5,.ptr 0 0)],tbH t⟩) ?_ ?_
 ·refine Zc rfl ?_
  refine a0q (fun s:Nat × Tb=>⟨[(1,.int .i64 now),(5,.ptr 0 0),(15,.sl 2 (bs.map baA)),(16,.int .i64 (bs.length:Int)),(17,.int .i64 (s.1:Int))],tbH s.2⟩) (fun s=>s.1<=bs.length/\RpI s.2 (flB (bs.take s.1))) (fun s=>bs.length - s.1) (0,Tb.new) ⟨Nat.zero_le _,RpI.new _ fun k=>rfl⟩ ?_ ?_
  ·exact a0i 3 (Nat.zero_le _) (a2w Tb.new) rfl (Nat.le_refl 3) (a0a ⟨rfl,trivial⟩ (a0a ⟨rfl,Nat.zero_lt_succ 2⟩ (a0a ⟨rfl,hbi⟩ (a0a ⟨by rw [List.length_map];rfl,trivial⟩ (a0a ⟨rfl,trivial⟩ a0k)))))
  rintro ⟨i,t⟩ ⟨hi,hr⟩
  repeat' (first|refine Zs rfl ?_|refine Zc rfl ?_)
  refine a0d rfl (fun h1=>?_) (fun h1=>?_)
  ·have hil:i<bs.length:=by omega
   obtain ⟨b,hb⟩:∃b,bs[i]?=some b:=⟨_,List.getElem?_eq_getElem hil⟩
   have hbm:b∈bs:=List.mem_of_getElem? hb
   have hbl2:=hll b hbm
   repeat' (refine Zc rfl ?_)
   refine Qa rfl ?_
   refine a0y hb rfl rfl rfl rfl rfl rfl rfl (by first|rfl|omega) rfl ?_
   refine nx rfl rfl ?_
   repeat' (refine Zs rfl ?_)
   refine Zh (Kz 3 [1,5,7,15,16,17] 3 (a2w t) rfl rfl ⟨trivial,Nat.zero_lt_succ 2,⟨trivial,hfi b.2,trivial⟩,hbi,trivial,trivial,trivial⟩ ?_)
   repeat' (first|refine Zs rfl ?_|refine Zc rfl ?_)
   refine a0q (fun s:Nat × Tb=>⟨[(1,.int .i64 now),(5,.ptr 0 0),(7,.fp [.int .i64 b.1,.sl 6 (b.2.map foA)]),(15,.sl 2 (bs.map baA)),(16,.int .i64 (bs.length:Int)),(17,.int .i64 (i:Int)),(22,.sl 6 (b.2.map foA)),(23,.int .i64 (b.2.length:Int)),(24,.int .i64 (s.1:Int))],tbH s.2⟩)
    (fun s=>s.1<=b.2.length/\RpI s.2 (flB (bs.take i)++(b.2.take s.1).map fun p=>(b.1,p))) (fun s=>b.2.length - s.1) (0,t) ⟨Nat.zero_le _,by simpa using hr⟩ ?_ ?_
   ·exact a0i 3 (Nat.zero_le _) (a2w t) rfl (Nat.le_refl 3) (a0a ⟨rfl,trivial⟩ (a0a ⟨rfl,Nat.zero_lt_succ 2⟩ (a0a ⟨rfl,trivial,hfi b.2,trivial⟩ (a0a ⟨rfl,hbi⟩ (a0a ⟨rfl,trivial⟩ (a0a ⟨rfl,trivial⟩ (a0a ⟨rfl,hfi b.2⟩ (a0a ⟨by rw [List.length_map];rfl,trivial⟩ (a0a ⟨rfl,trivial⟩ a0k)))))))))
   rintro ⟨j,t1⟩ ⟨hj,hr1⟩
   have hr1:RpI t1 (flB (bs.take i)++(b.2.take j).map fun p=>(b.1,p)):=hr1
   repeat' (first|refine Zs rfl ?_|refine Zc rfl ?_)
   refine a0d rfl (fun h2=>?_) (fun h2=>?_)
   ·have hjl:j<b.2.length:=by omega
    obtain ⟨p,hp⟩:∃p,b.2[j]?=some p:=⟨_,List.getElem?_eq_getElem hjl⟩
    have hpk:=hkey b hbm p (List.mem_of_getElem? hp)
    have hpt:=a4B bs hb j
    have hst:=b3e (s:=b.1) hp
    have hjw:IntKind.i64.wrap ((j:Int)+1)=((j+1:Nat):Int):=a0p (by omega) (by omega)
    have htt:=hr1.tot
    repeat' (refine Zc rfl ?_)
    refine Qa rfl ?_
    refine a0y hp rfl rfl rfl rfl rfl rfl rfl (by first|rfl|omega) rfl ?_
    refine nx rfl rfl ?_
    repeat' (refine Zs rfl ?_)
    refine Zh (Kz 3 [1,5,7,9,15,16,17,22,23,24] 3 (a2w t1) rfl rfl ⟨trivial,Nat.zero_lt_succ 2,⟨trivial,hfi b.2,trivial⟩,a0x (Nat.zero_le _) (a8d p),hbi,trivial,trivial,hfi b.2,trivial,trivial,trivial⟩ ?_)
    repeat' (first|refine Zs rfl ?_|refine Zc rfl ?_)
    refine Qa rfl ?_
    refine a5H (l:=p.2.key) rfl rfl rfl rfl rfl rfl rfl ?_
    refine nx rfl rfl ?_
    repeat' (first|refine Zs rfl ?_|refine Zc rfl ?_)
    refine a0d rfl (fun k1=>?_) (fun k1=>?_)
    ·repeat' (first|refine Zs rfl ?_|refine Zc rfl ?_)
     refine Zx rfl rfl (c7S X t1 p.2.key (c3A (b.1,p)) hr1.ok (by omega) hr1.kb hpk) rfl ?_
     intro t' hs
     repeat' (first|refine Zs rfl ?_|refine Zc rfl ?_)
     refine ⟨(j+1,t'),⟨hjl,by show RpI t' (_++(b.2.take (j+1)).map _);rw [hst,<- List.append_assoc];exact hr1.set hpk k1 hs⟩,by show b.2.length - (j+1)<b.2.length - j;omega,?_⟩
     exact b9e (a0a (a0F rfl trivial) (a0a (a1g rfl) (a0a (a0F rfl ⟨trivial,hf0 b.2,trivial⟩) (a0a (a0F rfl (a2v bs)) (a0a (a0F rfl trivial) (a0a (a0F rfl trivial) (a0a (a0F rfl (hf0 b.2)) (a0a (a0F rfl trivial) (a0a (a0F (congrArg (AV.int .i64) hjw) trivial) a0k)))))))))
    repeat' (first|refine Zs rfl ?_|refine Zc rfl ?_)
    refine a0d rfl (fun k2=>?_) (fun k2=>?_)
    ·repeat' (first|refine Zs rfl ?_|refine Zc rfl ?_)
     refine Zx rfl rfl (c7M X t1 p.2.key hr1.ok hr1.kb hpk) rfl ?_
     intro t' hs
     repeat' (first|refine Zs rfl ?_|refine Zc rfl ?_)
     refine ⟨(j+1,t'),⟨hjl,by show RpI t' (_++(b.2.take (j+1)).map _);rw [hst,<- List.append_assoc];exact hr1.del k2 hs⟩,by show b.2.length - (j+1)<b.2.length - j;omega,?_⟩
     exact b9e (a0a (a0F rfl trivial) (a0a (a1g rfl) (a0a (a0F rfl ⟨trivial,hf0 b.2,trivial⟩) (a0a (a0F rfl (a2v bs)) (a0a (a0F rfl trivial) (a0a (a0F rfl trivial) (a0a (a0F rfl (hf0 b.2)) (a0a (a0F rfl trivial) (a0a (a0F (congrArg (AV.int .i64) hjw) trivial) a0k)))))))))
    repeat' (first|refine Zs rfl ?_|refine Zc rfl ?_)
    refine a0d rfl (fun k3=>?_) (fun k3=>?_)
    ·repeat' (refine Zc rfl ?_)
     refine Zf rfl rfl (c7R X _) rfl rfl rfl ?_
     repeat' (first|refine Zs rfl ?_|refine Zc rfl ?_)
     refine ⟨(j+1,Tb.new),⟨hjl,by show RpI Tb.new (_++(b.2.take (j+1)).map _);rw [hst,<- List.append_assoc];exact RpI.flush k3⟩,by show b.2.length - (j+1)<b.2.length - j;omega,?_⟩
     refine a0L 0 [3,4,5] (H':=tbH Tb.new) (os:=[tbC Tb.new 1 2,.arr (Tb.new.now.map pcA) 251,.arr (Tb.new.old.map pcA) 251]) (Nat.le_refl _) (Nat.zero_le _) (by simp) (by simp) a0T rfl rfl ?_ ?_
     ·exact (a0a (a0F rfl trivial) (a0a (a1g rfl) (a0a (a0F rfl ⟨trivial,hf0 b.2,trivial⟩) (a0a (a0F rfl (a2v bs)) (a0a (a0F rfl trivial) (a0a (a0F rfl trivial) (a0a (a0F rfl (hf0 b.2)) (a0a (a0F rfl trivial) (a0a (a0F (congrArg (AV.int .i64) hjw) trivial) a0k)))))))))
     ·refine a0v rfl (a1j ?_) (a0v rfl (a3q _ _) (a0v rfl (a3q _ _) a0N))
      repeat' (first|exact a3b.nil|refine a3b.cons ?_ ?_|exact a0D rfl|exact a0s rfl (by first|trivial|(simp [a0g,a0e];done)))
    repeat' (first|refine Zs rfl ?_|refine Zc rfl ?_)
    refine ⟨(j+1,t1),⟨hjl,by show RpI t1 (_++(b.2.take (j+1)).map _);rw [hst,<- List.append_assoc];exact hr1.keep k1 k2 k3⟩,by show b.2.length - (j+1)<b.2.length - j;omega,?_⟩
    rw [hjw]
    exact kk 3 (a2w t1) rfl ⟨trivial,Nat.zero_lt_succ 2,⟨trivial,hfi b.2,trivial⟩,hbi,trivial,trivial,hfi b.2,trivial,trivial,trivial⟩
   repeat' (first|refine Zs rfl ?_|refine Zc rfl ?_)
   have hj2:j=b.2.length:=by omega
   subst hj2
   have hiw:IntKind.i64.wrap ((i:Int)+1)=((i+1:Nat):Int):=a0p (by omega) (by omega)
   rw [List.take_length,<- a7x hb] at hr1
   refine ⟨(i+1,t1),⟨hil,hr1⟩,by show bs.length - (i+1)<bs.length - i;omega,?_⟩
   rw [hiw]
   exact kk 3 (a2w t1) rfl ⟨trivial,Nat.zero_lt_succ 2,hbi,trivial,trivial,trivial⟩
  repeat' (refine Zc rfl ?_)
  have hi2:i=bs.length:=by omega
  subst hi2
  refine ⟨rfl,t,by rw [List.take_length] at hr;exact hr,?_⟩
  exact kk 3 (a2w t) rfl (by simp [a0g,a0e])
 intro t hr
 repeat' (first|refine Zs rfl ?_|refine Zh ?_|refine Ql ?_|refine Qo rfl ?_)
 refine Zx rfl rfl (c4s X t hr.ok hr.ol hr.kb) rfl ?_
 intro L hL
 have hLl:L.length<=2097152:=by
  have h1:=hL.unique (c0U hr.ok)
  rw [h1,b7J hr.ok]
  have:=b1U t
  have:=hr.ok.lt
  have:=hr.ol
  omega
 repeat' (first|refine Zs rfl ?_|refine Zc rfl ?_)
 refine a0q (fun q:Nat=>⟨[(1,.int .i64 now),(11,.own 0 0 ((L.take q).filter fun p=>a2p now p.2).length),(61,.sl 6 (L.map prA)),(62,.int .i64 (L.length:Int)),(63,.int .i64 (q:Int))],[some (.arr (((L.take q).filter fun p=>a2p now p.2).map prA) 69)]⟩)
  (fun q=>q<=L.length) (fun q=>L.length - q) 0 (Nat.zero_le _) ?_ ?_
 ·refine (imp_nil 11 69 rfl).trans (a0L 0 [3] (H':=[some (.arr [] 69)]) (os:=[.arr [] 69]) (Nat.le_refl _) (Nat.zero_le _) (by simp) (by simp) a0T rfl rfl ?_ (a0v rfl (a0A 0 a1V trivial) a0N))
  exact a0a (a0F rfl trivial) (a0a (a0D rfl) (a0a (a0F rfl (a2b L)) (a0a (a0F (by rw [List.length_map];rfl) trivial) (a0a (a0F rfl trivial) a0k))))
 intro q hq
 repeat' (first|refine Zs rfl ?_|refine Zc rfl ?_)
 refine a0d rfl (fun h1=>?_) (fun h1=>?_)
 ·have hql:q<L.length:=by omega
  obtain ⟨p,hp⟩:∃p,L[q]?=some p:=⟨_,List.getElem?_eq_getElem hql⟩
  have hst:=c0r hp fun p=>a2p now p.2
  have hfl:((L.take q).filter fun p=>a2p now p.2).length<=q:=Nat.le_trans (List.length_filter_le _ _) (by rw [List.length_take];omega)
  repeat' (refine Zc rfl ?_)
  refine Qa rfl ?_
  refine a0y hp rfl rfl rfl rfl rfl rfl rfl (by first|rfl|omega) rfl ?_
  refine nx rfl rfl ?_
  repeat' (first|refine Zs rfl ?_|refine Zc rfl ?_)
  refine Zp rfl rfl (b6A p.2.exp now X) rfl ?_
  repeat' (refine Zs rfl ?_)
  refine a0H rfl (fun h2=>?_) (fun h2=>?_)
  ·rw [b3R] at h2
   rw [if_pos h2] at hst
   repeat' (first|refine Zs rfl ?_|refine Zc rfl ?_)
   refine Qa rfl ?_
   have hl1:((L.take q).filter fun p=>a2p now p.2).length=(((L.take q).filter fun p=>a2p now p.2).map prA).length:=(List.length_map _).symm
   have hl2:(((L.take q).filter fun p=>a2p now p.2).map prA).length+1=((L.take (q+1)).filter fun p=>a2p now p.2).length:=by rw [hst,List.length_append,List.length_map];rfl
   have hl3:((L.take q).filter fun p=>a2p now p.2).map prA++[prA p]=((L.take (q+1)).filter fun p=>a2p now p.2).map prA:=by rw [hst,List.map_append];rfl
   have hl4:((L.take (q+1)).filter fun p=>a2p now p.2).length<=q+1:=by rw [<- hl2,List.length_map];omega
   refine a0V (oid:=some 0) (es:=((L.take q).filter fun p=>a2p now p.2).map prA) (out:=((L.take (q+1)).filter fun p=>a2p now p.2).map prA) (n:=((L.take (q+1)).filter fun p=>a2p now p.2).length) (a0J rfl hl1) (rfl) (a8o p) (hl3) (hl2) (by show _<=9223372036854775807;omega) (by show _*56<=_;omega) rfl rfl rfl rfl rfl rfl rfl rfl ?_
   refine nx rfl rfl ?_
   repeat' (first|refine Zs rfl ?_|refine Zc rfl ?_)
   refine ⟨q+1,hql,by show L.length - (q+1)<L.length - q;omega,?_⟩
   refine a0L 0 [2] (H':=[some (.arr (((L.take (q+1)).filter fun p=>a2p now p.2).map prA) 69)]) (os:=[.arr (((L.take (q+1)).filter fun p=>a2p now p.2).map prA) 69]) (Nat.le_refl _) (Nat.zero_le _) (by simp) (by simp) a0T rfl rfl ?_ ?_
   rotate_left
   ·exact a0v rfl (a0A 0 a1V (a2b _)) a0N
   exact a0a (a0F rfl trivial) (a0a (a0D rfl) (a0a (a0F rfl (a2b L)) (a0a (a0F rfl trivial) (a0a (a0F (congrArg (AV.int .i64) (a0u rfl (by omega) (by omega))) trivial) a0k))))
  rw [b3R] at h2
  rw [if_neg (by rw [h2];decide),List.append_nil] at hst
  repeat' (first|refine Zs rfl ?_|refine Zc rfl ?_)
  refine ⟨q+1,hql,by show L.length - (q+1)<L.length - q;omega,?_⟩
  rw [hst]
  refine a0L 0 [0] (H':=[some (.arr (((L.take q).filter fun p=>a2p now p.2).map prA) 69)]) (os:=[.arr (((L.take q).filter fun p=>a2p now p.2).map prA) 69]) (Nat.le_refl _) (Nat.zero_le _) (by simp) (by simp) a0T rfl rfl ?_ ?_
  rotate_left
  ·exact a0v rfl (a0A 0 a1V (a2b _)) a0N
  exact a0a (a0F rfl trivial) (a0a (a0D rfl) (a0a (a0F rfl (a2b L)) (a0a (a0F rfl trivial) (a0a (a0F (congrArg (AV.int .i64) (a0u rfl (by omega) (by omega))) trivial) a0k))))
 repeat' (first|refine Zs rfl ?_|refine Zc rfl ?_)
 have hq2:q=L.length:=by omega
 subst hq2
 refine a0c ⟨_,rfl,L.filter fun p=>a2p now p.2,?_,0,_,rfl,by rw [List.take_length,List.length_map],Nat.le_refl 0,by rw [List.take_length];rfl,rfl⟩
 have h9:=hL.live now
 rwa [show t.look=a8Y (flB bs) from funext hr.look] at h9
def b0A(M:Mp)(p:FR)(L:List Pr):List Pr:=match M p.2.2.key with
 | some e=>if p.2.2.kind=1 then a4v p.2.2.key e L else L
 | none=>L
theorem b7e(k:Key)(e:En):∀L:List Pr,(a4v k e L).length<=L.length+1
 | []=>Nat.le_refl 1
 | p::t=>by
  unfold a4v
  split
  ·have:=b7e k e t
   simp;omega
  ·split<;>simp
theorem b9c(M:Mp)(p:FR)(L:List Pr):(b0A M p L).length<=L.length+1:=by
 unfold b0A
 split
 ·split
  ·exact b7e _ _ L
  ·omega
 ·omega
theorem b0i(M:Mp):∀(l:List FR) (L:List Pr),(b0G M l L).length<=L.length+l.length
 | [],L=>Nat.le_refl _
 | p::l,L=>by
  have h1:=b0i M l (b0A M p L)
  have h2:=b9c M p L
  show (b0G M l (b0A M p L)).length<=L.length+(l.length+1)
  omega
structure Rg where
 h:Hd
 l:La
def rgL(r:Rg):List AV:=hdL r.h++laL r.l
def rgA(r:Rg):AV:=.agg (rgL r)
theorem a2A{n:Nat}(r:Rg):a0e n (rgL r):=⟨trivial,trivial,trivial,trivial,trivial,trivial,trivial,trivial,trivial,trivial,trivial⟩
theorem b0p{n:Nat}{r:Rg}:a0g n (rgA r):=a2A r
theorem a0Y(l:List Rg){n:Nat}:a0e n (l.map rgA):=a0h fun _=>b0p
theorem b3E{l:La}{s:Int}:a1e l s=-1\/(74<=a1e l s/\a1e l s<=74+32768/\a3M l s/\2<=l.rs/\l.rs<=2048/\a1e l s=74+s*l.rs):=by
 by_cases h:a1f l=true/\0<=s/\s<l.regs
 ·obtain ⟨_,h1,h2⟩:=a2Z h.1 h.2.1 h.2.2
  have e:a1e l s=74+s*l.rs:=if_pos h
  have hr:=a1M h.1
  exact .inr ⟨by omega,by omega,h,hr.1,hr.2.1,e⟩
 ·exact .inl (if_neg h)
def ovB(a:La)(i:Int)(b:La)(k:Int):Bool:=decide (0<=a1e a i)&&(decide (0<=a1e b k)&&(decide (a1e a i<a1e b k+b.rs)&&decide (a1e b k<a1e a i+a.rs)))
def c5O(l:La)(n:Int):Bool:=a1f l&&decide (74+l.regs*l.rs<=n)
theorem b2j{l:La}(h:a1f l=true):IntKind.i64.wrap (74+IntKind.i64.wrap (l.regs*l.rs))=74+l.regs*l.rs:=by
 obtain ⟨a,b,c,d⟩:=a1M h
 have h3:0<=l.regs*l.rs:=Int.mul_nonneg (by omega) (by omega)
 have h4:l.regs*l.rs<=16*2048:=Int.mul_le_mul d b (by omega) (by omega)
 have e1:IntKind.i64.wrap (l.regs*l.rs)=l.regs*l.rs:=a0p (by omega) (by omega)
 rw [e1]
 exact a0p (by omega) (by omega)
theorem b6E(l:La)(slot:Int)(X:Nat->Prop):Pur (E0 X) 100 [laA l,.int .i64 slot] (.int .i64 (a1e l slot)):=⟨⟨a1u,trivial,trivial⟩,fun Y=>b2i Y l slot⟩
theorem c6h(l:La)(X:Nat->Prop):Pur (E0 X) 109 [laA l] (.bool (a1f l)):=⟨⟨a1u,trivial⟩,fun Y=>a6R Y l⟩
theorem b8g(l:La)(X:Nat->Prop):Pur (E0 X) 82 [laA l] (.bool (a1f l)):=⟨⟨a1u,trivial⟩,fun Y=>a4H Y l⟩
theorem b7C(a:La)(i:Int)(b:La)(k:Int):∀X,Pur (E0 X) 48 [laA a,.int .i64 i,laA b,.int .i64 k] (.bool (ovB a i b k)):=by
 refine Zj ⟨a1u,trivial,a1u,trivial,trivial⟩ trivial fun X=>?_
 have hx:=b3E (l:=a) (s:=i)
 have hy:=b3E (l:=b) (s:=k)
 have hov:ovB a i b k=(decide (0<=a1e a i)&&(decide (0<=a1e b k)&&(decide (a1e a i<a1e b k+b.rs)&&decide (a1e b k<a1e a i+a.rs)))):=rfl
 rw [hov]
 have hca:=b6E a i X
 have hcb:=b6E b k X
 generalize a1e a i=x at *
 generalize a1e b k=y at *
 refine Z0 Proofs.Tryz.func48 rfl Proofs.Tryz.ntmps48 (by kernel_rfl) rfl ?_
 repeat' (first|refine Zs rfl ?_|refine Zc rfl ?_)
 refine a0m [] [] (by exact rfl) (by kernel_rfl) ?_
 repeat' (refine Zd rfl ?_)
 refine Zq rfl rfl rfl rfl (hca) rfl ?_
 repeat' (refine Zd rfl ?_)
 refine Zq rfl rfl rfl rfl (hcb) rfl ?_
 repeat' (first|refine Zs rfl ?_|refine Zc rfl ?_|refine Zd rfl ?_)
 rcases hx with hx|hx
 ·rw [decide_eq_false (show ¬ 0<=x by omega)]
  repeat' (refine Zs rfl ?_)
  refine a0c ⟨_,rfl,rfl⟩
 rw [decide_eq_true (show 0<=x by omega)]
 repeat' (refine Zs rfl ?_)
 rcases hy with hy|hy
 ·rw [decide_eq_false (show ¬ 0<=y by omega)]
  repeat' (refine Zs rfl ?_)
  refine a0c ⟨_,rfl,rfl⟩
 rw [decide_eq_true (show 0<=y by omega)]
 have e1:IntKind.i64.wrap (y+b.rs)=y+b.rs:=a0p (by omega) (by omega)
 have e2:IntKind.i64.wrap (x+a.rs)=x+a.rs:=a0p (by omega) (by omega)
 repeat' (refine Zs rfl ?_)
 rw [e1]
 by_cases h3:x<y+b.rs
 ·rw [decide_eq_true h3]
  repeat' (refine Zs rfl ?_)
  rw [e2]
  refine a0c ⟨_,rfl,rfl⟩
 rw [decide_eq_false h3]
 repeat' (refine Zs rfl ?_)
 refine a0c ⟨_,rfl,rfl⟩
theorem c6g(l:La)(n:Int):∀X,Pur (E0 X) 59 [laA l,.int .i64 n] (.bool (c5O l n)):=by
 refine Zj ⟨a1u,trivial,trivial⟩ trivial fun X=>?_
 have hc:=c6h l X
 have hm:=b2j (l:=l)
 unfold c5O
 generalize a1f l=f at *
 refine Z0 Proofs.Tryz.func59 rfl Proofs.Tryz.ntmps59 (by kernel_rfl) rfl ?_
 repeat' (first|refine Zs rfl ?_|refine Zc rfl ?_)
 refine Zp rfl rfl (hc) rfl ?_
 cases f with
 | false =>
  repeat' (refine Zs rfl ?_)
  refine a0c ⟨_,rfl,rfl⟩
 | true =>
  repeat' (refine Zs rfl ?_)
  rw [hm rfl]
  refine a0c ⟨_,rfl,rfl⟩
def c1H(l:La)(s:Int):List Int:=if a1f l=true/\0<=s/\s<l.regs then a4s l s l.rs.toNat else []
theorem b1x(l:La)(slot:Int)(X:Nat->Prop):Pur (E0 X) 71 [laA l,.int .i64 slot] (.sl 1 ((c1H l slot).map iA)):=by
 refine ⟨⟨a1u,trivial,trivial⟩,fun Y=>?_⟩
 unfold c1H
 by_cases h:a3M l slot
 ·rw [if_pos (show a1f l=true/\0<=slot/\slot<l.regs from h)];exact a5E Y l slot h
 ·rw [if_neg (show ¬ (a1f l=true/\0<=slot/\slot<l.regs) from h)];exact a9o Y l slot h
theorem c2T{l:La}{s:Int}:(a1e l s=-1/\c1H l s=[])\/(74<=a1e l s/\2<=l.rs/\l.rs<=2048/\a1e l s<=74+32768/\(c1H l s).length=l.rs.toNat/\(c1H l s)[0]?=some (a1e l s)/\(c1H l s)[l.rs.toNat - 1]?=some (a1e l s+l.rs - 1)):=by
 by_cases h:a3M l s
 ·have hr:=a1M h.1
  obtain ⟨_,h1,h2⟩:=a2Z h.1 h.2.1 h.2.2
  have e:a1e l s=74+s*l.rs:=if_pos h
  have e2:c1H l s=a4s l s l.rs.toNat:=if_pos h
  refine .inr ⟨by omega,hr.1,hr.2.1,by omega,by rw [e2,a6l],?_,?_⟩
  ·rw [e2,a6k _ _ (show 0<l.rs.toNat by omega),e];simp
  ·rw [e2,a6k _ _ (show l.rs.toNat - 1<l.rs.toNat by omega),e]
   congr 1;omega
 ·exact .inl ⟨if_neg h,if_neg h⟩
theorem b5k(a:La)(i:Int)(b:La)(k:Int):∀X,Pur (E0 X) 23 [laA a,.int .i64 i,laA b,.int .i64 k] (.bool (ovB a i b k)):=by
 refine Zj ⟨a1u,trivial,a1u,trivial,trivial⟩ trivial fun X=>?_
 have hx:=c2T (l:=a) (s:=i)
 have hy:=c2T (l:=b) (s:=k)
 have hov:ovB a i b k=(decide (0<=a1e a i)&&(decide (0<=a1e b k)&&(decide (a1e a i<a1e b k+b.rs)&&decide (a1e b k<a1e a i+a.rs)))):=rfl
 rw [hov]
 have hca:=b1x a i X
 have hcb:=b1x b k X
 generalize a1e a i=x at *
 generalize a1e b k=y at *
 generalize c1H a i=u at *
 generalize c1H b k=v at *
 refine Z0 Proofs.Tryz.func23 rfl Proofs.Tryz.ntmps23 (by kernel_rfl) rfl ?_
 repeat' (first|refine Zs rfl ?_|refine Zc rfl ?_)
 refine a0m [] [] (by exact rfl) (by kernel_rfl) ?_
 repeat' (refine Zd rfl ?_)
 refine Zq rfl rfl rfl rfl (hca) rfl ?_
 repeat' (refine Zd rfl ?_)
 refine Zq rfl rfl rfl rfl (hcb) rfl ?_
 repeat' (first|refine Zs rfl ?_|refine Zc rfl ?_|refine Zd rfl ?_)
 rw [List.length_map]
 rcases hx with ⟨hx,rfl⟩|⟨x1,x2,x3,x4,x5,x6,x7⟩
 ·rw [decide_eq_true (show (([]:List Int).length:Int)=0 from rfl),decide_eq_false (show ¬ 0<=x by omega)]
  repeat' (first|refine Zs rfl ?_|refine Zc rfl ?_)
  refine a0c ⟨_,rfl,rfl⟩
 rw [decide_eq_false (show ¬ (u.length:Int)=0 by omega),decide_eq_true (show 0<=x by omega)]
 repeat' (refine Zs rfl ?_)
 rw [List.length_map]
 rcases hy with ⟨hy,rfl⟩|⟨y1,y2,y3,y4,y5,y6,y7⟩
 ·rw [decide_eq_true (show (([]:List Int).length:Int)=0 from rfl),decide_eq_false (show ¬ 0<=y by omega)]
  repeat' (first|refine Zs rfl ?_|refine Zc rfl ?_)
  refine a0c ⟨_,rfl,rfl⟩
 rw [decide_eq_false (show ¬ (v.length:Int)=0 by omega),decide_eq_true (show 0<=y by omega)]
 repeat' (refine Zc rfl ?_)
 refine a0m [] [] (by exact rfl) (by kernel_rfl) ?_
 have hu1:u[u.length - 1]?=some (x+a.rs - 1):=by rw [x5];exact x7
 have hv1:v[v.length - 1]?=some (y+b.rs - 1):=by rw [y5];exact y7
 have e1:IntKind.i64.wrap ((v.length:Int) - 1)=((v.length - 1:Nat):Int):=a0u (by omega) (by omega) (by omega)
 have e2:IntKind.i64.wrap ((u.length:Int) - 1)=((u.length - 1:Nat):Int):=a0u (by omega) (by omega) (by omega)
 repeat' (refine Zd rfl ?_)
 apply ds rfl rfl rfl rfl
 ·refine a0y x6 rfl rfl rfl rfl rfl rfl rfl (by first|rfl|omega) rfl ?_
  exact nx rfl rfl ⟨rfl,rfl⟩
 repeat' (refine Zd rfl ?_)
 rw [List.length_map,e1]
 apply ds rfl rfl rfl rfl
 ·refine a0y hv1 rfl rfl rfl rfl rfl rfl rfl (by first|rfl|omega) rfl ?_
  exact nx rfl rfl ⟨rfl,rfl⟩
 repeat' (refine Zd rfl ?_)
 by_cases h3:x<y+b.rs
 ·rw [decide_eq_true (show x<=y+b.rs - 1 by omega),decide_eq_true h3]
  repeat' (refine Zd rfl ?_)
  apply ds rfl rfl rfl rfl
  ·refine a0y y6 rfl rfl rfl rfl rfl rfl rfl (by first|rfl|omega) rfl ?_
   exact nx rfl rfl ⟨rfl,rfl⟩
  repeat' (refine Zd rfl ?_)
  rw [List.length_map,e2]
  apply ds rfl rfl rfl rfl
  ·refine a0y hu1 rfl rfl rfl rfl rfl rfl rfl (by first|rfl|omega) rfl ?_
   exact nx rfl rfl ⟨rfl,rfl⟩
  repeat' (first|refine Zd rfl ?_|refine Zk ?_)
  refine a0c ⟨_,rfl,?_⟩
  by_cases h4:y<x+a.rs
  ·rw [decide_eq_true h4,decide_eq_true (show y<=x+a.rs - 1 by omega)];rfl
  ·rw [decide_eq_false h4,decide_eq_false (show ¬ y<=x+a.rs - 1 by omega)];rfl
 rw [decide_eq_false (show ¬ x<=y+b.rs - 1 by omega),decide_eq_false h3]
 repeat' (first|refine Zd rfl ?_|refine Zk ?_)
 refine a0c ⟨_,rfl,rfl⟩
def c0c(x y:Int):Int:=if x<y then -1 else if y<x then 1 else 0
def orI(x y z:Int):Int:=if x≠0 then x else if y≠0 then y else z
def c0d(a b:Rg):Int:=orI (c0c b.h.seq a.h.seq) (c0c b.l.id a.l.id) (c0c b.h.slot a.h.slot)
def a5s(a b:Rg):Bool:=if a.h.seq≠b.h.seq then decide (b.h.seq<a.h.seq) else if a.l.id≠b.l.id then decide (b.l.id<a.l.id) else decide (b.h.slot<a.h.slot)
theorem c0e(a b:Rg):decide (c0d a b<0)=a5s a b:=by
 unfold c0d orI c0c a5s
 by_cases h1:b.h.seq<a.h.seq
 ·rw [if_pos h1,if_pos (by decide),if_pos (by omega),decide_eq_true h1];rfl
 rw [if_neg h1]
 by_cases h2:a.h.seq<b.h.seq
 ·rw [if_pos h2,if_pos (by decide),if_pos (by omega),decide_eq_false h1];rfl
 rw [if_neg h2,if_neg (by simp),if_neg (show ¬ a.h.seq≠b.h.seq by omega)]
 by_cases h3:b.l.id<a.l.id
 ·rw [if_pos h3,if_pos (by decide),if_pos (by omega),decide_eq_true h3];rfl
 rw [if_neg h3]
 by_cases h4:a.l.id<b.l.id
 ·rw [if_pos h4,if_pos (by decide),if_pos (by omega),decide_eq_false h3];rfl
 rw [if_neg h4,if_neg (by simp),if_neg (show ¬ a.l.id≠b.l.id by omega)]
 by_cases h5:b.h.slot<a.h.slot
 ·rw [if_pos h5,decide_eq_true h5];rfl
 rw [if_neg h5,decide_eq_false h5]
 by_cases h6:a.h.slot<b.h.slot
 ·rw [if_pos h6];rfl
 ·rw [if_neg h6];rfl
noncomputable def E9:Env:={ P:=Proofs.Tryz.prog,ti:=tiT,n:=334,G:=fun _=>.any,X:=fun _=>False }
theorem c8u:E9.Ok:=⟨mixed,c7N,fun _=>trivial⟩
theorem ZE{k:FuncId}{xs:List AV}{r:AV}(ha:a0e 0 xs)(h:∀X,a0b (E9.wX X) k xs [] fun r' H'=>r'=r/\H'=[]):Pur E9 k xs r:=⟨ha,h⟩
theorem b7g(n:Int):Pur E9 193 [.int .i64 n] (.bool false):=by
 refine ZE ⟨trivial,trivial⟩ fun X=>?_
 refine a0b.cut0 ?_ trivial
 refine Z0 Proofs.Tryz.func193 rfl Proofs.Tryz.ntmps193 (by kernel_rfl) rfl ?_
 repeat' (first|refine Zs rfl ?_|refine Zc rfl ?_)
 rw [decide_eq_false (fun h=>h rfl:¬ n≠n)]
 refine a0c ⟨_,rfl,rfl⟩
theorem a7T(x y:Int):Pur E9 160 [.int .i64 x,.int .i64 y] (.int .i64 (c0c x y)):=by
 refine ZE ⟨trivial,trivial,trivial⟩ fun X=>?_
 refine a0b.cut0 ?_ trivial
 have he:c0c x y=if x<y then -1 else if y<x then 1 else 0:=rfl
 rw [he]
 refine Z0 Proofs.Tryz.func160 rfl Proofs.Tryz.ntmps160 (by kernel_rfl) rfl ?_
 repeat' (first|refine Zs rfl ?_|refine Zc rfl ?_)
 refine Zp rfl rfl (b7g x) rfl ?_
 repeat' (first|refine Zs rfl ?_|refine Zc rfl ?_)
 refine Zp rfl rfl (b7g y) rfl ?_
 repeat' (first|refine Zs rfl ?_|refine Zc rfl ?_)
 by_cases h1:x<y
 ·rw [decide_eq_true h1,if_pos h1]
  repeat' (first|refine Zs rfl ?_|refine Zc rfl ?_)
  refine a0c ⟨_,rfl,rfl⟩
 rw [decide_eq_false h1,if_neg h1]
 repeat' (first|refine Zs rfl ?_|refine Zc rfl ?_)
 by_cases h2:y<x
 ·rw [decide_eq_true h2,if_pos h2]
  repeat' (first|refine Zs rfl ?_|refine Zc rfl ?_)
  refine a0c ⟨_,rfl,rfl⟩
 rw [decide_eq_false h2,if_neg h2]
 repeat' (first|refine Zs rfl ?_|refine Zc rfl ?_)
 refine a0c ⟨_,rfl,rfl⟩
def orL:List Int->Int
 | []=>0
 | x::r=>if x≠0 then x else orL r
theorem c0R{l:List Int}{i:Nat}{x:Int}(h:l[i]?=some x):orL (l.drop i)=if x≠0 then x else orL (l.drop (i+1)):=by
 obtain ⟨hi,rfl⟩:=List.getElem?_eq_some_iff.1 h
 rw [List.drop_eq_getElem_cons hi];rfl
theorem c9u(X:Nat->Prop)(l:List Int)(hl:l.length<=1000):a0b (E9.wX X) 159 [.sl 1 (l.map iA)] [] fun r H'=>r=.int .i64 (orL l)/\H'=[]:=by
 refine a0b.cut0 ?_ trivial
 refine Z0 Proofs.Tryz.func159 rfl Proofs.Tryz.ntmps159 (by kernel_rfl) rfl ?_
 repeat' (first|refine Zs rfl ?_|refine Zc rfl ?_)
 refine a0q (fun i:Nat=>⟨[(3,.int .i64 0),(6,.sl 1 (l.map iA)),(7,.int .i64 (l.length:Int)),(8,.int .i64 (i:Int))],[]⟩) (fun i=>i<=l.length/\orL (l.drop i)=orL l) (fun i=>l.length - i) 0 ⟨Nat.zero_le _,rfl⟩ ?_ ?_
 ·refine a0i 0 (Nat.zero_le _) (fun j o ho=>by cases ho) rfl (Nat.le_refl 0) ?_
  exact a0a ⟨rfl,trivial⟩ (a0a ⟨rfl,a5e l⟩ (a0a ⟨by rw [List.length_map];rfl,trivial⟩ (a0a ⟨rfl,trivial⟩ a0k)))
 rintro i ⟨hi,ho⟩
 repeat' (first|refine Zs rfl ?_|refine Zc rfl ?_)
 refine a0d rfl (fun h1=>?_) (fun h1=>?_)
 ·have hil:i<l.length:=by omega
  obtain ⟨x,hx⟩:∃x,l[i]?=some x:=⟨_,List.getElem?_eq_getElem hil⟩
  rw [c0R hx] at ho
  repeat' (refine Zc rfl ?_)
  refine Qa rfl ?_
  refine a0y hx rfl rfl rfl rfl rfl rfl rfl (by first|rfl|omega) rfl ?_
  refine nx rfl rfl ?_
  repeat' (first|refine Zs rfl ?_|refine Zc rfl ?_)
  by_cases h2:x≠0
  ·rw [decide_eq_true h2]
   rw [if_pos h2] at ho
   repeat' (first|refine Zs rfl ?_|refine Zc rfl ?_)
   refine a0c ⟨_,rfl,?_⟩
   exact congrArg (AV.int .i64) ho
  rw [decide_eq_false h2]
  rw [if_neg h2] at ho
  repeat' (first|refine Zs rfl ?_|refine Zc rfl ?_)
  refine ⟨i+1,⟨by omega,ho⟩,by omega,?_⟩
  rw [show IntKind.i64.wrap ((i:Int)+1)=((i+1:Nat):Int) from a0p (by omega) (by omega)]
  exact kk 0 (fun j o ho=>by cases ho) rfl ⟨trivial,a5e l,trivial,trivial,trivial⟩
 have hii:i=l.length:=by omega
 rw [hii,List.drop_length] at ho
 repeat' (first|refine Zs rfl ?_|refine Zc rfl ?_)
 refine a0c ⟨_,rfl,?_⟩
 exact congrArg (AV.int .i64) ho
theorem c9v(l:List Int)(hl:l.length<=1000):Pur E9 159 [.sl 1 (l.map iA)] (.int .i64 (orL l)):=ZE ⟨a5e _,trivial⟩ fun X=>c9u X l hl
theorem b9u(a b:Rg):a0b E9 115 [rgA a,rgA b] [] fun r _=>r=.int .i64 (c0d a b):=by
 refine Z0 Proofs.Tryz.func115 rfl Proofs.Tryz.ntmps115 (by kernel_rfl) rfl ?_
 repeat' (first|refine Zs rfl ?_|refine Zh ?_|refine Ql ?_|refine Qo rfl ?_)
 refine a0m [] [] (by exact rfl) (by kernel_rfl) ?_
 repeat' (refine Zd rfl ?_)
 refine Zq rfl rfl rfl rfl (a7T b.h.seq a.h.seq) rfl ?_
 repeat' (refine Zd rfl ?_)
 refine Zq rfl rfl rfl rfl (a7T b.l.id a.l.id) rfl ?_
 repeat' (refine Zd rfl ?_)
 refine Zq rfl rfl rfl rfl (a7T b.h.slot a.h.slot) rfl ?_
 repeat' (refine Zd rfl ?_)
 refine Zq rfl rfl rfl rfl (c9v [c0c b.h.seq a.h.seq,c0c b.l.id a.l.id,c0c b.h.slot a.h.slot] (by simp)) rfl ?_
 repeat' (first|refine Zd rfl ?_|refine Zk ?_)
 refine a0c ⟨_,rfl,?_⟩
 refine congrArg (AV.int .i64) ?_
 have hz:∀z:Int,(if z≠0 then z else 0)=z:=fun z=>by split<;>omega
 unfold orL orL orL orL c0d orI
 rw [hz]
open Go.Proofs Go.Maps Go.Sort Go.Shelf Go.RowKit
def iV(n:Int):Value:=.int .i64 n
def rgV(r:Rg):List Value:=[iV r.h.ver,iV r.h.slot,iV r.h.lay,iV r.h.seq,iV r.h.tail,iV r.h.now,iV r.l.id,iV r.l.ver,iV r.l.rs,iV r.l.regs]
def rgW(r:Rg):Value:=.agg (rgV r).toArray
instance:Inhabited Rg:=⟨⟨⟨0,0,0,0,0,0⟩,⟨0,0,0,0⟩⟩⟩
theorem b4p{cx:Cx}{m:Mu}{w:World}{r:Rg}{v:Value}:Rel cx m w (rgA r) v ↔ v=rgW r:=by
 constructor
 ·intro h
  simp only [rgA,rgL,hdL,laL,List.cons_append,List.nil_append,Abs.Rel] at h
  obtain ⟨vs,rfl,h⟩:=h
  obtain ⟨v1,r1,rfl,e1,h⟩:=a0l.1 h
  obtain ⟨v2,r2,rfl,e2,h⟩:=a0l.1 h
  obtain ⟨v3,r3,rfl,e3,h⟩:=a0l.1 h
  obtain ⟨v4,r4,rfl,e4,h⟩:=a0l.1 h
  obtain ⟨v5,r5,rfl,e5,h⟩:=a0l.1 h
  obtain ⟨v6,r6,rfl,e6,h⟩:=a0l.1 h
  obtain ⟨v7,r7,rfl,e7,h⟩:=a0l.1 h
  obtain ⟨v8,r8,rfl,e8,h⟩:=a0l.1 h
  obtain ⟨v9,r9,rfl,e9,h⟩:=a0l.1 h
  obtain ⟨va,ra,rfl,ea,h⟩:=a0l.1 h
  rw [a0W] at h
  subst h
  simp only [Abs.Rel] at e1 e2 e3 e4 e5 e6 e7 e8 e9 ea
  subst e1 e2 e3 e4 e5 e6 e7 e8 e9 ea
  rfl
 rintro rfl
 simp only [rgA,rgL,hdL,laL,List.cons_append,List.nil_append,Abs.Rel]
 exact ⟨rgV r,rfl,by simp [rgV,iV,Abs.RelL,Abs.Rel]⟩
theorem b0m{cx:Cx}{m:Mu}{w:World}:∀{rs:List Rg} {vs:List Value},RelL cx m w (rs.map rgA) vs ↔ vs=rs.map rgW
 | [],vs=>by simp [a0W]
 | r::rs,vs=>by
  rw [List.map_cons,a0l]
  constructor
  ·rintro ⟨v,t,rfl,h1,h2⟩
   rw [b4p.1 h1,b0m.1 h2];rfl
  ·rintro rfl
   exact ⟨_,_,rfl,b4p.2 rfl,b0m.2 rfl⟩
theorem b3F(rs:List Rg):flat (rs.map rgW)=rs.flatMap rgV:=by
 induction rs with
 | nil=>rfl
 | cons r rs ih =>
  rw [List.map_cons,List.flatMap_cons,<- ih]
  rfl
theorem a8b{α β:Type}{enc:α->List β}{k:Nat}(hk:∀x,(enc x).length=k)(hk0:0<k):∀(l:List α) (t:Nat),(l.flatMap enc)[t]?=(l[t / k]?).bind fun x=>(enc x)[t%k]?
 | [],t=>by simp
 | x::l,t=>by
  rw [List.flatMap_cons]
  rcases Nat.lt_or_ge t k with h|h
  ·rw [List.getElem?_append_left (by rw [hk];exact h),Nat.div_eq_of_lt h,Nat.mod_eq_of_lt h];rfl
  rw [List.getElem?_append_right (by rw [hk];exact h),hk,a8b hk hk0 l (t - k)]
  have e1:t / k=(t - k) / k+1:=by
   have h2:t - k+k=t:=by omega
   have h3:=Nat.add_div_right (t - k) hk0
   rw [h2] at h3
   exact h3
  have e2:(t - k)%k=t%k:=(Nat.mod_eq_sub_mod h).symm
  rw [e1,e2];rfl
theorem a8c{α β:Type}{enc:α->List β}{k:Nat}(hk:∀x,(enc x).length=k)(l:List α):(l.flatMap enc).length=l.length*k:=by
 induction l with
 | nil=>simp
 | cons x l ih=>rw [List.flatMap_cons,List.length_append,ih,hk,List.length_cons,Nat.add_mul,Nat.one_mul,Nat.add_comm]
theorem a8Z{α:Type}[Inhabited α]{enc:α->List Value}{k:Nat}(hk:∀x,(enc x).length=k)(hk0:0<k)(l:List α):(flatK enc k l.toArray).toList=l.flatMap enc:=by
 apply List.ext_getElem?
 intro t
 rw [a8b hk hk0]
 rcases Nat.lt_or_ge t (l.length*k) with h|h
 ·have hd:t / k<l.length:=Nat.div_lt_of_lt_mul (by rw [Nat.mul_comm];exact h)
  have hm:t%k<k:=Nat.mod_lt _ hk0
  have hs:t<(flatK enc k l.toArray).size:=by simpa using h
  have h1:=get_flatK enc k l.toArray t (by simpa using h)
  rw [getElem!_pos _ t hs] at h1
  rw [Array.getElem?_toList,Array.getElem?_eq_getElem hs,h1,List.getElem?_eq_getElem hd]
  have h2:l.toArray[t / k]! = l[t / k]:=by simp [hd]
  rw [h2]
  have h3:t%k<(enc l[t / k]).length:=by rw [hk];exact hm
  show _=(enc l[t / k])[t%k]?
  rw [List.getElem?_eq_getElem h3,getElem!_pos (enc l[t / k]) (t%k) h3]
 have h4:l.length<=t / k:=(Nat.le_div_iff_mul_le hk0).2 h
 rw [List.getElem?_eq_none h4]
 rw [Array.getElem?_toList,Array.getElem?_eq_none (by simpa using h)];rfl
theorem b0Y{m':Mu}{w w':World}(h:Ext [] w m' w')(hd:w.drawn<=w'.drawn):∃q os,w'=grow (w.drewN q) os:=by
 refine ⟨w'.drawn - w.drawn,w'.heap.extract w.heap.size w'.heap.size,?_⟩
 have hh:w'.heap=w.heap++w'.heap.extract w.heap.size w'.heap.size:=by
  apply Array.ext_getElem?
  intro i
  have hs:=h.size
  rcases Nat.lt_or_ge i w.heap.size with hi|hi
  ·rw [Array.getElem?_append_left hi]
   exact h.keep i hi (by simp)
  rw [Array.getElem?_append_right hi,Array.getElem?_extract]
  rw [Nat.min_self]
  rcases Nat.lt_or_ge i w'.heap.size with hi2|hi2
  ·rw [if_pos (by omega)];congr 1;omega
  ·rw [if_neg (by omega),Array.getElem?_eq_none hi2]
 have e1:=h.os
 have e2:=h.tape
 have e3:=h.output
 cases w;cases w'
 simp only at *
 subst e1 e2 e3
 unfold grow World.drewN
 simp only [World.mk.injEq,true_and,and_true]
 exact ⟨hh,by omega⟩
theorem b3j(x y:Rg)(w:World):Go.Calls Proofs.Tryz.prog 115 #[rgW x,rgW y] w fun e w'=>e=.returned (.int .i64 (c0d x y))/\∃q os,w'=grow (w.drewN q) os:=by
 have hsim0:E9.Sim [] w []:=⟨rfl,fun _ _ h=>by simp at h,fun _ h=>by simp at h,fun _ _ _ h=>by simp at h,fun b hb=>hb.elim,fun b hb=>absurd hb (by simp)⟩
 have h:=(b9u x y).2 [] w [rgW x,rgW y] c8u (fun g=>by show Abs.Rel _ _ _ .any _;simp [Abs.Rel]) (RelL.cons (b4p.2 rfl) (RelL.cons (b4p.2 rfl) (a0W.2 rfl))) hsim0
 refine Go.Calls.mono (Calls.drawn h) ?_
 rintro e w' ⟨⟨v,m',r,H',rfl,hext,hr,_,rfl⟩,hd⟩
 simp only [Abs.Rel] at hr
 subst hr
 exact ⟨rfl,b0Y hext (hd (by simp))⟩
theorem a9w(a b:Rg):ltOf c0d a b=a5s a b:=c0e a b
theorem a3z(a b:Rg):a5s a b=true ↔ b.h.seq<a.h.seq\/(a.h.seq=b.h.seq/\(b.l.id<a.l.id\/(a.l.id=b.l.id/\b.h.slot<a.h.slot))):=by
 unfold a5s
 by_cases h1:a.h.seq=b.h.seq
 ·rw [if_neg (fun h=>h h1)]
  by_cases h2:a.l.id=b.l.id
  ·rw [if_neg (fun h=>h h2),decide_eq_true_eq];omega
  ·rw [if_pos h2,decide_eq_true_eq];omega
 ·rw [if_pos h1,decide_eq_true_eq];omega
theorem c8V:SWO (ltOf c0d):=by
 refine ⟨fun x=>?_,fun x y z h1 h2=>?_,fun x y z h1 h2=>?_⟩
 ·rw [a9w,Bool.eq_false_iff,ne_eq,a3z];omega
 ·rw [a9w,a3z] at *;omega
 ·rw [a9w,Bool.eq_false_iff,ne_eq,a3z] at *;omega
def a6N(rs s:List Rg):Prop:=s.Perm rs/\∀i j (hi:i<s.length) (hj:j<s.length),i<j->a5s s[j] s[i]=false
theorem b8S:a6N [] []:=⟨.refl _,fun i j hi=>absurd hi (Nat.not_lt_zero i)⟩
theorem a8x(r:Rg):(rgV r).length=10:=rfl
theorem c4M(r:Rg):∀v∈rgV r,v.oneCell'=true:=by
 intro v hv
 simp only [rgV,List.mem_cons,List.not_mem_nil,or_false] at hv
 rcases hv with rfl|rfl|rfl|rfl|rfl|rfl|rfl|rfl|rfl|rfl<;>rfl
theorem c1x(X:Nat->Prop)(H:Hp)(id:Nat)(rs:List Rg)(ho:H[id]?=some (some (.arr (rs.map rgA) 63)))(hlen:rs.length<=1000000) :
  a0b (E0 X) 157 [.own id 0 rs.length,.clo (.func 115) [] []] H (fun r H'=>r=.tup []/\∃s,a6N rs s/\H'=H.set id (some (.arr (s.map rgA) 63))):=by
 refine ⟨⟨Proofs.Tryz.f157,Proofs.Tryz.func157,rfl,by kernel_rfl⟩,fun m w vs hok hglob hargs hsim=>?_⟩
 obtain ⟨v,r,rfl,h1,h2⟩:=a0l.1 hargs
 obtain ⟨v2,r2,rfl,h3,h4⟩:=a0l.1 h2
 rw [a0W] at h4;subst h4
 simp only [Abs.Rel] at h1 h3
 obtain ⟨A,c,rfl,h5,h6,h7,h8,h9⟩:=h1
 obtain ⟨us0,ws0,rfl,h10,h11⟩:=h3
 rw [a0W] at h10 h11;subst h10 h11
 obtain ⟨x,hx,hob⟩:=hsim.live id _ ho
 cases x with
 | dead=>exact hob.elim
 | nil =>
  have hrs:rs=[]:=by
   have:rs.map rgA=[]:=hob
   simpa using this
  subst hrs
  obtain ⟨rfl,rfl⟩:=h8 hx
  have hc:=AnyF.slices_SortFunc_none (P:=Proofs.Tryz.prog) (ρ:=Proofs.Tryz.rsortL_ren) { Proofs.Tryz.rsortL with } none 0 (.func (.func 115) #[] #[]) w
  refine Go.Calls.mono hc ?_
  rintro e w' ⟨rfl,rfl⟩
  exact ⟨_,m,.tup [],_,rfl,Ext.refl _ _,by simp [Abs.Rel,Abs.RelL],hsim,rfl,[],b8S,(a7G ho).symm⟩
 | blk b =>
  obtain ⟨us,ws,hb,hr,hsz,htk⟩:=hob
  have hws:ws=rs.map rgW:=b0m.1 hr
  subst hws
  rw [b3F,a8c a8x] at htk
  have hbl:b<w.heap.size:=(Array.getElem?_eq_some_iff.1 hb).1
  have hul:rs.length*10<=us.size:=by
   have:=congrArg List.length htk
   simp only [List.length_take,a8c a8x,Array.length_toList] at this
   omega
  have hA:A=some ⟨b,0,none⟩:=by
   obtain ⟨e',k,_,_,h12⟩:=h9 b hx
   have:=h12 (.inr rfl)
   simpa using this
  subst hA
  have hfl:=a8Z a8x (by decide) rs
  have hH:HoldsK rgV 10 w b 0 rs.toArray:=fun j hj=>by
   have hj2:j<rs.length*10:=by simpa using hj
   refine ⟨?_,by simp [World.frozen?,hb]⟩
   simp only [World.cell?,hb,Nat.zero_add,_root_.id]
   have h12:=congrArg (fun l:List Value=>l[j]?) htk
   simp only [List.getElem?_take,hj2,if_true,Array.getElem?_toList] at h12
   rw [<- hfl,Array.getElem?_toList,Array.getElem?_eq_getElem hj] at h12
   rw [getElem!_pos _ j hj]
   simpa using h12
  have hcmp:CmpLays Proofs.Tryz.prog 115 #[] rgV 10 c0d b 0 rs.toArray.size w:=fun m os dk _ x y=>b3j x y _
  have hc:=AnyQ.slices_SortFunc (P:=Proofs.Tryz.prog) (ρ:=Proofs.Tryz.rsortL_ren) Proofs.Tryz.rsortL 10 Proofs.Tryz.isAgg63 Proofs.Tryz.sizeOf63 rgV a8x c4M c0d c8V 115 #[] b 0 c rs.toArray w (enters_of Proofs.Tryz.func115 (by kernel_rfl) rfl) hcmp hH hbl (by simp;omega)
  refine Go.Calls.mono hc ?_
  rintro e w' ⟨rfl,d,n,os,hp,hst,rfl⟩
  obtain ⟨s,rfl⟩:∃s:List Rg,d=s.toArray:=⟨d.toList,by simp⟩
  have hsl:s.length=rs.length:=by simpa using hp.1
  have hsr:a6N rs s:=by
   refine ⟨?_,fun i j hi hj hij=>?_⟩
   ·have h12:=hp.2.2
    simp only [List.size_toArray,List.extract_toArray,Nat.sub_zero] at h12
    rw [List.extract_eq_take_drop,List.extract_eq_take_drop,List.drop_zero,List.drop_zero,Nat.sub_zero,List.take_of_length_le (by omega),List.take_of_length_le (Nat.le_refl _)] at h12
    exact h12
   have h12:=hst i j (Nat.zero_le _) hij (by simpa [<- hsl] using hj)
   rw [a9w,getElem!_pos s.toArray j (by simpa using hj),getElem!_pos s.toArray i (by simpa using hi)] at h12
   simpa using h12
  have hfs:=a8Z a8x (by decide) s
  have hw:sortWorldK rgV 10 w b 0 n s.toArray os=sortWorld _root_.id w b 0 n (flatK rgV 10 s.toArray) os:=rfl
  obtain ⟨r1,r2,r3⟩:=a9m (enc:=_root_.id) (n:=n) (d:=flatK rgV 10 s.toArray) (os:=os) hb (by simp [hsl];exact hul)
  rw [<- hw] at r1 r2 r3
  obtain ⟨g1,g2⟩:=a9h (w':=sortWorldK rgV 10 w b 0 n s.toArray os) (ao:=.arr (s.map rgA) 63) hsim hx rfl rfl rfl r3 r2 (fun q hq=>by
   unfold World.shape? at hq ⊢
   rw [hb] at hq
   rw [r1]
   simpa [putCells] using hq) (fun he=>⟨_,s.map rgW,r1,b0m.2 rfl,fun u hu=>by
    obtain ⟨q,hq,rfl⟩:=List.mem_map.1 hu
    exact hsz _ (List.mem_map.2 ⟨q,hsr.1.mem_iff.1 hq,rfl⟩),by
    rw [b3F,<- hfs,Array.length_toList]
    have:=a6e _root_.id (flatK rgV 10 s.toArray) us (by simp [hsl];exact hul)
    simpa using this⟩)
  exact ⟨_,m,.tup [],_,rfl,g1,by simp [Abs.Rel,Abs.RelL],g2,rfl,s,hsr,rfl⟩
def a2S(r x:Rg):Bool:=decide (x.h.seq=r.h.seq) || ovB x.l x.h.slot r.l r.h.slot
def b6Z{α:Type}(p:α->Bool):List α->Nat->Int
 | [],_=>-1
 | x::l,i=>if p x=true then (i:Int) else b6Z p l (i+1)
theorem b1a{α:Type}{p:α->Bool}{l:List α}{i:Nat}{x:α}(h:l[i]?=some x):b6Z p (l.drop i) i=if p x=true then (i:Int) else b6Z p (l.drop (i+1)) (i+1):=by
 obtain ⟨hi,rfl⟩:=List.getElem?_eq_some_iff.1 h
 rw [List.drop_eq_getElem_cons hi];rfl
theorem a9Q{α:Type}{p:α->Bool}:∀(l:List α) (i:Nat),decide (b6Z p l i >= 0)=l.any p
 | [],_=>rfl
 | x::l,i=>by
  rw [List.any_cons]
  unfold b6Z
  cases h:p x with
  | true=>rw [if_pos rfl,Bool.true_or,decide_eq_true (by omega)]
  | false=>rw [if_neg (by decide),Bool.false_or];exact a9Q l (i+1)
theorem c3t(r x:Rg):∀X,Pur (E0 X) 117 [rgA x,.fp (rgL r)] (.bool (a2S r x)):=by
 refine Zj ⟨b0p,a2A r,trivial⟩ trivial fun X=>?_
 unfold a2S
 refine Z0 Proofs.Tryz.func117 rfl Proofs.Tryz.ntmps117 (by kernel_rfl) rfl ?_
 repeat' (first|refine Zs rfl ?_|refine Zc rfl ?_)
 by_cases h:x.h.seq=r.h.seq
 ·rw [decide_eq_true h]
  repeat' (refine Zs rfl ?_)
  refine a0c ⟨_,rfl,rfl⟩
 rw [decide_eq_false h]
 repeat' (refine Zs rfl ?_)
 refine Zp rfl rfl (b7C x.l x.h.slot r.l r.h.slot X) rfl ?_
 repeat' (refine Zs rfl ?_)
 refine a0c ⟨_,rfl,rfl⟩
theorem c1o(l:List Rg)(r:Rg)(hl:l.length<=1000000):∀X,Pur (E0 X) 161 [.sl 10 (l.map rgA),.clo (.func 117) [] [.fp (rgL r)]] (.int .i64 (b6Z (a2S r) l 0)):=by
 refine Zj ⟨a0Y l,⟨trivial,a2A r,trivial⟩,trivial⟩ trivial fun X=>?_
 refine Z0 Proofs.Tryz.func161 rfl Proofs.Tryz.ntmps161 (by kernel_rfl) rfl ?_
 repeat' (first|refine Zs rfl ?_|refine Zc rfl ?_)
 have hfi:∀{n},a0g n (.clo (.func 117) [] [.fp (rgL r)]):=fun {n}=>⟨trivial,a2A r,trivial⟩
 refine a0q (fun i:Nat=>⟨[(0,.sl 10 (l.map rgA)),(1,.clo (.func 117) [] [.fp (rgL r)]),(7,.int .i64 (l.length:Int)),(8,.int .i64 (i:Int))],[]⟩) (fun i=>i<=l.length/\b6Z (a2S r) (l.drop i) i=b6Z (a2S r) l 0) (fun i=>l.length - i) 0 ⟨Nat.zero_le _,rfl⟩ ?_ ?_
 ·refine a0i 0 (Nat.zero_le _) (fun j o ho=>by cases ho) rfl (Nat.le_refl 0) ?_
  exact a0a ⟨rfl,a0Y l⟩ (a0a ⟨rfl,hfi⟩ (a0a ⟨by rw [List.length_map];rfl,trivial⟩ (a0a ⟨rfl,trivial⟩ a0k)))
 rintro i ⟨hi,ho⟩
 repeat' (first|refine Zs rfl ?_|refine Zc rfl ?_)
 refine a0d rfl (fun h1=>?_) (fun h1=>?_)
 ·have hil:i<l.length:=by omega
  obtain ⟨x,hx⟩:∃x,l[i]?=some x:=⟨_,List.getElem?_eq_getElem hil⟩
  rw [b1a hx] at ho
  repeat' (first|refine Zs rfl ?_|refine Zc rfl ?_)
  refine Qa rfl ?_
  refine a0y hx rfl rfl rfl rfl rfl rfl rfl (by first|rfl|omega) rfl ?_
  refine nx rfl rfl ?_
  repeat' (refine Zs rfl ?_)
  refine Zp rfl rfl (c3t r x X) rfl ?_
  cases hc:a2S r x with
  | true =>
   rw [hc,if_pos rfl] at ho
   repeat' (first|refine Zs rfl ?_|refine Zc rfl ?_)
   refine a0c ⟨_,rfl,?_⟩
   exact congrArg (AV.int .i64) ho
  | false =>
   rw [hc,if_neg (by decide)] at ho
   repeat' (first|refine Zs rfl ?_|refine Zc rfl ?_)
   refine ⟨i+1,⟨by omega,ho⟩,by omega,?_⟩
   rw [show IntKind.i64.wrap ((i:Int)+1)=((i+1:Nat):Int) from a0p (by omega) (by omega)]
   exact kk 0 (fun j o ho=>by cases ho) rfl ⟨a0Y l,hfi,trivial,trivial,trivial⟩
 have hii:i=l.length:=by omega
 rw [hii,List.drop_length] at ho
 repeat' (first|refine Zs rfl ?_|refine Zc rfl ?_)
 refine a0c ⟨_,rfl,?_⟩
 exact congrArg (AV.int .i64) ho
theorem b2H(l:List Rg)(r:Rg)(hl:l.length<=1000000):∀X,Pur (E0 X) 116 [.sl 10 (l.map rgA),.clo (.func 117) [] [.fp (rgL r)]] (.bool (l.any (a2S r))):=by
 refine Zj ⟨a0Y l,⟨trivial,a2A r,trivial⟩,trivial⟩ trivial fun X=>?_
 refine Z0 Proofs.Tryz.func116 rfl Proofs.Tryz.ntmps116 (by kernel_rfl) rfl ?_
 repeat' (first|refine Zs rfl ?_|refine Zc rfl ?_)
 refine Zp rfl rfl (c1o l r hl X) rfl ?_
 repeat' (refine Zs rfl ?_)
 rw [a9Q]
 refine a0c ⟨_,rfl,rfl⟩
theorem b5L{l:List Rg}{i:Nat}(hi:i<l.length):∃p,l[i]?=some p/\l[i]=p/\(l.map rgA)[i]?=some (.agg [.int .i64 p.h.ver,.int .i64 p.h.slot,.int .i64 p.h.lay,.int .i64 p.h.seq,.int .i64 p.h.tail,.int .i64 p.h.now,.int .i64 p.l.id,.int .i64 p.l.ver,.int .i64 p.l.rs,.int .i64 p.l.regs]) :=
 ⟨l[i],List.getElem?_eq_getElem hi,rfl,by rw [List.getElem?_map,List.getElem?_eq_getElem hi];rfl⟩
def b9w(l c:List Rg)(k:Nat):Prop:=c.length=l.length/\∀t (h:t<l.length) (h2:t<c.length),c[t]=if t<k\/l.length - k<=t then l[l.length - 1 - t] else l[t]
theorem b9w.start(l:List Rg):b9w l l 0:=⟨rfl,fun t h h2=>by rw [if_neg (by omega)]⟩
theorem b9w.fin{l c:List Rg}{k:Nat}(h:b9w l c k)(hk:l.length<=2*k+1):c=l.reverse:=by
 apply List.ext_getElem
 ·rw [h.1,List.length_reverse]
 intro t h1 h2
 rw [h.2 t (by rw [<- h.1];exact h1) h1,List.getElem_reverse]
 have ht:t<l.length:=by rw [<- h.1];exact h1
 by_cases h3:t<k\/l.length - k<=t
 ·rw [if_pos h3]
 rw [if_neg h3]
 congr 1
 omega
theorem b9w.step{l c:List Rg}{k:Nat}(h:b9w l c k)(hk:2*k+1<l.length){a b:Rg}(ha:c[k]?=some a)(hb:c[l.length - 1 - k]?=some b):b9w l ((c.set k b).set (l.length - 1 - k) a) (k+1):=by
 obtain ⟨hl,hc⟩:=h
 have h1:k<c.length:=by omega
 have h2:l.length - 1 - k<c.length:=by omega
 refine ⟨by rw [List.length_set,List.length_set,hl],fun t ht ht2=>?_⟩
 rw [List.getElem?_eq_getElem h1] at ha
 rw [List.getElem?_eq_getElem h2] at hb
 have ea:=hc k (by omega) h1
 have eb:=hc (l.length - 1 - k) (by omega) h2
 rw [if_neg (by omega)] at ea eb
 rw [List.getElem_set,List.getElem_set]
 by_cases e1:l.length - 1 - k=t
 ·rw [if_pos e1,if_pos (by omega),<- Option.some.inj ha,ea]
  congr 1
  omega
 rw [if_neg e1]
 by_cases e2:k=t
 ·rw [if_pos e2,if_pos (by omega),<- Option.some.inj hb,eb]
  congr 1
  omega
 rw [if_neg e2,hc t ht (by omega)]
 by_cases e3:t<k\/l.length - k<=t
 ·rw [if_pos e3,if_pos (by omega)]
 ·rw [if_neg e3,if_neg (by omega)]
theorem a2P(l:List Rg):HOk 1 [some (.arr (l.map rgA) 63)]:=fun j o ho=>by
 match j,ho with
 | 0,ho=>cases ho;exact a0Y l
theorem b5n(X:Nat->Prop)(l:List Rg)(hl:l.length<=1000000):a0b (E0 X) 118 [.own 0 0 l.length] [some (.arr (l.map rgA) 63)] (fun r H'=>r=.tup []/\H'=[some (.arr (l.reverse.map rgA) 63)]):=by
 refine a0b.cutH ?_ (Nat.le_refl 1) (a2P l.reverse) trivial
 refine Z0 Proofs.Tryz.func118 rfl Proofs.Tryz.ntmps118 (by kernel_rfl) rfl ?_
 repeat' (first|refine Zs rfl ?_|refine Zc rfl ?_)
 refine a0q (fun s:Nat × List Rg=>⟨[(0,.own 0 0 l.length),(2,.int .i64 (s.1:Int)),(3,.int .i64 ((l.length:Int) - 1 - (s.1:Int)))],[some (.arr (s.2.map rgA) 63)]⟩) (fun s=>b9w l s.2 s.1/\2*s.1<=l.length) (fun s=>l.length - s.1) (0,l) ⟨b9w.start l,by omega⟩ ?_ ?_
 ·refine a0i 1 (Nat.le_refl 1) (a2P l) rfl (Nat.le_refl 1) ?_
  refine a0a ⟨rfl,Nat.zero_lt_one⟩ (a0a ⟨rfl,trivial⟩ (a0a ⟨?_,trivial⟩ a0k))
  exact congrArg (AV.int .i64) (a0u (by simp) (by omega) (by omega))
 rintro ⟨k,c⟩ ⟨hr,hk⟩
 have hcl:c.length=l.length:=hr.1
 replace hr:b9w l c k:=hr
 replace hk:2*k<=l.length:=hk
 show AWp _ _ _ _ _ ⟨[(0,.own 0 0 l.length),(2,.int .i64 (k:Int)),(3,.int .i64 ((l.length:Int) - 1 - (k:Int)))],[some (.arr (c.map rgA) 63)]⟩
 repeat' (first|refine Zs rfl ?_|refine Zc rfl ?_)
 refine a0d rfl (fun h1=>?_) (fun h1=>?_)
 ·have h2:2*k+1<l.length:=by omega
  have hkc:k<l.length:=by omega
  have hjc:l.length - 1 - k<l.length:=by omega
  obtain ⟨a,ha,_,haa⟩:=b5L (l:=c) (i:=k) (by omega)
  obtain ⟨b,hb,_,hba⟩:=b5L (l:=c) (i:=l.length - 1 - k) (by omega)
  have hj:((l.length:Int) - 1 - (k:Int))=((l.length - 1 - k:Nat):Int):=by omega
  obtain ⟨j,hjd⟩:∃j,l.length - 1 - k=j:=⟨_,rfl⟩
  rw [hj]
  rw [hjd] at hj hjc hb hba ⊢
  have haa2:((c.set k b).map rgA)[j]?=some (.agg [.int .i64 b.h.ver,.int .i64 b.h.slot,.int .i64 b.h.lay,.int .i64 b.h.seq,.int .i64 b.h.tail,.int .i64 b.h.now,.int .i64 b.l.id,.int .i64 b.l.ver,.int .i64 b.l.rs,.int .i64 b.l.regs]):=by
   rw [List.getElem?_map,List.getElem?_set_ne (by omega),hb];rfl
  repeat' (refine Zc rfl ?_)
  refine Qx rfl (by kernel_rfl) ?_
  repeat' (refine Zd rfl ?_)
  apply Qd rfl rfl rfl rfl
  ·refine a1Y (j:=j) rfl hjc (Nat.zero_add _) rfl rfl rfl rfl rfl rfl rfl rfl ?_
   exact QX rfl rfl ⟨rfl,rfl⟩
  skip
  apply ds rfl rfl rfl rfl
  ·refine a2C rfl rfl hba rfl rfl rfl ?_
   exact nx rfl rfl ⟨rfl,rfl⟩
  repeat' (refine Zd rfl ?_)
  apply Qd rfl rfl rfl rfl
  ·refine a1Y (j:=k) rfl hkc (Nat.zero_add _) rfl rfl rfl rfl rfl rfl rfl rfl ?_
   exact QX rfl rfl ⟨rfl,rfl⟩
  skip
  apply ds rfl rfl rfl rfl
  ·refine a2C rfl rfl haa rfl rfl rfl ?_
   exact nx rfl rfl ⟨rfl,rfl⟩
  skip
  apply Qd rfl rfl rfl rfl
  ·refine a1Y (j:=k) rfl hkc (Nat.zero_add _) rfl rfl rfl rfl rfl rfl rfl rfl ?_
   exact QX rfl rfl ⟨rfl,rfl⟩
  skip
  refine Qf rfl rfl rfl ?_
  refine b0z (p:=b) rfl rfl rfl rfl haa rfl rfl rfl rfl rfl ?_
  refine nx rfl rfl ?_
  skip
  apply Qd rfl rfl rfl rfl
  ·refine a1Y (j:=j) rfl hjc (Nat.zero_add _) rfl rfl rfl rfl rfl rfl rfl rfl ?_
   exact QX rfl rfl ⟨rfl,rfl⟩
  skip
  refine Qf rfl rfl rfl ?_
  refine b0z (p:=a) rfl rfl rfl rfl haa2 rfl rfl rfl rfl rfl ?_
  refine nx rfl rfl ?_
  repeat' (first|refine Zs rfl ?_|refine Zc rfl ?_|refine Qk ?_)
  refine ⟨(k+1,(c.set k b).set j a),⟨by have:=hr.step h2 ha (by rw [hjd];exact hb);rw [hjd] at this;exact this,by show 2*(k+1)<=l.length;omega⟩,by show l.length - (k+1)<l.length - k;omega,?_⟩
  refine a0i 1 (Nat.le_refl 1) (a2P _) rfl (Nat.le_refl 1) ?_
  refine a0a ⟨rfl,Nat.zero_lt_one⟩ (a0a ⟨?_,trivial⟩ (a0a ⟨?_,trivial⟩ a0k))
  ·exact congrArg (AV.int .i64) (a0u (by omega) (by omega) (by omega))
  ·exact congrArg (AV.int .i64) (a0u (by omega) (by omega) (by omega))
 repeat' (refine Zc rfl ?_)
 refine ⟨_,rfl,rfl,?_⟩
 rw [hr.fin (by omega)]
 rfl
end Go.Abs
