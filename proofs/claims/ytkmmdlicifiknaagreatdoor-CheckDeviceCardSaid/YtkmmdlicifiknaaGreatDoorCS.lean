/- The law's device: its walk. Joined texts, each with what its own name promises; no condition beyond those stated. -/
import Derived.Test.YtkmmdlicifiknaaGreatDoorCC
import Derived.Test.YtkmmdlicifiknaaGreatDoorCR
import Derived.Test.YtkmmdlicifiknaaGreatDoorCP
set_option maxHeartbeats 0
set_option maxRecDepth 100000
set_option linter.all false
namespace Go.Abs
theorem b9O{E:Env}{m:Mu}{w:World}{v:Value}(h:E.Rel m w (.tup [.nils,.bool false]) v):E.Rel m w (.tup [.sl 1 [],.bool false]) v:=a5N (fun v h=>a2P 1 h) v h
theorem takeN{α:Type}{l:List α}{i N:Nat}(hi:i<=N)(h:¬ i<l.length\/¬ i<N)(hil:i<=l.length):l.take N=l.take i:=by
 rcases h with h|h
 ·rw [List.take_of_length_le (by omega),List.take_of_length_le (by omega)]
 ·rw [show i=N by omega]
attribute [local irreducible] a0z a1p AWp Nx awM
theorem b8X(X:Nat->Prop)(s:Sb)(ps:List Pt)(hp:∀p∈ps,c3y p)(hpl:ps.length<=maxLen):a0b (E0 X) 8 [sbA s,.sl 33 (ps.map ptA)] []
  (fun r _=>(∃img,c5n s ps img/\r=.tup [.sl 1 (img.map u8A),.bool true])\/(r=.tup [.nils,.bool false]/\¬ (sbB s.short=true/\∀l∈a0W s.short,l.rs<=8/\l.regs<=8))):=by
 have hpi:∀{n},a0e n (ps.map ptA):=b7a ps
 have hsh:Pur (E0 X) 29 [sbA s] (sbA s.short):=⟨⟨a1J,trivial⟩,fun Y=>b7S Y s⟩
 have hdef:∀img,sbB s.short=true->(∀l∈a0W s.short,l.rs<=8/\l.regs<=8)->img.length=(szN (a0W s.short)).toNat*64->(∃r,a4R s.short ((szN (a0W s.short)).toNat*64) (ps.take 12) (b1r s.short) r/\img=r.new)->c5n s ps img:=fun img a b c d=>⟨a,b,c,d⟩
 generalize s.short=t at *
 refine Z0 Proofs.Tryz.func8 rfl Proofs.Tryz.ntmps8 (by kernel_rfl) rfl ?_
 repeat' (first|refine Zs rfl ?_|refine Zc rfl ?_)
 refine Zp rfl rfl (hsh) rfl ?_
 repeat' (refine Zs rfl ?_)
 have hti:∀{n},a0d n (.fp (sbL t)):=a5h t
 have hpp:∀{n},a0d n (.sl 33 (ps.map ptA)):=b7a ps
 refine Zh (Kz 0 [1,2,4,5] 0 a4T rfl rfl ⟨hpp,hti,trivial,trivial,trivial⟩ ?_)
 repeat' (first|refine Zs rfl ?_|refine Zc rfl ?_)
 refine Zp rfl rfl ((⟨⟨a1J,trivial⟩,fun Y=>a7X Y t⟩:Pur (E0 X) 30 [sbA t] (.bool (sbB t)))) rfl ?_
 cases hv:sbB t with
 | false =>
  repeat' (first|refine Zs rfl ?_|refine Zc rfl ?_)
  exact a0c ⟨_,rfl,.inr ⟨rfl,fun h=>by cases h.1⟩⟩
 | true =>
  obtain ⟨hlf,_,hl2⟩:=a7I hv
  have hll:(a0W t).length=t.fo.length+1:=rfl
  have hly:∀{n},a0d n (.sl 4 ((a0W t).map laA)):=a1w _
  have hlay:=a7K t (by omega) X
  have hszl:=fun h=>b3X hv h
  repeat' (first|refine Zs rfl ?_|refine Zc rfl ?_)
  refine Zp rfl rfl (hlay) rfl ?_
  repeat' (first|refine Zs rfl ?_|refine Zc rfl ?_)
  refine a0s (fun i:Nat=>⟨[(1,.sl 33 (ps.map ptA)),(2,.fp (sbL t)),(6,.int .i64 (szN ((a0W t).take i))),(26,.sl 4 ((a0W t).map laA)),(27,.int .i64 ((a0W t).length:Int)),(28,.int .i64 (i:Int))],[]⟩) (fun i=>i<=(a0W t).length/\∀l∈(a0W t).take i,l.rs<=8/\l.regs<=8) (fun i=>(a0W t).length - i) 0 ⟨Nat.zero_le _,fun l h=>by simp at h⟩ ?_ ?_
  ·refine a0j 0 (Nat.zero_le _) a4T rfl (Nat.le_refl 0) ?_
   exact a0a ⟨rfl,hpp⟩ (a0a ⟨rfl,hti⟩ (a0a ⟨rfl,trivial⟩ (a0a ⟨rfl,hly⟩ (a0a ⟨by rw [List.length_map];rfl,trivial⟩ (a0a ⟨rfl,trivial⟩ a0l)))))
  rintro i ⟨hi,hfi⟩
  repeat' (first|refine Zs rfl ?_|refine Zc rfl ?_)
  refine a0g rfl (fun h3=>?_) (fun h3=>?_)
  ·have hil:i<(a0W t).length:=by omega
   obtain ⟨l,hl⟩:∃l,(a0W t)[i]?=some l:=⟨_,List.getElem?_eq_getElem hil⟩
   have hiw:IntKind.i64.wrap ((i:Int)+1)=((i+1:Nat):Int):=a0r (by omega) (by omega)
   have hfm:=b1v (hlf l (List.mem_of_getElem? hl))
   have htk:(a0W t).take (i+1)=(a0W t).take i++[l]:=by rw [List.take_add_one,hl];rfl
   have hsn:szN ((a0W t).take (i+1))=max (szN ((a0W t).take i)) (74+l.regs*l.rs):=by rw [htk,c0k]
   generalize szN ((a0W t).take i)=z at *
   repeat' (refine Zc rfl ?_)
   refine Qa rfl ?_
   refine a0C hl rfl rfl rfl rfl rfl rfl rfl (by first|rfl|omega) rfl ?_
   refine nx rfl rfl ?_
   repeat' (refine Zs rfl ?_)
   refine Zh (Kz 0 [1,2,6,8,26,27,28] 0 a4T rfl rfl ⟨hpp,hti,trivial,(a1g:a0d _ (laA l)),hly,trivial,trivial,trivial⟩ ?_)
   repeat' (first|refine Zs rfl ?_|refine Zc rfl ?_)
   by_cases h8:l.rs > 8
   ·rw [decide_eq_true h8]
    repeat' (first|refine Zs rfl ?_|refine Zc rfl ?_)
    exact a0c ⟨_,rfl,.inr ⟨rfl,fun h=>by have:=h.2 l (List.mem_of_getElem? hl);omega⟩⟩
   rw [decide_eq_false h8]
   repeat' (refine Zs rfl ?_)
   by_cases h9:l.regs > 8
   ·rw [decide_eq_true h9]
    repeat' (first|refine Zs rfl ?_|refine Zc rfl ?_)
    exact a0c ⟨_,rfl,.inr ⟨rfl,fun h=>by have:=h.2 l (List.mem_of_getElem? hl);omega⟩⟩
   rw [decide_eq_false h9]
   repeat' (first|refine Zs rfl ?_|refine Zc rfl ?_)
   rw [hfm]
   refine ⟨i+1,⟨by omega,fun x hx=>?_⟩,by omega,?_⟩
   ·rw [htk] at hx
    rcases List.mem_append.1 hx with hx|hx
    ·exact hfi x hx
    ·rw [List.mem_singleton.1 hx];omega
   rw [hiw,hsn]
   exact kk 0 a4T rfl ⟨hpp,hti,trivial,hly,trivial,trivial,trivial⟩
  have hii:i=(a0W t).length:=by omega
  rw [hii,List.take_length] at hfi ⊢
  have hfi':∀l∈a0W t,l.rs<=8/\l.regs<=8:=hfi
  obtain ⟨hz1,hz2,hz3⟩:=hszl hfi'
  obtain ⟨n,hn⟩:=Int.eq_ofNat_of_zero_le (show 0<=szN (a0W t) by omega)
  have hdef':=fun r (a:a4R t (n*64) (ps.take 12) (b1r t) r) (b:r.new.length=n*64)=>hdef r.new hv hfi' (by rw [hn,Int.toNat_natCast];exact b) ⟨r,by rw [hn,Int.toNat_natCast];exact a,rfl⟩
  have hr0e:b1r t=(Rd.fresh (List.replicate (n*64) 0)).wr (t.gen%2).toNat (a3D t (t.gen%2).toNat):=by unfold b1r;rw [hn,Int.toNat_natCast]
  rw [hn] at hz1 hz2 hz3 ⊢
  have hbl:=b9t (n:=n) (by omega)
  obtain ⟨hg1,hg2⟩:=b5X hv
  have hes:(a3D t (t.gen%2).toNat).length=64:=a3k _ _
  have hse:Pur (E0 X) 33 [sbA t,.int .i64 ((t.gen%2).toNat:Int)] (.sl 1 ((a3D t (t.gen%2).toNat).map u8A)):=⟨⟨a1J,trivial,trivial⟩,fun Y=>b2h Y t _ hv (by omega)⟩
  have hw0:=a5P X (Rd.fresh (List.replicate (n*64) 0)) ((t.gen%2).toNat:Int) (a3D t (t.gen%2).toNat) (by omega) (by rw [hbl.dirt,hbl.new]) (by rw [hbl.new];omega)
  rw [hbl.write (by omega) hes] at hw0
  have hr1:Lr (n*64) (b1r t):=by rw [hr0e];exact hbl.wr (by omega) hes
  rw [<- hr0e] at hw0
  clear hr0e
  have hbk:=b9L X n (by omega)
  generalize Rd.fresh (List.replicate (n*64) 0)=rb at *
  generalize hdr0:b1r t=r0 at *
  generalize a3D t (t.gen%2).toNat=es at *
  repeat' (first|refine Zs rfl ?_|refine Zc rfl ?_)
  refine Zf rfl rfl (hbk) rfl rfl rfl ?_
  repeat' (first|refine Zs rfl ?_|refine Zc rfl ?_)
  refine a0n [9] [0,1,2,3,4,5,6,7] (by exact rfl) ?_
  refine a0y (fuel:=0) [0,1,2,3,4,5,6,7,8,9] (by exact rfl) (by kernel_rfl) (by kernel_rfl) ?_
  repeat' (refine Zd rfl ?_)
  rw [hg1]
  refine Zq rfl rfl rfl rfl (hse) rfl ?_
  skip
  refine a1E rfl rfl rfl ?_
  refine Cn rfl (hw0) rfl rfl ?_
  repeat' (first|refine Zs rfl ?_|refine Zc rfl ?_|refine Qk ?_|refine Qw (by kernel_rfl) ?_)
  refine a0s (fun q:Nat × Rd=>⟨[(1,.sl 33 (ps.map ptA)),(2,.fp (sbL t)),(9,.ptr 0 0),(10,.int .i64 (q.1:Int))],rdH q.2⟩) (fun q=>q.1<=ps.length/\q.1<=12/\Lr (n*64) q.2/\a4R t (n*64) (ps.take q.1) r0 q.2) (fun q=>12 - q.1) (0,r0) ⟨Nat.zero_le _,Nat.zero_le _,hr1,rfl⟩ ?_ ?_
  ·exact kk 4 (a1I r0) rfl ⟨hpp,hti,Nat.zero_lt_succ 3,trivial,trivial⟩
  rintro ⟨i,r⟩ ⟨hi0,hi1,hr2,hpr⟩
  replace hi0:i<=ps.length:=hi0
  replace hi1:i<=12:=hi1
  replace hr2:Lr (n*64) r:=hr2
  replace hpr:a4R t (n*64) (ps.take i) r0 r:=hpr
  show AWp _ _ _ _ _ ⟨[(1,.sl 33 (ps.map ptA)),(2,.fp (sbL t)),(9,.ptr 0 0),(10,.int .i64 (i:Int))],rdH r⟩
  repeat' (first|refine Zs rfl ?_|refine Zc rfl ?_)
  by_cases hip:i<ps.length
  rotate_left
  ·rw [decide_eq_false (show ¬ (i:Int)<((ps.map ptA).length:Int) by rw [List.length_map];omega)]
   repeat' (first|refine Zs rfl ?_|refine Zc rfl ?_)
   refine Zh (a0t (a0S 0 [2] (H':=[some (.arr (r.new.map u8A) 5)]) (os:=[.arr (r.new.map u8A) 5]) (sl':=[(4,.own 0 0 r.new.length),(5,.bool true)]) (Nat.zero_le _) (Nat.zero_le _) (by simp) (by simp) a4T rfl rfl ?_ ?_) ?_)
   ·exact a0a (a0L rfl) (a0a (a1x rfl trivial) a0l)
   ·exact a0E rfl (a0A 0 (fun i h=>absurd h (Nat.not_lt_zero i)) (a0h fun _=>a0k)) a0T
   refine a0t ((a0N (id:=0) (k:=1) (es:=r.new.map u8A) (e:=5) rfl rfl rfl).trans (a0j 0 (Nat.zero_le _) a4T rfl (Nat.zero_le _) (sl':=[(4,.sl 1 (r.new.map u8A)),(5,.bool true)]) ?_)) ?_
   ·refine a0a ⟨?_,(a0h fun _=>a0k:a0e _ (r.new.map u8A))⟩ (a0a ⟨rfl,trivial⟩ a0l)
    exact a3p (List.length_map _).symm
   exact a0c ⟨_,rfl,.inl ⟨r.new,hdef' r (by rw [takeN hi1 (.inl hip) hi0];exact hpr) hr2.new,rfl⟩⟩
  rw [decide_eq_true (show (i:Int)<((ps.map ptA).length:Int) by rw [List.length_map];omega)]
  repeat' (refine Zs rfl ?_)
  by_cases hi12:i<12
  rotate_left
  ·rw [decide_eq_false (show ¬ (i:Int)<12 by omega)]
   repeat' (first|refine Zs rfl ?_|refine Zc rfl ?_)
   refine Zh (a0t (a0S 0 [2] (H':=[some (.arr (r.new.map u8A) 5)]) (os:=[.arr (r.new.map u8A) 5]) (sl':=[(4,.own 0 0 r.new.length),(5,.bool true)]) (Nat.zero_le _) (Nat.zero_le _) (by simp) (by simp) a4T rfl rfl ?_ ?_) ?_)
   ·exact a0a (a0L rfl) (a0a (a1x rfl trivial) a0l)
   ·exact a0E rfl (a0A 0 (fun i h=>absurd h (Nat.not_lt_zero i)) (a0h fun _=>a0k)) a0T
   refine a0t ((a0N (id:=0) (k:=1) (es:=r.new.map u8A) (e:=5) rfl rfl rfl).trans (a0j 0 (Nat.zero_le _) a4T rfl (Nat.zero_le _) (sl':=[(4,.sl 1 (r.new.map u8A)),(5,.bool true)]) ?_)) ?_
   ·refine a0a ⟨?_,(a0h fun _=>a0k:a0e _ (r.new.map u8A))⟩ (a0a ⟨rfl,trivial⟩ a0l)
    exact a3p (List.length_map _).symm
   exact a0c ⟨_,rfl,.inl ⟨r.new,hdef' r (by rw [takeN hi1 (.inr hi12) hi0];exact hpr) hr2.new,rfl⟩⟩
  rw [decide_eq_true (show (i:Int)<12 by omega)]
  have hiw:IntKind.i64.wrap ((i:Int)+1)=((i+1:Nat):Int):=a0r (by omega) (by omega)
  obtain ⟨p,hpx⟩:∃p,ps[i]?=some p:=⟨_,List.getElem?_eq_getElem hip⟩
  have hpo:=hp p (List.mem_of_getElem? hpx)
  have hpi2:∀{n},a0d n (.fp (ptL p)):=b6Z
  repeat' (first|refine Zh ?_|refine Ql ?_|refine Qm ?_|refine Qp rfl ?_)
  refine a1B (I:=fun r':Rd=>b5h t (n*64) p r r') (σ:=fun r'=>⟨[(1,.sl 33 (ps.map ptA)),(2,.fp (sbL t)),(9,.ptr 0 0),(10,.int .i64 (i:Int))],rdH r'⟩) ?_ ?_
  rotate_left
  ·intro r' hr'
   repeat' (first|refine Zs rfl ?_|refine Zc rfl ?_)
   rw [hiw]
   refine ⟨(i+1,r'),⟨hip,hi12,hr'.1,?_⟩,by show 12 - (i+1)<12 - i;omega,?_⟩
   ·rw [show ps.take (i+1)=ps.take i++[p] by rw [List.take_add_one,hpx];rfl]
    exact hpr.snoc hr'
   ·exact kk 4 (a1I r') rfl ⟨hpp,hti,Nat.zero_lt_succ 3,trivial,trivial⟩
  refine Zc rfl ?_
  have hsame:¬ p.kind=0->b5h t (n*64) p r r:=fun h=>⟨hr2,fun h2=>absurd h2 h⟩
  have hcut:∀(r':Rd) (sl:List (Nat × AV)) (hp':Hp),get sl 1=.sl 33 (ps.map ptA)->get sl 2=.fp (sbL t)->get sl 9=.ptr 0 0->get sl 10=.int .i64 (i:Int)->hp'.take 4=rdH r'->4<=hp'.length ->
    Imp (E0 X) 214 0 ⟨sl,hp'⟩ ⟨[(1,.sl 33 (ps.map ptA)),(2,.fp (sbL t)),(9,.ptr 0 0),(10,.int .i64 (i:Int))],rdH r'⟩:=fun r' sl hp' a b c d e f =>
   a0j 4 (Nat.zero_le _) (a1I r') e f (a0a ⟨a,hpp⟩ (a0a ⟨b,hti⟩ (a0a ⟨c,Nat.zero_lt_succ 3⟩ (a0a ⟨d,trivial⟩ a0l))))
  repeat' (first|refine Zs rfl ?_|refine Zc rfl ?_)
  refine Qa rfl ?_
  refine a0C hpx rfl rfl rfl rfl rfl rfl rfl (by first|rfl|omega) rfl ?_
  refine nx rfl rfl ?_
  repeat' (refine Zs rfl ?_)
  refine Zh (Kz 4 [1,2,9,10,11] 4 (a1I r) rfl rfl ⟨hpp,hti,Nat.zero_lt_succ 3,trivial,hpi2,trivial⟩ ?_)
  repeat' (first|refine Zs rfl ?_|refine Zc rfl ?_)
  refine Zp rfl rfl (hlay) rfl ?_
  repeat' (first|refine Zs rfl ?_|refine Zc rfl ?_)
  have hlm:((a0W t).map laA).length=(a0W t).length:=List.length_map _
  obtain ⟨c,hc⟩:∃c,c=(a0W t).length:=⟨_,rfl⟩
  rw [hlm,<- hc]
  obtain ⟨q,hq1,hq2⟩:=c4p p.lay c (by omega) (by omega)
  rw [hq1]
  obtain ⟨l,hl⟩:∃l,(a0W t)[q]?=some l:=⟨_,List.getElem?_eq_getElem (by omega)⟩
  have hlm2:=List.mem_of_getElem? hl
  obtain ⟨hrs8,hrg8⟩:=hfi' l hlm2
  have hz4:=hz3 l hlm2
  have hli:∀{n},a0d n (.fp (laL l)):=fun {n}=>(a1g:a0d n (laA l))
  refine Qa rfl ?_
  refine a0C hl rfl rfl rfl rfl rfl rfl rfl (by first|rfl|omega) rfl ?_
  refine nx rfl rfl ?_
  repeat' (refine Zs rfl ?_)
  refine Zh (Kz 4 [1,2,9,10,11,13] 4 (a1I r) rfl rfl ⟨hpp,hti,Nat.zero_lt_succ 3,trivial,hpi2,hli,trivial⟩ ?_)
  clear hq1 hlm hc hq2
  repeat' (first|refine Zs rfl ?_|refine Zc rfl ?_)
  by_cases h0:p.kind=0
  ·rw [decide_eq_true h0]
   repeat' (first|refine Zs rfl ?_|refine Zc rfl ?_)
   refine a0n [5,7] [0,1,2,3,4,6] (by exact rfl) ?_
   refine a0y (fuel:=0) [0,1,2,3,4,5,6,7] (by exact rfl) (by kernel_rfl) (by kernel_rfl) ?_
   repeat' (first|refine Zd rfl ?_|refine Zk ?_)
   have hfillR:∀r',r'=(if c2b l (ptH l p)=0 then b9c r l (ptH l p) ((p.rs.take 5).map Rec.short) else r)->Lr (n*64) r'->b5h t (n*64) p r r':=fun r' a b=>⟨b,fun _=>⟨l,hlm2,a⟩⟩
   have hdh:hdL (ptH l p)=[.int .i64 l.ver,.int .i64 p.h.slot,.int .i64 l.id,.int .i64 p.h.seq,.int .i64 p.h.tail,.int .i64 p.h.now]:=rfl
   generalize ptH l p=h at *
   have hhi:∀{n},a0d n (.fp (hdL h)):=fun {n}=>(a4l:a0d n (hdA h))
   refine Qw (by kernel_rfl) (a0t ((a0w (id:=4) (cs:=hdL h) (by rw [hdh];rfl)).trans (a0j 4 (Nat.zero_le _) (a1I r) rfl (Nat.le_succ 4)
    (sl':=[(1,.sl 33 (ps.map ptA)),(2,.fp (sbL t)),(9,.ptr 0 0),(10,.int .i64 (i:Int)),(11,.fp (ptL p)),(13,.fp (laL l)),(14,.fp (hdL h))]) ?_)) ?_)
   ·exact a0a ⟨rfl,hpp⟩ (a0a ⟨rfl,hti⟩ (a0a ⟨rfl,Nat.zero_lt_succ 3⟩ (a0a ⟨rfl,trivial⟩ (a0a ⟨rfl,hpi2⟩ (a0a ⟨rfl,hli⟩ (a0a ⟨rfl,hhi⟩ a0l))))))
   clear hdh
   repeat' (first|refine Zs rfl ?_|refine Zc rfl ?_)
   refine Zp rfl rfl (c4Q l h X) rfl ?_
   repeat' (refine Zs rfl ?_)
   by_cases hm:c2b l h≠0
   ·rw [decide_eq_true hm]
    repeat' (refine Zc rfl ?_)
    exact ⟨rfl,r,hfillR r (by rw [if_neg hm]) hr2,hcut r _ _ rfl rfl rfl rfl rfl (Nat.le_refl 4)⟩
   rw [decide_eq_false hm]
   have hm0:c2b l h=0:=Classical.not_not.1 hm
   rw [if_pos hm0] at hfillR
   have hm1:a1a l=true/\hdB h=true/\h.ver=l.ver/\h.lay=l.id/\h.slot<l.regs:=by
    unfold c2b at hm0
    split at hm0
    ·rename_i hq
     split at hm0
     ·cases hm0
     ·exact ⟨hq.1,hq.2.1,hq.2.2.1,hq.2.2.2,by omega⟩
    ·cases hm0
   obtain ⟨hm2,hm3,-,-,hm4⟩:=hm1
   obtain ⟨hn1,hn2,hn3,hn4,-⟩:=a5c hm3
   obtain ⟨hn5,hn6,hn7⟩:=a2y hm2 hn1 hm4
   have hrs:=a1z hm2
   have hfit:74+h.slot*l.rs+l.rs<=(n:Int):=by
    have e1:(h.slot+1)*l.rs<=l.regs*l.rs:=Int.mul_le_mul_of_nonneg_right (by omega) (by omega)
    rw [Int.add_mul,Int.one_mul] at e1
    omega
   obtain ⟨F,hF⟩:=Int.eq_ofNat_of_zero_le (show 0<=74+h.slot*l.rs by omega)
   obtain ⟨sq,hsq⟩:=Int.eq_ofNat_of_zero_le (show 0<=h.seq by omega)
   have hFw:IntKind.i64.wrap (74+IntKind.i64.wrap (h.slot*l.rs))=(F:Int):=by rw [hn5,hF]
   have hfr:∀rs,b9c r l h rs=c0j F sq (rs.foldl (b8w l F sq) ((r.wr F (a8Z h F)).bar,[],0)):=fun rs=>by
    unfold b9c c6h c3O
    rw [hF,hsq];rfl
   rw [hfr] at hfillR
   have hop:=b9V X r (n*64) hr2 l h F hm3 hFw (by omega)
   have hlo:=(hr2.wr (k:=F) (by omega) (a9a h F)).bar
   generalize (r.wr F (a8Z h F)).bar=ro at *
   obtain ⟨R,hR⟩:∃R:Nat,l.rs=R:=⟨l.rs.toNat,by omega⟩
   repeat' (first|refine Zs rfl ?_|refine Zc rfl ?_)
   refine Zf rfl rfl (hop) rfl rfl rfl ?_
   repeat' (first|refine Zs rfl ?_|refine Zc rfl ?_)
   have hfl:(F+l.rs.toNat)*64<=n*64:=by omega
   refine a0s (fun q:Nat × Rd × List UInt8 × Nat=>⟨[(1,.sl 33 (ps.map ptA)),(2,.fp (sbL t)),(9,.ptr 0 0),(10,.int .i64 (i:Int)),(11,.fp (ptL p)),(15,.ptr 4 0),(17,.int .i64 (q.1:Int))],rrH q.2.1 h l q.2.2.1 q.2.2.2⟩) (fun q=>q.1<=p.rs.length/\q.1<=5/\q.2=((p.rs.take q.1).map Rec.short).foldl (b8w l F sq) (ro,[],0)/\WJ (n*64) l q.2) (fun q=>5 - q.1) (0,ro,[],0) ⟨Nat.zero_le _,Nat.zero_le _,rfl,⟨hlo,by simp,by show ((0:Nat):Int)<=_;omega⟩⟩ ?_ ?_
   ·exact kk 7 (a6K ro h l [] 0) rfl ⟨hpp,hti,Nat.zero_lt_succ 6,trivial,hpi2,(by decide:4<7),trivial,trivial⟩
   rintro ⟨k,d,st,tt⟩ ⟨k1,k2,k3,k4⟩
   replace k1:k<=p.rs.length:=k1
   replace k2:k<=5:=k2
   replace k3:(d,st,tt)=((p.rs.take k).map Rec.short).foldl (b8w l F sq) (ro,[],0):=k3
   replace k4:WJ (n*64) l (d,st,tt):=k4
   show AWp _ _ _ _ _ ⟨[(1,.sl 33 (ps.map ptA)),(2,.fp (sbL t)),(9,.ptr 0 0),(10,.int .i64 (i:Int)),(11,.fp (ptL p)),(15,.ptr 4 0),(17,.int .i64 (k:Int))],rrH d h l st tt⟩
   repeat' (first|refine Zs rfl ?_|refine Zc rfl ?_)
   by_cases hk:k<p.rs.length
   rotate_left
   ·rw [decide_eq_false (show ¬ (k:Int)<((p.rs.map a5X).length:Int) by rw [List.length_map];omega)]
    have htt:tt=st.length / 59:=k4.tt
    have hcp:(st.length:Int)<=(l.rs - 1)*59:=k4.cap
    have hpc:=b1S hcp
    have hpl:st.length<=(padS st).length:=by simp [padS]
    have hsy:=b3M X d (n*64) k4.lr l h F sq st tt ((padS st).length / 59 - tt) hsq (by omega) hFw (by omega) (by omega) (by omega) (by omega)
    have hls:=k4.sync (F:=F) (seq:=sq) hfl
    have hff:=hfillR (c0j F sq (d,st,tt)) (by rw [takeN k2 (.inl hk) k1,<- k3]) hls
    have e1:c0j F sq (d,st,tt)=(a8j d F sq (padS st) tt ((padS st).length / 59 - tt)).bar:=rfl
    rw [<- e1] at hsy
    generalize c0j F sq (d,st,tt)=r3 at *
    generalize tt+((padS st).length / 59 - tt)=t3 at *
    generalize padS st=s3 at *
    repeat' (first|refine Zs rfl ?_|refine Zc rfl ?_)
    refine Zf rfl rfl (hsy) rfl rfl rfl ?_
    skip
    exact ⟨rfl,r3,hff,hcut r3 _ _ rfl rfl rfl rfl rfl (Nat.le_add_right 4 4)⟩
   rw [decide_eq_true (show (k:Int)<((p.rs.map a5X).length:Int) by rw [List.length_map];omega)]
   repeat' (refine Zs rfl ?_)
   by_cases hk5:k<5
   rotate_left
   ·rw [decide_eq_false (show ¬ (k:Int)<5 by omega)]
    have htt:tt=st.length / 59:=k4.tt
    have hcp:(st.length:Int)<=(l.rs - 1)*59:=k4.cap
    have hpc:=b1S hcp
    have hpl:st.length<=(padS st).length:=by simp [padS]
    have hsy:=b3M X d (n*64) k4.lr l h F sq st tt ((padS st).length / 59 - tt) hsq (by omega) hFw (by omega) (by omega) (by omega) (by omega)
    have hls:=k4.sync (F:=F) (seq:=sq) hfl
    have hff:=hfillR (c0j F sq (d,st,tt)) (by rw [takeN k2 (.inr hk5) k1,<- k3]) hls
    have e1:c0j F sq (d,st,tt)=(a8j d F sq (padS st) tt ((padS st).length / 59 - tt)).bar:=rfl
    rw [<- e1] at hsy
    generalize c0j F sq (d,st,tt)=r3 at *
    generalize tt+((padS st).length / 59 - tt)=t3 at *
    generalize padS st=s3 at *
    repeat' (first|refine Zs rfl ?_|refine Zc rfl ?_)
    refine Zf rfl rfl (hsy) rfl rfl rfl ?_
    skip
    exact ⟨rfl,r3,hff,hcut r3 _ _ rfl rfl rfl rfl rfl (Nat.le_add_right 4 4)⟩
   rw [decide_eq_true (show (k:Int)<5 by omega)]
   obtain ⟨rc,hrc⟩:∃rc,p.rs[k]?=some rc:=⟨_,List.getElem?_eq_getElem hk⟩
   have hky:=hpo.key rc (List.mem_of_getElem? hrc)
   have hshr:Pur (E0 X) 37 [a5X rc] (a5X rc.short):=⟨⟨a2x,trivial⟩,fun Y=>b9W Y rc hky.1 hky.2⟩
   have hnx:((p.rs.take (k+1)).map Rec.short).foldl (b8w l F sq) (ro,[],0)=b8w l F sq (d,st,tt) rc.short:=by
    rw [k3,List.take_add_one,hrc];simp
   have hkw:IntKind.i64.wrap ((k:Int)+1)=((k+1:Nat):Int):=a0r (by omega) (by omega)
   have hw3:=k4.app (F:=F) (seq:=sq) (r:=rc.short) hfl
   generalize rc.short=r2 at *
   repeat' (first|refine Zs rfl ?_|refine Zc rfl ?_)
   refine Qa rfl ?_
   refine a0C hrc rfl rfl rfl rfl rfl rfl rfl (by first|rfl|omega) rfl ?_
   refine nx rfl rfl ?_
   repeat' (refine Zs rfl ?_)
   refine Zp rfl rfl (hshr) rfl ?_
   skip
   have htt:tt=st.length / 59:=k4.tt
   have hcp:(st.length:Int)<=(l.rs - 1)*59:=k4.cap
   by_cases hc:a4i l.ver r2=0/\(st.length:Int)+(a1M r2:Int)<=(l.rs - 1)*59
   ·have e1:b8w l F sq (d,st,tt) r2=(a8j d F sq (st++a4a l.ver sq st.length r2) tt ((st++a4a l.ver sq st.length r2).length / 59 - tt),st++a4a l.ver sq st.length r2,(st++a4a l.ver sq st.length r2).length / 59):=if_pos hc
    rw [e1] at hnx hw3
    have hel:(st++a4a l.ver sq st.length r2).length=st.length+a1M r2:=by rw [List.length_append,a4E]
    have ha:=b9T X d (n*64) k4.lr l h F sq st tt r2 ((st++a4a l.ver sq st.length r2).length / 59 - tt) hsq (by omega) hFw (by omega) hc.1 (by omega) hc.2 (by omega) (by omega)
    rw [show tt+((st++a4a l.ver sq st.length r2).length / 59 - tt)=(st++a4a l.ver sq st.length r2).length / 59 by omega] at ha
    generalize st++a4a l.ver sq st.length r2=s3 at *
    generalize a8j d F sq s3 tt (s3.length / 59 - tt)=d3 at *
    generalize s3.length / 59=t3 at *
    refine Zf rfl rfl (ha) rfl rfl rfl ?_
    repeat' (first|refine Zs rfl ?_|refine Zc rfl ?_)
    refine ⟨(k+1,d3,s3,t3),⟨hk,hk5,hnx.symm,hw3⟩,by show 5 - (k+1)<5 - k;omega,?_⟩
    rw [hkw]
    refine a0S 4 [4,5,7] (H':=rrH d3 h l s3 t3) (os:=[rrC h,rpC l h.slot h.seq s3.length t3 6,arB s3]) (Nat.zero_le _) ?_ ?_ ?_ (a1I d3) rfl rfl ?_ ?_
    ·simp [rdH]
    ·simp
    ·simp
    ·exact a0a (a0v rfl hpp) (a0a (a0v rfl hti) (a0a (a0v rfl (by decide:0<4)) (a0a (a0v rfl trivial) (a0a (a0v rfl hpi2) (a0a (a1h rfl) (a0a (a0v rfl trivial) a0l))))))
    ·repeat' (first|exact a0T|exact a4x.nil|refine a0E rfl (a1y ?_) ?_|refine a0E rfl (a0A 0 (fun i h=>absurd h (Nat.not_lt_zero i)) (by simp [a2b,a0e,a0d])) ?_|refine a4x.cons ?_ ?_|exact a0L rfl|exact a1h rfl|exact a0v rfl (by first|trivial|(simp [a0d,a0e];done)))
   have e1:b8w l F sq (d,st,tt) r2=(d,st,tt):=if_neg hc
   rw [e1] at hnx hw3
   have hcu:∀(sl:List (Nat × AV)),get sl 1=.sl 33 (ps.map ptA)->get sl 2=.fp (sbL t)->get sl 9=.ptr 0 0->get sl 10=.int .i64 (i:Int)->get sl 11=.fp (ptL p)->get sl 15=.ptr 4 0->get sl 17=.int .i64 (IntKind.i64.wrap ((k:Int)+1)) ->
     Imp (E0 X) 214 0 ⟨sl,rrH d h l st tt⟩ ⟨[(1,.sl 33 (ps.map ptA)),(2,.fp (sbL t)),(9,.ptr 0 0),(10,.int .i64 (i:Int)),(11,.fp (ptL p)),(15,.ptr 4 0),(17,.int .i64 ((k+1:Nat):Int))],rrH d h l st tt⟩:=fun sl a b c e f g j =>
    a0j 7 (Nat.zero_le _) (a6K d h l st tt) rfl (Nat.le_refl 7) (a0a ⟨a,hpp⟩ (a0a ⟨b,hti⟩ (a0a ⟨c,Nat.zero_lt_succ 6⟩ (a0a ⟨e,trivial⟩ (a0a ⟨f,hpi2⟩ (a0a ⟨g,(by decide:4<7)⟩ (a0a ⟨by rw [<- hkw];exact j,trivial⟩ a0l)))))))
   by_cases hc1:a4i l.ver r2=0
   ·refine Zf rfl rfl (b4K X d l h st tt r2 hc1 (by omega) (by omega) (by have:¬ (st.length:Int)+(a1M r2:Int)<=(l.rs - 1)*59:=fun hh=>hc ⟨hc1,hh⟩;omega)) rfl rfl rfl ?_
    repeat' (first|refine Zs rfl ?_|refine Zc rfl ?_)
    exact ⟨(k+1,d,st,tt),⟨hk,hk5,hnx.symm,hw3⟩,(by show 5 - (k+1)<5 - k;omega),hcu _ rfl rfl rfl rfl rfl rfl rfl⟩
   refine Zf rfl rfl (b7C X d l h st tt r2 hc1) rfl rfl rfl ?_
   repeat' (first|refine Zs rfl ?_|refine Zc rfl ?_)
   exact ⟨(k+1,d,st,tt),⟨hk,hk5,hnx.symm,hw3⟩,(by show 5 - (k+1)<5 - k;omega),hcu _ rfl rfl rfl rfl rfl rfl rfl⟩
  rw [decide_eq_false h0]
  repeat' (first|refine Zs rfl ?_|refine Zc rfl ?_)
  by_cases h1:p.kind=1
  ·rw [decide_eq_true h1]
   repeat' (first|refine Zs rfl ?_|refine Zc rfl ?_)
   have hpv:Pur (E0 X) 39 [plA p.p] (.bool (a1P p.p)):=⟨⟨a3b,trivial⟩,fun Y=>b3N Y p.p⟩
   refine Zp rfl rfl (hpv) rfl ?_
   cases hb:a1P p.p with
   | false =>
    repeat' (refine Zc rfl ?_)
    exact ⟨rfl,r,hsame h0,hcut r _ _ rfl rfl rfl rfl rfl (Nat.le_refl 4)⟩
   | true =>
    obtain ⟨u,hu,_,hu1,hu2,_,_⟩:=a2F hb
    have hse:a6W p.p.mig p.p.idx=(b4N u:Int):=by rw [hu];exact c5c hu1.1 hu2
    have hk:b4N u<=73:=by
     have h:=hse
     unfold a6W at h
     split at h<;>omega
    have hps:Pur (E0 X) 40 [.int .i64 p.p.mig,.int .i64 p.p.idx] (.int .i64 (a6W p.p.mig p.p.idx)):=⟨⟨trivial,trivial,trivial⟩,fun Y=>b0N Y _ _ (by rw [hu];show (u.mig:Int)<=_;omega)⟩
    have hpe:Pur (E0 X) 41 [plA p.p,.int .i64 (b4N u:Int)] (.sl 1 ((b4p u (b4N u)).map u8A)):=⟨⟨a3b,trivial,trivial⟩,fun Y=>by rw [hu];exact b7z Y u (b4N u) (by rw [<- hu];exact hb) (by omega)⟩
    have hel:=b2T u (b4N u)
    have hw:=a5P X r (b4N u:Int) (b4p u (b4N u)) (by omega) (by rw [hr2.dirt,hr2.new]) (by rw [hr2.new];omega)
    rw [hr2.write (by omega) hel] at hw
    have hlr:=hr2.wr (k:=b4N u) (by omega) hel
    generalize r.wr (b4N u) (b4p u (b4N u))=r3 at *
    repeat' (first|refine Zs rfl ?_|refine Zc rfl ?_)
    refine Zp rfl rfl (hps) rfl ?_
    rw [hse]
    repeat' (first|refine Zs rfl ?_|refine Zc rfl ?_)
    refine Zp rfl rfl (hpe) rfl ?_
    skip
    refine Zf rfl rfl (hw) rfl rfl rfl ?_
    skip
    exact ⟨rfl,r3,⟨hlr,fun h=>absurd h h0⟩,hcut r3 _ _ rfl rfl rfl rfl rfl (Nat.le_refl 4)⟩
  rw [decide_eq_false h1]
  repeat' (first|refine Zs rfl ?_|refine Zc rfl ?_)
  by_cases h2:p.kind=2
  ·rw [decide_eq_true h2]
   have hsh2:Pur (E0 X) 29 [sbA p.s] (sbA p.s.short):=⟨⟨a1J,trivial⟩,fun Y=>b7S Y p.s⟩
   generalize p.s.short=u at *
   have hui:∀{n},a0d n (.fp (sbL u)):=a5h u
   repeat' (first|refine Zs rfl ?_|refine Zc rfl ?_)
   refine Zp rfl rfl (hsh2) rfl ?_
   repeat' (refine Zs rfl ?_)
   refine Zh (Kz 4 [1,2,9,10,19] 4 (a1I r) rfl rfl ⟨hpp,hti,Nat.zero_lt_succ 3,trivial,hui,trivial⟩ ?_)
   repeat' (first|refine Zs rfl ?_|refine Zc rfl ?_)
   refine Zp rfl rfl ((⟨⟨a1J,trivial⟩,fun Y=>a7X Y u⟩:Pur (E0 X) 30 [sbA u] (.bool (sbB u)))) rfl ?_
   cases hb:sbB u with
   | false =>
    repeat' (first|refine Zs rfl ?_|refine Zc rfl ?_)
    exact ⟨rfl,r,hsame h0,hcut r _ _ rfl rfl rfl rfl rfl (Nat.le_refl 4)⟩
   | true =>
    repeat' (refine Zs rfl ?_)
    by_cases hg:u.gen.tmod 2≠t.gen.tmod 2
    rotate_left
    ·rw [decide_eq_false hg]
     repeat' (refine Zc rfl ?_)
     exact ⟨rfl,r,hsame h0,hcut r _ _ rfl rfl rfl rfl rfl (Nat.le_refl 4)⟩
    rw [decide_eq_true hg]
    obtain ⟨hg3,hg4⟩:=b5X hb
    have hel:(a3D u (u.gen%2).toNat).length=64:=a3k _ _
    have hse:Pur (E0 X) 33 [sbA u,.int .i64 ((u.gen%2).toNat:Int)] (.sl 1 ((a3D u (u.gen%2).toNat).map u8A)):=⟨⟨a1J,trivial,trivial⟩,fun Y=>b2h Y u _ hb (by omega)⟩
    have hw:=a5P X r ((u.gen%2).toNat:Int) (a3D u (u.gen%2).toNat) (by omega) (by rw [hr2.dirt,hr2.new]) (by rw [hr2.new];omega)
    rw [hr2.write (by omega) hel] at hw
    have hlr:=hr2.wr (k:=(u.gen%2).toNat) (by omega) hel
    generalize r.wr (u.gen%2).toNat (a3D u (u.gen%2).toNat)=r3 at *
    repeat' (refine Zc rfl ?_)
    refine a0n [9] [0,1,2,3,4,5,6,7] (by exact rfl) ?_
    refine a0y (fuel:=0) [0,1,2,3,4,5,6,7,8,9] (by exact rfl) (by kernel_rfl) (by kernel_rfl) ?_
    repeat' (refine Zd rfl ?_)
    rw [hg3]
    refine Zq rfl rfl rfl rfl (hse) rfl ?_
    skip
    refine a1E rfl rfl rfl ?_
    refine Cn rfl (hw) rfl rfl ?_
    repeat' (first|refine Qk ?_|refine Qw (by kernel_rfl) ?_)
    exact ⟨rfl,r3,⟨hlr,fun h=>absurd h h0⟩,hcut r3 _ _ rfl rfl rfl rfl rfl (Nat.le_refl 4)⟩
  rw [decide_eq_false h2]
  repeat' (refine Zc rfl ?_)
  have hnl:r.new.length=n*64:=hr2.new
  obtain ⟨k,hk,hk2⟩:=c4p p.pos r.new.length (by omega) (by omega)
  have hne:(r.new.length:Int)≠0:=by omega
  obtain ⟨y,hy⟩:∃y,r.new[k]?=some y:=⟨_,List.getElem?_eq_getElem (by omega)⟩
  refine a0n [30] [0,1,2,4,5,6,7,8,10,12,13,14,16,17,18,19,20,22,26,27,28] (by exact rfl) ?_
  refine a0y (fuel:=0) [0,1,2,3,4,5,6,7,8,9,10,11,12,13,14,15,16,17,18,19,20,21,22,23,24,25,26,27,28,29,30] (by exact rfl) (by kernel_rfl) (by kernel_rfl) ?_
  repeat' (refine Zd rfl ?_)
  apply ds rfl rfl rfl rfl
  ·refine b0V rfl rfl hne ?_
   exact nx rfl rfl ⟨rfl,rfl⟩
  repeat' (refine Zd rfl ?_)
  apply ds rfl rfl rfl rfl
  ·refine b0V rfl rfl hne ?_
   rw [hk]
   exact nx rfl rfl ⟨rfl,rfl⟩
  skip
  apply ds rfl rfl rfl rfl
  ·refine a5U (j:=k) (p:=k) (rfl) (by first|omega|assumption|(simp;omega)) (by omega) rfl rfl rfl rfl rfl rfl rfl rfl ?_
   exact nx rfl rfl ⟨rfl,rfl⟩
  apply ds rfl rfl rfl rfl
  ·refine a4K rfl rfl (y:=u8A y) (by simp [hy]) rfl rfl rfl ?_
   exact nx rfl rfl ⟨rfl,rfl⟩
  repeat' (refine Zd rfl ?_)
  rw [c3B]
  apply ds rfl rfl rfl rfl
  ·refine a5U (j:=k) (p:=k) (rfl) (by first|omega|assumption|(simp;omega)) (by omega) rfl rfl rfl rfl rfl rfl rfl rfl ?_
   exact nx rfl rfl ⟨rfl,rfl⟩
  refine b2R rfl rfl rfl ?_
  refine a3h rfl rfl rfl rfl (y:=u8A y) (by simp [hy]) rfl rfl rfl rfl rfl ?_
  refine nx rfl rfl ?_
  repeat' (first|refine Qk ?_|refine Qw (by kernel_rfl) ?_)
  exact ⟨rfl,{ r with new:=r.new.set k (y+p.add) },⟨c2w hr2,fun h=>absurd h h0⟩,hcut _ _ _ rfl rfl rfl rfl (by rw [a4p (List.length_set ..),List.map_set];rfl) (Nat.le_refl 4)⟩
theorem b8W(X:Nat->Prop)(s:Sb)(ps:List Pt)(hp:∀p∈ps,c3y p)(hpl:ps.length<=maxLen):a0b (E0 X) 8 [sbA s,.sl 33 (ps.map ptA)] []
  (fun r H'=>(∃img,c5n s ps img/\r=.tup [.sl 1 (img.map u8A),.bool true]/\H'=[])\/(r=.tup [.sl 1 [],.bool false]/\H'=[]/\¬ (sbB s.short=true/\∀l∈a0W s.short,l.rs<=8/\l.regs<=8))) :=
 (b8X X s ps hp hpl).imp fun r H' h=>by
  rcases h with ⟨img,h1,rfl⟩|⟨rfl,h1⟩
  ·exact ⟨_,_,.inl ⟨img,h1,rfl,rfl⟩,kk 0 a4T rfl ⟨(⟨a0h fun _=>a0k,trivial,trivial⟩:a0d 0 (.tup [.sl 1 (img.map u8A),.bool true])),trivial⟩⟩
  ·exact ⟨_,_,.inr ⟨rfl,rfl,h1⟩,(a6m (r':=.tup [.sl 1 [],.bool false]) fun m w u hu=>b9O hu).trans (kk 0 a4T rfl ⟨(⟨trivial,trivial,trivial⟩:a0d 0 (.tup [.sl 1 [],.bool false])),trivial⟩)⟩
def Wk(x y:AV):Prop:=∀(cx:Cx) (m:Mu) (w:World) (v:Value),Abs.Rel cx m w x v->Abs.Rel cx m w y v
def WkL(xs ys:List AV):Prop:=∀(cx:Cx) (m:Mu) (w:World) (vs:List Value),Abs.RelL cx m w xs vs->Abs.RelL cx m w ys vs
theorem Wk.refl(x:AV):Wk x x:=fun _ _ _ _ h=>h
theorem c1j{k:Nat}:Wk .nils (.sl k []):=fun cx m w v h=>by
 simp only [Abs.Rel] at h ⊢
 exact ⟨none,0,[],h,Nat.zero_le _,Nat.zero_le _,by simp [Abs.RelL],by simp,fun h0=>absurd rfl h0⟩
theorem b8r:WkL [] []:=fun _ _ _ _ h=>h
theorem a9U{x y:AV}{xs ys:List AV}(h:Wk x y)(t:WkL xs ys):WkL (x::xs) (y::ys):=fun cx m w vs hv=>by
 obtain ⟨u,r,rfl,h1,h2⟩:=a0o.1 hv
 exact RelL.cons (h cx m w u h1) (t cx m w r h2)
theorem a9V{x:AV}{xs ys:List AV}(t:WkL xs ys):WkL (x::xs) (x::ys):=a9U (Wk.refl x) t
theorem a0b.wkA{E:Env}{f:FuncId}{args args':List AV}{H:Hp}{R:AV->Hp->Prop}(h:a0b E f args' H R)(k:WkL args args'):a0b E f args H R :=
 a0b.weak h fun m w vs hv=>k _ m w vs hv
end Go.Abs
