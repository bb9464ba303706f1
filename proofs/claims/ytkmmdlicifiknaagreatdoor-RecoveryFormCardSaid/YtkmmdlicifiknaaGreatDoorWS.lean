/- The law's device: its walk. Joined texts, each with what its own name promises; no condition beyond those stated. -/
import Derived.Test.YtkmmdlicifiknaaGreatDoorWC
import Derived.Test.YtkmmdlicifiknaaGreatDoorWR
import Derived.Test.YtkmmdlicifiknaaGreatDoorWP
set_option maxHeartbeats 0
set_option maxRecDepth 100000
set_option linter.all false
namespace Go.Abs
theorem c1l{E:Env}{m:Mu}{w:World}{v:Value}(h:E.Rel m w (.tup [.nils,.bool false]) v):E.Rel m w (.tup [.sl 1 [],.bool false]) v:=a6h (fun v h=>a2Y 1 h) v h
theorem takeN{α:Type}{l:List α}{i N:Nat}(hi:i<=N)(h:¬ i<l.length\/¬ i<N)(hil:i<=l.length):l.take N=l.take i:=by
 rcases h with h|h
 ·rw [List.take_of_length_le (by omega),List.take_of_length_le (by omega)]
 ·rw [show i=N by omega]
attribute [local irreducible] a0B a1G AWp Nx awM
theorem c0l(X:Nat->Prop)(s:Sb)(ps:List Pt)(hp:∀p∈ps,c8Y p)(hpl:ps.length<=maxLen):a0b (E0 X) 8 [sbA s,.sl 33 (ps.map ptA)] []
  (fun r _=>(∃img,c8g s ps img/\r=.tup [.sl 1 (img.map u8A),.bool true])\/(r=.tup [.nils,.bool false]/\¬ (sbB s.short=true/\∀l∈a1n s.short,l.rs<=8/\l.regs<=8))):=by
 have hpi:∀{n},a0e n (ps.map ptA):=c2L ps
 have hsh:Pur (E0 X) 29 [sbA s] (sbA s.short):=⟨⟨a1P,trivial⟩,fun Y=>b8M Y s⟩
 have hdef:∀img,sbB s.short=true->(∀l∈a1n s.short,l.rs<=8/\l.regs<=8)->img.length=(szN (a1n s.short)).toNat*64->(∃r,a5h s.short ((szN (a1n s.short)).toNat*64) (ps.take 12) (a9E s.short) r/\img=r.new)->c8g s ps img:=fun img a b c d=>⟨a,b,c,d⟩
 generalize s.short=t at *
 refine Z0 Proofs.Tryz.func8 rfl Proofs.Tryz.ntmps8 (by kernel_rfl) rfl ?_
 repeat' (first|refine Zs rfl ?_|refine Zc rfl ?_)
 refine Zp rfl rfl (hsh) rfl ?_
 repeat' (refine Zs rfl ?_)
 have hti:∀{n},a0g n (.fp (sbL t)):=b0u t
 have hpp:∀{n},a0g n (.sl 33 (ps.map ptA)):=c2L ps
 refine Zh (Kz 0 [1,2,4,5] 0 a2T rfl rfl ⟨hpp,hti,trivial,trivial,trivial⟩ ?_)
 repeat' (first|refine Zs rfl ?_|refine Zc rfl ?_)
 refine Zp rfl rfl ((⟨⟨a1P,trivial⟩,fun Y=>a8z Y t⟩:Pur (E0 X) 30 [sbA t] (.bool (sbB t)))) rfl ?_
 cases hv:sbB t with
 | false =>
  repeat' (first|refine Zs rfl ?_|refine Zc rfl ?_)
  exact a0c ⟨_,rfl,.inr ⟨rfl,fun h=>by cases h.1⟩⟩
 | true =>
  obtain ⟨hlf,_,hl2⟩:=a9f hv
  have hll:(a1n t).length=t.fo.length+1:=rfl
  have hly:∀{n},a0g n (.sl 4 ((a1n t).map laA)):=a1k _
  have hlay:=a8k t (by omega) X
  have hszl:=fun h=>c1R hv h
  repeat' (first|refine Zs rfl ?_|refine Zc rfl ?_)
  refine Zp rfl rfl (hlay) rfl ?_
  repeat' (first|refine Zs rfl ?_|refine Zc rfl ?_)
  refine a0q (fun i:Nat=>⟨[(1,.sl 33 (ps.map ptA)),(2,.fp (sbL t)),(6,.int .i64 (szN ((a1n t).take i))),(26,.sl 4 ((a1n t).map laA)),(27,.int .i64 ((a1n t).length:Int)),(28,.int .i64 (i:Int))],[]⟩) (fun i=>i<=(a1n t).length/\∀l∈(a1n t).take i,l.rs<=8/\l.regs<=8) (fun i=>(a1n t).length - i) 0 ⟨Nat.zero_le _,fun l h=>by simp at h⟩ ?_ ?_
  ·refine a0i 0 (Nat.zero_le _) a2T rfl (Nat.le_refl 0) ?_
   exact a0a ⟨rfl,hpp⟩ (a0a ⟨rfl,hti⟩ (a0a ⟨rfl,trivial⟩ (a0a ⟨rfl,hly⟩ (a0a ⟨by rw [List.length_map];rfl,trivial⟩ (a0a ⟨rfl,trivial⟩ a0k)))))
  rintro i ⟨hi,hfi⟩
  repeat' (first|refine Zs rfl ?_|refine Zc rfl ?_)
  refine a0d rfl (fun h3=>?_) (fun h3=>?_)
  ·have hil:i<(a1n t).length:=by omega
   obtain ⟨l,hl⟩:∃l,(a1n t)[i]?=some l:=⟨_,List.getElem?_eq_getElem hil⟩
   have hiw:IntKind.i64.wrap ((i:Int)+1)=((i+1:Nat):Int):=a0p (by omega) (by omega)
   have hfm:=b2j (hlf l (List.mem_of_getElem? hl))
   have htk:(a1n t).take (i+1)=(a1n t).take i++[l]:=by rw [List.take_add_one,hl];rfl
   have hsn:szN ((a1n t).take (i+1))=max (szN ((a1n t).take i)) (74+l.regs*l.rs):=by rw [htk,c1S]
   generalize szN ((a1n t).take i)=z at *
   repeat' (refine Zc rfl ?_)
   refine Qa rfl ?_
   refine a0y hl rfl rfl rfl rfl rfl rfl rfl (by first|rfl|omega) rfl ?_
   refine nx rfl rfl ?_
   repeat' (refine Zs rfl ?_)
   refine Zh (Kz 0 [1,2,6,8,26,27,28] 0 a2T rfl rfl ⟨hpp,hti,trivial,(a1u:a0g _ (laA l)),hly,trivial,trivial,trivial⟩ ?_)
   repeat' (first|refine Zs rfl ?_|refine Zc rfl ?_)
   by_cases h8:l.rs > 8
   ·rw [decide_eq_true h8]
    repeat' (first|refine Zs rfl ?_|refine Zc rfl ?_)
    exact a0c ⟨_,rfl,.inr ⟨rfl,fun h=>by have:=h.2 l (List.mem_of_getElem? hl);omega⟩⟩
   rw [decide_eq_false h8]
   repeat' (refine Zs rfl ?_)
   by_cases h9:l.regs > 8
   ·rw [decide_eq_true h9]
    repeat' (first|refine Zs rfl ?_|refine Zc rfl ?_)
    exact a0c ⟨_,rfl,.inr ⟨rfl,fun h=>by have:=h.2 l (List.mem_of_getElem? hl);omega⟩⟩
   rw [decide_eq_false h9]
   repeat' (first|refine Zs rfl ?_|refine Zc rfl ?_)
   rw [hfm]
   refine ⟨i+1,⟨by omega,fun x hx=>?_⟩,by omega,?_⟩
   ·rw [htk] at hx
    rcases List.mem_append.1 hx with hx|hx
    ·exact hfi x hx
    ·rw [List.mem_singleton.1 hx];omega
   rw [hiw,hsn]
   exact kk 0 a2T rfl ⟨hpp,hti,trivial,hly,trivial,trivial,trivial⟩
  have hii:i=(a1n t).length:=by omega
  rw [hii,List.take_length] at hfi ⊢
  have hfi':∀l∈a1n t,l.rs<=8/\l.regs<=8:=hfi
  obtain ⟨hz1,hz2,hz3⟩:=hszl hfi'
  obtain ⟨n,hn⟩:=Int.eq_ofNat_of_zero_le (show 0<=szN (a1n t) by omega)
  have hdef':=fun r (a:a5h t (n*64) (ps.take 12) (a9E t) r) (b:r.new.length=n*64)=>hdef r.new hv hfi' (by rw [hn,Int.toNat_natCast];exact b) ⟨r,by rw [hn,Int.toNat_natCast];exact a,rfl⟩
  have hr0e:a9E t=(Rd.fresh (List.replicate (n*64) 0)).wr (t.gen%2).toNat (encS t (t.gen%2).toNat):=by unfold a9E;rw [hn,Int.toNat_natCast]
  rw [hn] at hz1 hz2 hz3 ⊢
  have hbl:=b3T (n:=n) (by omega)
  obtain ⟨hg1,hg2⟩:=b6K hv
  have hes:(encS t (t.gen%2).toNat).length=64:=a4V _ _
  have hse:Pur (E0 X) 33 [sbA t,.int .i64 ((t.gen%2).toNat:Int)] (.sl 1 ((encS t (t.gen%2).toNat).map u8A)):=⟨⟨a1P,trivial,trivial⟩,fun Y=>b2Q Y t _ hv (by omega)⟩
  have hw0:=a6j X (Rd.fresh (List.replicate (n*64) 0)) ((t.gen%2).toNat:Int) (encS t (t.gen%2).toNat) (by omega) (by rw [hbl.dirt,hbl.new]) (by rw [hbl.new];omega)
  rw [hbl.write (by omega) hes] at hw0
  have hr1:Lr (n*64) (a9E t):=by rw [hr0e];exact hbl.wr (by omega) hes
  rw [<- hr0e] at hw0
  clear hr0e
  have hbk:=c1c X n (by omega)
  generalize Rd.fresh (List.replicate (n*64) 0)=rb at *
  generalize hdr0:a9E t=r0 at *
  generalize encS t (t.gen%2).toNat=es at *
  repeat' (first|refine Zs rfl ?_|refine Zc rfl ?_)
  refine Zf rfl rfl (hbk) rfl rfl rfl ?_
  repeat' (first|refine Zs rfl ?_|refine Zc rfl ?_)
  refine a0o [9] [0,1,2,3,4,5,6,7] (by exact rfl) ?_
  refine a0C (fuel:=0) [0,1,2,3,4,5,6,7,8,9] (by exact rfl) (by kernel_rfl) (by kernel_rfl) ?_
  repeat' (refine Zd rfl ?_)
  rw [hg1]
  refine Zq rfl rfl rfl rfl (hse) rfl ?_
  skip
  refine a1D rfl rfl rfl ?_
  refine Cn rfl (hw0) rfl rfl ?_
  repeat' (first|refine Zs rfl ?_|refine Zc rfl ?_|refine Qk ?_|refine Qw (by kernel_rfl) ?_)
  refine a0q (fun q:Nat × Rd=>⟨[(1,.sl 33 (ps.map ptA)),(2,.fp (sbL t)),(9,.ptr 0 0),(10,.int .i64 (q.1:Int))],rdH q.2⟩) (fun q=>q.1<=ps.length/\q.1<=12/\Lr (n*64) q.2/\a5h t (n*64) (ps.take q.1) r0 q.2) (fun q=>12 - q.1) (0,r0) ⟨Nat.zero_le _,Nat.zero_le _,hr1,rfl⟩ ?_ ?_
  ·exact kk 4 (a1O r0) rfl ⟨hpp,hti,Nat.zero_lt_succ 3,trivial,trivial⟩
  rintro ⟨i,r⟩ ⟨hi0,hi1,hr2,hpr⟩
  replace hi0:i<=ps.length:=hi0
  replace hi1:i<=12:=hi1
  replace hr2:Lr (n*64) r:=hr2
  replace hpr:a5h t (n*64) (ps.take i) r0 r:=hpr
  show AWp _ _ _ _ _ ⟨[(1,.sl 33 (ps.map ptA)),(2,.fp (sbL t)),(9,.ptr 0 0),(10,.int .i64 (i:Int))],rdH r⟩
  repeat' (first|refine Zs rfl ?_|refine Zc rfl ?_)
  by_cases hip:i<ps.length
  rotate_left
  ·rw [decide_eq_false (show ¬ (i:Int)<((ps.map ptA).length:Int) by rw [List.length_map];omega)]
   repeat' (first|refine Zs rfl ?_|refine Zc rfl ?_)
   refine Zh (a0t (a0L 0 [2] (H':=[some (.arr (r.new.map u8A) 5)]) (os:=[.arr (r.new.map u8A) 5]) (sl':=[(4,.own 0 0 r.new.length),(5,.bool true)]) (Nat.zero_le _) (Nat.zero_le _) (by simp) (by simp) a2T rfl rfl ?_ ?_) ?_)
   ·exact a0a (a0D rfl) (a0a (a0F rfl trivial) a0k)
   ·exact a0v rfl (a0A 0 (fun i h=>absurd h (Nat.not_lt_zero i)) (a0h fun _=>a0n)) a0N
   refine a0t ((a0M (id:=0) (k:=1) (es:=r.new.map u8A) (e:=5) rfl rfl rfl).trans (a0i 0 (Nat.zero_le _) a2T rfl (Nat.zero_le _) (sl':=[(4,.sl 1 (r.new.map u8A)),(5,.bool true)]) ?_)) ?_
   ·refine a0a ⟨?_,(a0h fun _=>a0n:a0e _ (r.new.map u8A))⟩ (a0a ⟨rfl,trivial⟩ a0k)
    exact a3h (List.length_map _).symm
   exact a0c ⟨_,rfl,.inl ⟨r.new,hdef' r (by rw [takeN hi1 (.inl hip) hi0];exact hpr) hr2.new,rfl⟩⟩
  rw [decide_eq_true (show (i:Int)<((ps.map ptA).length:Int) by rw [List.length_map];omega)]
  repeat' (refine Zs rfl ?_)
  by_cases hi12:i<12
  rotate_left
  ·rw [decide_eq_false (show ¬ (i:Int)<12 by omega)]
   repeat' (first|refine Zs rfl ?_|refine Zc rfl ?_)
   refine Zh (a0t (a0L 0 [2] (H':=[some (.arr (r.new.map u8A) 5)]) (os:=[.arr (r.new.map u8A) 5]) (sl':=[(4,.own 0 0 r.new.length),(5,.bool true)]) (Nat.zero_le _) (Nat.zero_le _) (by simp) (by simp) a2T rfl rfl ?_ ?_) ?_)
   ·exact a0a (a0D rfl) (a0a (a0F rfl trivial) a0k)
   ·exact a0v rfl (a0A 0 (fun i h=>absurd h (Nat.not_lt_zero i)) (a0h fun _=>a0n)) a0N
   refine a0t ((a0M (id:=0) (k:=1) (es:=r.new.map u8A) (e:=5) rfl rfl rfl).trans (a0i 0 (Nat.zero_le _) a2T rfl (Nat.zero_le _) (sl':=[(4,.sl 1 (r.new.map u8A)),(5,.bool true)]) ?_)) ?_
   ·refine a0a ⟨?_,(a0h fun _=>a0n:a0e _ (r.new.map u8A))⟩ (a0a ⟨rfl,trivial⟩ a0k)
    exact a3h (List.length_map _).symm
   exact a0c ⟨_,rfl,.inl ⟨r.new,hdef' r (by rw [takeN hi1 (.inr hi12) hi0];exact hpr) hr2.new,rfl⟩⟩
  rw [decide_eq_true (show (i:Int)<12 by omega)]
  have hiw:IntKind.i64.wrap ((i:Int)+1)=((i+1:Nat):Int):=a0p (by omega) (by omega)
  obtain ⟨p,hpx⟩:∃p,ps[i]?=some p:=⟨_,List.getElem?_eq_getElem hip⟩
  have hpo:=hp p (List.mem_of_getElem? hpx)
  have hpi2:∀{n},a0g n (.fp (ptL p)):=b7Q
  repeat' (first|refine Zh ?_|refine Ql ?_|refine Qm ?_|refine Qp rfl ?_)
  refine a1r (I:=fun r':Rd=>b5N t (n*64) p r r') (σ:=fun r'=>⟨[(1,.sl 33 (ps.map ptA)),(2,.fp (sbL t)),(9,.ptr 0 0),(10,.int .i64 (i:Int))],rdH r'⟩) ?_ ?_
  rotate_left
  ·intro r' hr'
   repeat' (first|refine Zs rfl ?_|refine Zc rfl ?_)
   rw [hiw]
   refine ⟨(i+1,r'),⟨hip,hi12,hr'.1,?_⟩,by show 12 - (i+1)<12 - i;omega,?_⟩
   ·rw [show ps.take (i+1)=ps.take i++[p] by rw [List.take_add_one,hpx];rfl]
    exact hpr.snoc hr'
   ·exact kk 4 (a1O r') rfl ⟨hpp,hti,Nat.zero_lt_succ 3,trivial,trivial⟩
  refine Zc rfl ?_
  have hsame:¬ p.kind=0->b5N t (n*64) p r r:=fun h=>⟨hr2,fun h2=>absurd h2 h⟩
  have hcut:∀(r':Rd) (sl:List (Nat × AV)) (hp':Hp),get sl 1=.sl 33 (ps.map ptA)->get sl 2=.fp (sbL t)->get sl 9=.ptr 0 0->get sl 10=.int .i64 (i:Int)->hp'.take 4=rdH r'->4<=hp'.length ->
    Imp (E0 X) 214 0 ⟨sl,hp'⟩ ⟨[(1,.sl 33 (ps.map ptA)),(2,.fp (sbL t)),(9,.ptr 0 0),(10,.int .i64 (i:Int))],rdH r'⟩:=fun r' sl hp' a b c d e f =>
   a0i 4 (Nat.zero_le _) (a1O r') e f (a0a ⟨a,hpp⟩ (a0a ⟨b,hti⟩ (a0a ⟨c,Nat.zero_lt_succ 3⟩ (a0a ⟨d,trivial⟩ a0k))))
  repeat' (first|refine Zs rfl ?_|refine Zc rfl ?_)
  refine Qa rfl ?_
  refine a0y hpx rfl rfl rfl rfl rfl rfl rfl (by first|rfl|omega) rfl ?_
  refine nx rfl rfl ?_
  repeat' (refine Zs rfl ?_)
  refine Zh (Kz 4 [1,2,9,10,11] 4 (a1O r) rfl rfl ⟨hpp,hti,Nat.zero_lt_succ 3,trivial,hpi2,trivial⟩ ?_)
  repeat' (first|refine Zs rfl ?_|refine Zc rfl ?_)
  refine Zp rfl rfl (hlay) rfl ?_
  repeat' (first|refine Zs rfl ?_|refine Zc rfl ?_)
  have hlm:((a1n t).map laA).length=(a1n t).length:=List.length_map _
  obtain ⟨c,hc⟩:∃c,c=(a1n t).length:=⟨_,rfl⟩
  rw [hlm,<- hc]
  obtain ⟨q,hq1,hq2⟩:=c6N p.lay c (by omega) (by omega)
  rw [hq1]
  obtain ⟨l,hl⟩:∃l,(a1n t)[q]?=some l:=⟨_,List.getElem?_eq_getElem (by omega)⟩
  have hlm2:=List.mem_of_getElem? hl
  obtain ⟨hrs8,hrg8⟩:=hfi' l hlm2
  have hz4:=hz3 l hlm2
  have hli:∀{n},a0g n (.fp (laL l)):=fun {n}=>(a1u:a0g n (laA l))
  refine Qa rfl ?_
  refine a0y hl rfl rfl rfl rfl rfl rfl rfl (by first|rfl|omega) rfl ?_
  refine nx rfl rfl ?_
  repeat' (refine Zs rfl ?_)
  refine Zh (Kz 4 [1,2,9,10,11,13] 4 (a1O r) rfl rfl ⟨hpp,hti,Nat.zero_lt_succ 3,trivial,hpi2,hli,trivial⟩ ?_)
  clear hq1 hlm hc hq2
  repeat' (first|refine Zs rfl ?_|refine Zc rfl ?_)
  by_cases h0:p.kind=0
  ·rw [decide_eq_true h0]
   repeat' (first|refine Zs rfl ?_|refine Zc rfl ?_)
   refine a0o [5,7] [0,1,2,3,4,6] (by exact rfl) ?_
   refine a0C (fuel:=0) [0,1,2,3,4,5,6,7] (by exact rfl) (by kernel_rfl) (by kernel_rfl) ?_
   repeat' (first|refine Zd rfl ?_|refine Zk ?_)
   have hfillR:∀r',r'=(if c0J l (ptH l p)=0 then b2h r l (ptH l p) ((p.rs.take 5).map Rec.short) else r)->Lr (n*64) r'->b5N t (n*64) p r r':=fun r' a b=>⟨b,fun _=>⟨l,hlm2,a⟩⟩
   have hdh:hdL (ptH l p)=[.int .i64 l.ver,.int .i64 p.h.slot,.int .i64 l.id,.int .i64 p.h.seq,.int .i64 p.h.tail,.int .i64 p.h.now]:=rfl
   generalize ptH l p=h at *
   have hhi:∀{n},a0g n (.fp (hdL h)):=fun {n}=>(a4C:a0g n (hdA h))
   refine Qw (by kernel_rfl) (a0t ((a0X (id:=4) (cs:=hdL h) (by rw [hdh];rfl)).trans (a0i 4 (Nat.zero_le _) (a1O r) rfl (Nat.le_succ 4)
    (sl':=[(1,.sl 33 (ps.map ptA)),(2,.fp (sbL t)),(9,.ptr 0 0),(10,.int .i64 (i:Int)),(11,.fp (ptL p)),(13,.fp (laL l)),(14,.fp (hdL h))]) ?_)) ?_)
   ·exact a0a ⟨rfl,hpp⟩ (a0a ⟨rfl,hti⟩ (a0a ⟨rfl,Nat.zero_lt_succ 3⟩ (a0a ⟨rfl,trivial⟩ (a0a ⟨rfl,hpi2⟩ (a0a ⟨rfl,hli⟩ (a0a ⟨rfl,hhi⟩ a0k))))))
   clear hdh
   repeat' (first|refine Zs rfl ?_|refine Zc rfl ?_)
   refine Zp rfl rfl (c7q l h X) rfl ?_
   repeat' (refine Zs rfl ?_)
   by_cases hm:c0J l h≠0
   ·rw [decide_eq_true hm]
    repeat' (refine Zc rfl ?_)
    exact ⟨rfl,r,hfillR r (by rw [if_neg hm]) hr2,hcut r _ _ rfl rfl rfl rfl rfl (Nat.le_refl 4)⟩
   rw [decide_eq_false hm]
   have hm0:c0J l h=0:=Classical.not_not.1 hm
   rw [if_pos hm0] at hfillR
   have hm1:a1f l=true/\hdB h=true/\h.ver=l.ver/\h.lay=l.id/\h.slot<l.regs:=by
    unfold c0J at hm0
    split at hm0
    ·rename_i hq
     split at hm0
     ·cases hm0
     ·exact ⟨hq.1,hq.2.1,hq.2.2.1,hq.2.2.2,by omega⟩
    ·cases hm0
   obtain ⟨hm2,hm3,-,-,hm4⟩:=hm1
   obtain ⟨hn1,hn2,hn3,hn4,-⟩:=a8f hm3
   obtain ⟨hn5,hn6,hn7⟩:=a2Z hm2 hn1 hm4
   have hrs:=a1M hm2
   have hfit:74+h.slot*l.rs+l.rs<=(n:Int):=by
    have e1:(h.slot+1)*l.rs<=l.regs*l.rs:=Int.mul_le_mul_of_nonneg_right (by omega) (by omega)
    rw [Int.add_mul,Int.one_mul] at e1
    omega
   obtain ⟨F,hF⟩:=Int.eq_ofNat_of_zero_le (show 0<=74+h.slot*l.rs by omega)
   obtain ⟨sq,hsq⟩:=Int.eq_ofNat_of_zero_le (show 0<=h.seq by omega)
   have hFw:IntKind.i64.wrap (74+IntKind.i64.wrap (h.slot*l.rs))=(F:Int):=by rw [hn5,hF]
   have hfr:∀rs,b2h r l h rs=b9E F sq (rs.foldl (b5D l F sq) ((r.wr F (a5L h F)).bar,[],0)):=fun rs=>by
    unfold b2h c8L c5N
    rw [hF,hsq];rfl
   rw [hfr] at hfillR
   have hop:=c1u X r (n*64) hr2 l h F hm3 hFw (by omega)
   have hlo:=(hr2.wr (k:=F) (by omega) (a4U h F)).bar
   generalize (r.wr F (a5L h F)).bar=ro at *
   obtain ⟨R,hR⟩:∃R:Nat,l.rs=R:=⟨l.rs.toNat,by omega⟩
   repeat' (first|refine Zs rfl ?_|refine Zc rfl ?_)
   refine Zf rfl rfl (hop) rfl rfl rfl ?_
   repeat' (first|refine Zs rfl ?_|refine Zc rfl ?_)
   have hfl:(F+l.rs.toNat)*64<=n*64:=by omega
   refine a0q (fun q:Nat × Rd × List UInt8 × Nat=>⟨[(1,.sl 33 (ps.map ptA)),(2,.fp (sbL t)),(9,.ptr 0 0),(10,.int .i64 (i:Int)),(11,.fp (ptL p)),(15,.ptr 4 0),(17,.int .i64 (q.1:Int))],rrH q.2.1 h l q.2.2.1 q.2.2.2⟩) (fun q=>q.1<=p.rs.length/\q.1<=5/\q.2=((p.rs.take q.1).map Rec.short).foldl (b5D l F sq) (ro,[],0)/\WJ (n*64) l q.2) (fun q=>5 - q.1) (0,ro,[],0) ⟨Nat.zero_le _,Nat.zero_le _,rfl,⟨hlo,by simp,by show ((0:Nat):Int)<=_;omega⟩⟩ ?_ ?_
   ·exact kk 7 (a6U ro h l [] 0) rfl ⟨hpp,hti,Nat.zero_lt_succ 6,trivial,hpi2,(by decide:4<7),trivial,trivial⟩
   rintro ⟨k,d,st,tt⟩ ⟨k1,k2,k3,k4⟩
   replace k1:k<=p.rs.length:=k1
   replace k2:k<=5:=k2
   replace k3:(d,st,tt)=((p.rs.take k).map Rec.short).foldl (b5D l F sq) (ro,[],0):=k3
   replace k4:WJ (n*64) l (d,st,tt):=k4
   show AWp _ _ _ _ _ ⟨[(1,.sl 33 (ps.map ptA)),(2,.fp (sbL t)),(9,.ptr 0 0),(10,.int .i64 (i:Int)),(11,.fp (ptL p)),(15,.ptr 4 0),(17,.int .i64 (k:Int))],rrH d h l st tt⟩
   repeat' (first|refine Zs rfl ?_|refine Zc rfl ?_)
   by_cases hk:k<p.rs.length
   rotate_left
   ·rw [decide_eq_false (show ¬ (k:Int)<((p.rs.map a6Z).length:Int) by rw [List.length_map];omega)]
    have htt:tt=st.length / 59:=k4.tt
    have hcp:(st.length:Int)<=(l.rs - 1)*59:=k4.cap
    have hpc:=b2E hcp
    have hpl:st.length<=(padS st).length:=by simp [padS]
    have hsy:=b4t X d (n*64) k4.lr l h F sq st tt ((padS st).length / 59 - tt) hsq (by omega) hFw (by omega) (by omega) (by omega) (by omega)
    have hls:=k4.sync (F:=F) (seq:=sq) hfl
    have hff:=hfillR (b9E F sq (d,st,tt)) (by rw [takeN k2 (.inl hk) k1,<- k3]) hls
    have e1:b9E F sq (d,st,tt)=(a7C d F sq (padS st) tt ((padS st).length / 59 - tt)).bar:=rfl
    rw [<- e1] at hsy
    generalize b9E F sq (d,st,tt)=r3 at *
    generalize tt+((padS st).length / 59 - tt)=t3 at *
    generalize padS st=s3 at *
    repeat' (first|refine Zs rfl ?_|refine Zc rfl ?_)
    refine Zf rfl rfl (hsy) rfl rfl rfl ?_
    skip
    exact ⟨rfl,r3,hff,hcut r3 _ _ rfl rfl rfl rfl rfl (Nat.le_add_right 4 4)⟩
   rw [decide_eq_true (show (k:Int)<((p.rs.map a6Z).length:Int) by rw [List.length_map];omega)]
   repeat' (refine Zs rfl ?_)
   by_cases hk5:k<5
   rotate_left
   ·rw [decide_eq_false (show ¬ (k:Int)<5 by omega)]
    have htt:tt=st.length / 59:=k4.tt
    have hcp:(st.length:Int)<=(l.rs - 1)*59:=k4.cap
    have hpc:=b2E hcp
    have hpl:st.length<=(padS st).length:=by simp [padS]
    have hsy:=b4t X d (n*64) k4.lr l h F sq st tt ((padS st).length / 59 - tt) hsq (by omega) hFw (by omega) (by omega) (by omega) (by omega)
    have hls:=k4.sync (F:=F) (seq:=sq) hfl
    have hff:=hfillR (b9E F sq (d,st,tt)) (by rw [takeN k2 (.inr hk5) k1,<- k3]) hls
    have e1:b9E F sq (d,st,tt)=(a7C d F sq (padS st) tt ((padS st).length / 59 - tt)).bar:=rfl
    rw [<- e1] at hsy
    generalize b9E F sq (d,st,tt)=r3 at *
    generalize tt+((padS st).length / 59 - tt)=t3 at *
    generalize padS st=s3 at *
    repeat' (first|refine Zs rfl ?_|refine Zc rfl ?_)
    refine Zf rfl rfl (hsy) rfl rfl rfl ?_
    skip
    exact ⟨rfl,r3,hff,hcut r3 _ _ rfl rfl rfl rfl rfl (Nat.le_add_right 4 4)⟩
   rw [decide_eq_true (show (k:Int)<5 by omega)]
   obtain ⟨rc,hrc⟩:∃rc,p.rs[k]?=some rc:=⟨_,List.getElem?_eq_getElem hk⟩
   have hky:=hpo.key rc (List.mem_of_getElem? hrc)
   have hshr:Pur (E0 X) 37 [a6Z rc] (a6Z rc.short):=⟨⟨a2F,trivial⟩,fun Y=>c1v Y rc hky.1 hky.2⟩
   have hnx:((p.rs.take (k+1)).map Rec.short).foldl (b5D l F sq) (ro,[],0)=b5D l F sq (d,st,tt) rc.short:=by
    rw [k3,List.take_add_one,hrc];simp
   have hkw:IntKind.i64.wrap ((k:Int)+1)=((k+1:Nat):Int):=a0p (by omega) (by omega)
   have hw3:=k4.app (F:=F) (seq:=sq) (r:=rc.short) hfl
   generalize rc.short=r2 at *
   repeat' (first|refine Zs rfl ?_|refine Zc rfl ?_)
   refine Qa rfl ?_
   refine a0y hrc rfl rfl rfl rfl rfl rfl rfl (by first|rfl|omega) rfl ?_
   refine nx rfl rfl ?_
   repeat' (refine Zs rfl ?_)
   refine Zp rfl rfl (hshr) rfl ?_
   skip
   have htt:tt=st.length / 59:=k4.tt
   have hcp:(st.length:Int)<=(l.rs - 1)*59:=k4.cap
   by_cases hc:a3U l.ver r2=0/\(st.length:Int)+(a1K r2:Int)<=(l.rs - 1)*59
   ·have e1:b5D l F sq (d,st,tt) r2=(a7C d F sq (st++a2d l.ver sq st.length r2) tt ((st++a2d l.ver sq st.length r2).length / 59 - tt),st++a2d l.ver sq st.length r2,(st++a2d l.ver sq st.length r2).length / 59):=if_pos hc
    rw [e1] at hnx hw3
    have hel:(st++a2d l.ver sq st.length r2).length=st.length+a1K r2:=by rw [List.length_append,a2E]
    have ha:=c1s X d (n*64) k4.lr l h F sq st tt r2 ((st++a2d l.ver sq st.length r2).length / 59 - tt) hsq (by omega) hFw (by omega) hc.1 (by omega) hc.2 (by omega) (by omega)
    rw [show tt+((st++a2d l.ver sq st.length r2).length / 59 - tt)=(st++a2d l.ver sq st.length r2).length / 59 by omega] at ha
    generalize st++a2d l.ver sq st.length r2=s3 at *
    generalize a7C d F sq s3 tt (s3.length / 59 - tt)=d3 at *
    generalize s3.length / 59=t3 at *
    refine Zf rfl rfl (ha) rfl rfl rfl ?_
    repeat' (first|refine Zs rfl ?_|refine Zc rfl ?_)
    refine ⟨(k+1,d3,s3,t3),⟨hk,hk5,hnx.symm,hw3⟩,by show 5 - (k+1)<5 - k;omega,?_⟩
    rw [hkw]
    refine a0L 4 [4,5,7] (H':=rrH d3 h l s3 t3) (os:=[rrC h,rpC l h.slot h.seq s3.length t3 6,arB s3]) (Nat.zero_le _) ?_ ?_ ?_ (a1O d3) rfl rfl ?_ ?_
    ·simp [rdH]
    ·simp
    ·simp
    ·exact a0a (a0s rfl hpp) (a0a (a0s rfl hti) (a0a (a0s rfl (by decide:0<4)) (a0a (a0s rfl trivial) (a0a (a0s rfl hpi2) (a0a (a1g rfl) (a0a (a0s rfl trivial) a0k))))))
    ·repeat' (first|exact a0N|exact a3b.nil|refine a0v rfl (a1j ?_) ?_|refine a0v rfl (a0A 0 (fun i h=>absurd h (Nat.not_lt_zero i)) (by simp [a2u,a0e,a0g])) ?_|refine a3b.cons ?_ ?_|exact a0D rfl|exact a1g rfl|exact a0s rfl (by first|trivial|(simp [a0g,a0e];done)))
   have e1:b5D l F sq (d,st,tt) r2=(d,st,tt):=if_neg hc
   rw [e1] at hnx hw3
   have hcu:∀(sl:List (Nat × AV)),get sl 1=.sl 33 (ps.map ptA)->get sl 2=.fp (sbL t)->get sl 9=.ptr 0 0->get sl 10=.int .i64 (i:Int)->get sl 11=.fp (ptL p)->get sl 15=.ptr 4 0->get sl 17=.int .i64 (IntKind.i64.wrap ((k:Int)+1)) ->
     Imp (E0 X) 214 0 ⟨sl,rrH d h l st tt⟩ ⟨[(1,.sl 33 (ps.map ptA)),(2,.fp (sbL t)),(9,.ptr 0 0),(10,.int .i64 (i:Int)),(11,.fp (ptL p)),(15,.ptr 4 0),(17,.int .i64 ((k+1:Nat):Int))],rrH d h l st tt⟩:=fun sl a b c e f g j =>
    a0i 7 (Nat.zero_le _) (a6U d h l st tt) rfl (Nat.le_refl 7) (a0a ⟨a,hpp⟩ (a0a ⟨b,hti⟩ (a0a ⟨c,Nat.zero_lt_succ 6⟩ (a0a ⟨e,trivial⟩ (a0a ⟨f,hpi2⟩ (a0a ⟨g,(by decide:4<7)⟩ (a0a ⟨by rw [<- hkw];exact j,trivial⟩ a0k)))))))
   by_cases hc1:a3U l.ver r2=0
   ·refine Zf rfl rfl (b5l X d l h st tt r2 hc1 (by omega) (by omega) (by have:¬ (st.length:Int)+(a1K r2:Int)<=(l.rs - 1)*59:=fun hh=>hc ⟨hc1,hh⟩;omega)) rfl rfl rfl ?_
    repeat' (first|refine Zs rfl ?_|refine Zc rfl ?_)
    exact ⟨(k+1,d,st,tt),⟨hk,hk5,hnx.symm,hw3⟩,(by show 5 - (k+1)<5 - k;omega),hcu _ rfl rfl rfl rfl rfl rfl rfl⟩
   refine Zf rfl rfl (b8p X d l h st tt r2 hc1) rfl rfl rfl ?_
   repeat' (first|refine Zs rfl ?_|refine Zc rfl ?_)
   exact ⟨(k+1,d,st,tt),⟨hk,hk5,hnx.symm,hw3⟩,(by show 5 - (k+1)<5 - k;omega),hcu _ rfl rfl rfl rfl rfl rfl rfl⟩
  rw [decide_eq_false h0]
  repeat' (first|refine Zs rfl ?_|refine Zc rfl ?_)
  by_cases h1:p.kind=1
  ·rw [decide_eq_true h1]
   repeat' (first|refine Zs rfl ?_|refine Zc rfl ?_)
   have hpv:Pur (E0 X) 39 [plA p.p] (.bool (a1Z p.p)):=⟨⟨a3o,trivial⟩,fun Y=>b4u Y p.p⟩
   refine Zp rfl rfl (hpv) rfl ?_
   cases hb:a1Z p.p with
   | false =>
    repeat' (refine Zc rfl ?_)
    exact ⟨rfl,r,hsame h0,hcut r _ _ rfl rfl rfl rfl rfl (Nat.le_refl 4)⟩
   | true =>
    obtain ⟨u,hu,_,hu1,hu2,_,_⟩:=a2L hb
    have hse:a7q p.p.mig p.p.idx=(b5q u:Int):=by rw [hu];exact c7E hu1.1 hu2
    have hk:b5q u<=73:=by
     have h:=hse
     unfold a7q at h
     split at h<;>omega
    have hps:Pur (E0 X) 40 [.int .i64 p.p.mig,.int .i64 p.p.idx] (.int .i64 (a7q p.p.mig p.p.idx)):=⟨⟨trivial,trivial,trivial⟩,fun Y=>b1t Y _ _ (by rw [hu];show (u.mig:Int)<=_;omega)⟩
    have hpe:Pur (E0 X) 41 [plA p.p,.int .i64 (b5q u:Int)] (.sl 1 ((b4R u (b5q u)).map u8A)):=⟨⟨a3o,trivial,trivial⟩,fun Y=>by rw [hu];exact b8m Y u (b5q u) (by rw [<- hu];exact hb) (by omega)⟩
    have hel:=b3A u (b5q u)
    have hw:=a6j X r (b5q u:Int) (b4R u (b5q u)) (by omega) (by rw [hr2.dirt,hr2.new]) (by rw [hr2.new];omega)
    rw [hr2.write (by omega) hel] at hw
    have hlr:=hr2.wr (k:=b5q u) (by omega) hel
    generalize r.wr (b5q u) (b4R u (b5q u))=r3 at *
    repeat' (first|refine Zs rfl ?_|refine Zc rfl ?_)
    refine Zp rfl rfl (hps) rfl ?_
    rw [hse]
    repeat' (first|refine Zs rfl ?_|refine Zc rfl ?_)
    refine Zp rfl rfl (hpe) rfl ?_
    skip
    refine Zf rfl rfl (hw) rfl rfl rfl ?_
    skip
    exact ⟨rfl,r3,⟨hlr,fun h=>absurd h h0⟩,hcut r3 _ _ rfl rfl rfl rfl rfl (Nat.le_refl 4)⟩
  rw [decide_eq_false h1]
  repeat' (first|refine Zs rfl ?_|refine Zc rfl ?_)
  by_cases h2:p.kind=2
  ·rw [decide_eq_true h2]
   have hsh2:Pur (E0 X) 29 [sbA p.s] (sbA p.s.short):=⟨⟨a1P,trivial⟩,fun Y=>b8M Y p.s⟩
   generalize p.s.short=u at *
   have hui:∀{n},a0g n (.fp (sbL u)):=b0u u
   repeat' (first|refine Zs rfl ?_|refine Zc rfl ?_)
   refine Zp rfl rfl (hsh2) rfl ?_
   repeat' (refine Zs rfl ?_)
   refine Zh (Kz 4 [1,2,9,10,19] 4 (a1O r) rfl rfl ⟨hpp,hti,Nat.zero_lt_succ 3,trivial,hui,trivial⟩ ?_)
   repeat' (first|refine Zs rfl ?_|refine Zc rfl ?_)
   refine Zp rfl rfl ((⟨⟨a1P,trivial⟩,fun Y=>a8z Y u⟩:Pur (E0 X) 30 [sbA u] (.bool (sbB u)))) rfl ?_
   cases hb:sbB u with
   | false =>
    repeat' (first|refine Zs rfl ?_|refine Zc rfl ?_)
    exact ⟨rfl,r,hsame h0,hcut r _ _ rfl rfl rfl rfl rfl (Nat.le_refl 4)⟩
   | true =>
    repeat' (refine Zs rfl ?_)
    by_cases hg:u.gen.tmod 2≠t.gen.tmod 2
    rotate_left
    ·rw [decide_eq_false hg]
     repeat' (refine Zc rfl ?_)
     exact ⟨rfl,r,hsame h0,hcut r _ _ rfl rfl rfl rfl rfl (Nat.le_refl 4)⟩
    rw [decide_eq_true hg]
    obtain ⟨hg3,hg4⟩:=b6K hb
    have hel:(encS u (u.gen%2).toNat).length=64:=a4V _ _
    have hse:Pur (E0 X) 33 [sbA u,.int .i64 ((u.gen%2).toNat:Int)] (.sl 1 ((encS u (u.gen%2).toNat).map u8A)):=⟨⟨a1P,trivial,trivial⟩,fun Y=>b2Q Y u _ hb (by omega)⟩
    have hw:=a6j X r ((u.gen%2).toNat:Int) (encS u (u.gen%2).toNat) (by omega) (by rw [hr2.dirt,hr2.new]) (by rw [hr2.new];omega)
    rw [hr2.write (by omega) hel] at hw
    have hlr:=hr2.wr (k:=(u.gen%2).toNat) (by omega) hel
    generalize r.wr (u.gen%2).toNat (encS u (u.gen%2).toNat)=r3 at *
    repeat' (refine Zc rfl ?_)
    refine a0o [9] [0,1,2,3,4,5,6,7] (by exact rfl) ?_
    refine a0C (fuel:=0) [0,1,2,3,4,5,6,7,8,9] (by exact rfl) (by kernel_rfl) (by kernel_rfl) ?_
    repeat' (refine Zd rfl ?_)
    rw [hg3]
    refine Zq rfl rfl rfl rfl (hse) rfl ?_
    skip
    refine a1D rfl rfl rfl ?_
    refine Cn rfl (hw) rfl rfl ?_
    repeat' (first|refine Qk ?_|refine Qw (by kernel_rfl) ?_)
    exact ⟨rfl,r3,⟨hlr,fun h=>absurd h h0⟩,hcut r3 _ _ rfl rfl rfl rfl rfl (Nat.le_refl 4)⟩
  rw [decide_eq_false h2]
  repeat' (refine Zc rfl ?_)
  have hnl:r.new.length=n*64:=hr2.new
  obtain ⟨k,hk,hk2⟩:=c6N p.pos r.new.length (by omega) (by omega)
  have hne:(r.new.length:Int)≠0:=by omega
  obtain ⟨y,hy⟩:∃y,r.new[k]?=some y:=⟨_,List.getElem?_eq_getElem (by omega)⟩
  refine a0o [30] [0,1,2,4,5,6,7,8,10,12,13,14,16,17,18,19,20,22,26,27,28] (by exact rfl) ?_
  refine a0C (fuel:=0) [0,1,2,3,4,5,6,7,8,9,10,11,12,13,14,15,16,17,18,19,20,21,22,23,24,25,26,27,28,29,30] (by exact rfl) (by kernel_rfl) (by kernel_rfl) ?_
  repeat' (refine Zd rfl ?_)
  apply ds rfl rfl rfl rfl
  ·refine b1D rfl rfl hne ?_
   exact nx rfl rfl ⟨rfl,rfl⟩
  repeat' (refine Zd rfl ?_)
  apply ds rfl rfl rfl rfl
  ·refine b1D rfl rfl hne ?_
   rw [hk]
   exact nx rfl rfl ⟨rfl,rfl⟩
  skip
  apply ds rfl rfl rfl rfl
  ·refine a1Y (j:=k) (p:=k) (rfl) (by first|omega|assumption|(simp;omega)) (by omega) rfl rfl rfl rfl rfl rfl rfl rfl ?_
   exact nx rfl rfl ⟨rfl,rfl⟩
  apply ds rfl rfl rfl rfl
  ·refine a2C rfl rfl (y:=u8A y) (by simp [hy]) rfl rfl rfl ?_
   exact nx rfl rfl ⟨rfl,rfl⟩
  repeat' (refine Zd rfl ?_)
  rw [c5T]
  apply ds rfl rfl rfl rfl
  ·refine a1Y (j:=k) (p:=k) (rfl) (by first|omega|assumption|(simp;omega)) (by omega) rfl rfl rfl rfl rfl rfl rfl rfl ?_
   exact nx rfl rfl ⟨rfl,rfl⟩
  refine b6t rfl rfl rfl ?_
  refine a3t rfl rfl rfl rfl (y:=u8A y) (by simp [hy]) rfl rfl rfl rfl rfl ?_
  refine nx rfl rfl ?_
  repeat' (first|refine Qk ?_|refine Qw (by kernel_rfl) ?_)
  exact ⟨rfl,{ r with new:=r.new.set k (y+p.add) },⟨c4B hr2,fun h=>absurd h h0⟩,hcut _ _ _ rfl rfl rfl rfl (by rw [a4F (List.length_set ..),List.map_set];rfl) (Nat.le_refl 4)⟩
theorem c0k(X:Nat->Prop)(s:Sb)(ps:List Pt)(hp:∀p∈ps,c8Y p)(hpl:ps.length<=maxLen):a0b (E0 X) 8 [sbA s,.sl 33 (ps.map ptA)] []
  (fun r H'=>(∃img,c8g s ps img/\r=.tup [.sl 1 (img.map u8A),.bool true]/\H'=[])\/(r=.tup [.sl 1 [],.bool false]/\H'=[]/\¬ (sbB s.short=true/\∀l∈a1n s.short,l.rs<=8/\l.regs<=8))) :=
 (c0l X s ps hp hpl).imp fun r H' h=>by
  rcases h with ⟨img,h1,rfl⟩|⟨rfl,h1⟩
  ·exact ⟨_,_,.inl ⟨img,h1,rfl,rfl⟩,kk 0 a2T rfl ⟨(⟨a0h fun _=>a0n,trivial,trivial⟩:a0g 0 (.tup [.sl 1 (img.map u8A),.bool true])),trivial⟩⟩
  ·exact ⟨_,_,.inr ⟨rfl,rfl,h1⟩,(a4Z (r':=.tup [.sl 1 [],.bool false]) fun m w u hu=>c1l hu).trans (kk 0 a2T rfl ⟨(⟨trivial,trivial,trivial⟩:a0g 0 (.tup [.sl 1 [],.bool false])),trivial⟩)⟩
def wkT:La:=⟨1,1,4,4⟩
def wkS:Sb:=⟨1,1,0,4,0,wkT,⟨0,0,0,0⟩,[]⟩
def d0q:Hd:=⟨0,1,0,6,5,0⟩
def wkH:Hd:=⟨1,1,1,6,5,0⟩
def wkR:Rec:=⟨1,[107],[],0⟩
def wkP:Pt:=⟨0,0,d0q,[wkR],⟨0,0,0,0,⟨0,0,0,0⟩⟩,a4u,0,0⟩
def wkB:List UInt8:=[]++a2d 1 6 ([]:List UInt8).length wkR
def wkI:List UInt8:=b7S (b7S (b7S (List.replicate 5760 0) 1 (encS wkS 1)) 78 (a5L wkH 78)) 79 (frN 78 6 (padS wkB) 0)
theorem b9q:wkB.length=17:=by
 unfold wkB
 rw [List.nil_append,a2E];rfl
theorem b3i:(padS wkB).length=59:=by
 have:=b9q
 simp only [padS,List.length_append,List.length_replicate]
 omega
theorem c3f:sbB wkS=true:=by kernel_rfl
theorem c3d:hdB wkH=true:=by kernel_rfl
theorem c3g:a1f wkT=true:=by kernel_rfl
theorem c3e:a3U 1 wkR=0:=by kernel_rfl
theorem c7Z:c0J wkT (ptH wkT wkP)=0:=by
 unfold c0J
 rw [if_pos ⟨c3g,c3d,rfl,rfl⟩];rfl
theorem c8b:Lr 5760 (Rd.fresh (List.replicate 5760 0)):=b3T (n:=90) (by decide)
theorem c7U(d:Rd):b5D wkT 78 6 (d,[],0) wkR=(d,wkB,0):=by
 have h1:=b9q
 unfold b5D
 rw [if_pos ⟨c3e,(by decide:((0:Nat):Int)+((17:Nat):Int)<=(4 - 1)*59)⟩]
 show (a7C d 78 6 wkB 0 (wkB.length / 59 - 0),wkB,wkB.length / 59)=_
 rw [h1]
 rfl
theorem c5D(d:Rd):b2h d wkT (ptH wkT wkP) [wkR]=((((d.wr 78 (a5L wkH 78)).bar).wr 79 (frN 78 6 (padS wkB) 0)).bar):=by
 have e1:c5N wkT (ptH wkT wkP)=78:=rfl
 have e2:(ptH wkT wkP).seq.toNat=6:=rfl
 have e3:c8L d wkT (ptH wkT wkP)=(d.wr 78 (a5L wkH 78)).bar:=rfl
 unfold b2h
 rw [e1,e2,e3]
 generalize (d.wr 78 (a5L wkH 78)).bar=d1
 have e4:∀f:(Rd × List UInt8 × Nat)->Rec->(Rd × List UInt8 × Nat),[wkR].foldl f (d1,[],0)=f (d1,[],0) wkR:=fun _=>rfl
 rw [e4,c7U]
 unfold b9E
 have e5:=b3i
 show (a7C d1 78 6 (padS wkB) 0 ((padS wkB).length / 59 - 0)).bar=_
 generalize padS wkB=z at *
 rw [e5]
 rfl
theorem c7Y{img:List UInt8}(h:c8g wkS [wkP] img):img=wkI:=by
 obtain ⟨r,⟨r1,⟨h1,h2⟩,h3⟩,rfl⟩:=h.ex
 have h3':r=r1:=h3
 subst h3'
 obtain ⟨l,hl,h4⟩:=h2 rfl
 have hl':l=wkT:=List.mem_singleton.1 hl
 subst hl'
 rw [if_pos c7Z] at h4
 have h5:r=b2h (a9E wkS) wkT (ptH wkT wkP) [wkR]:=h4
 rw [c5D] at h5
 have e1:(encS wkS 1).length=64:=a4V _ _
 have e2:(a5L wkH 78).length=64:=a4U _ _
 have e3:(frN 78 6 (padS wkB) 0).length=64:=a8e
 have e4:a9E wkS=(Rd.fresh (List.replicate 5760 0)).wr 1 (encS wkS 1):=rfl
 rw [e4] at h5
 have a1:=c8b.wr (k:=1) (by decide) e1
 have a2:=(a1.wr (k:=78) (by decide) e2).bar
 have a3:=a2.wr (k:=79) (by decide) e3
 rw [h5,a3.bar_new,a2.wr_new e3,(a1.wr (k:=78) (by decide) e2).bar_new,a1.wr_new e2,c8b.wr_new e1]
 rfl
theorem a4P:wkI.length=5760:=by
 have e1:(encS wkS 1).length=64:=a4V _ _
 have e2:(a5L wkH 78).length=64:=a4U _ _
 have e3:(frN 78 6 (padS wkB) 0).length=64:=a8e
 have l0:(List.replicate 5760 (0:UInt8)).length=5760:=List.length_replicate
 have l1:=a5b (k:=1) (by rw [l0];decide) e1
 have l2:=a5b (k:=78) (by rw [l1,l0];decide) e2
 have l3:=a5b (k:=79) (by rw [l2,l1,l0];decide) e3
 unfold wkI
 rw [l3,l2,l1,l0]
theorem b1K(j:Nat)(hj:j<90):(wkI.drop (j*64)).take 64=if j=79 then frN 78 6 (padS wkB) 0 else if j=78 then a5L wkH 78 else if j=1 then encS wkS 1 else List.replicate 64 0:=by
 have e1:(encS wkS 1).length=64:=a4V _ _
 have e2:(a5L wkH 78).length=64:=a4U _ _
 have e3:(frN 78 6 (padS wkB) 0).length=64:=a8e
 have l0:(List.replicate 5760 (0:UInt8)).length=5760:=List.length_replicate
 have l1:=a5b (k:=1) (by rw [l0];decide) e1
 have l2:=a5b (k:=78) (by rw [l1,l0];decide) e2
 unfold wkI
 rw [b0v (by rw [l2,l1,l0];decide) e3 (by rw [l2,l1,l0];omega),b0v (by rw [l1,l0];decide) e2 (by rw [l1,l0];omega),b0v (by rw [l0];decide) e1 (by rw [l0];omega),List.drop_replicate,List.take_replicate,Nat.min_eq_left (by omega)]
attribute [local irreducible] wkI
theorem c5C:a2H wkI 2=some wkS:=by
 have h0:=b1K 0 (by decide)
 have h1:=b1K 1 (by decide)
 show a2k (a2k none 0 ((wkI.drop (0*64)).take 64)) 1 ((wkI.drop (1*64)).take 64)=_
 rw [h0,h1,if_neg (by decide),if_neg (by decide),if_neg (by decide),if_neg (by decide),if_neg (by decide),if_pos rfl]
 unfold a2k
 rw [a7W,b6r c3f]
 rfl
theorem b4E(i:Nat)(hi:i<4):a2O wkI wkT (i:Int)=if i=1 then some wkH else none:=by
 have h:=b1K (74+i*4) (by omega)
 have e:(74:Int)+(i:Int)*wkT.rs=((74+i*4:Nat):Int):=by
  show (74:Int)+(i:Int)*4=_
  omega
 unfold a2O
 rw [if_pos ⟨c3g,by omega,by show (i:Int)<4;omega⟩,e,b2S (by rw [a4P];omega),h,Int.toNat_natCast]
 by_cases h1:i=1
 ·subst h1
  rw [if_pos rfl,if_neg (by decide),if_pos rfl,b6p c3d]
  rfl
 rw [if_neg h1,if_neg (by omega),if_neg (by omega),if_neg (by omega)]
 unfold a7V
 rw [b0N (by decide)]
 rfl
theorem c7V:a3T (a2O wkI) (a1n wkS)=[⟨wkH,wkT⟩]:=by
 have h0:=b4E 0 (by decide)
 have h1:=b4E 1 (by decide)
 have h2:=b4E 2 (by decide)
 have h3:=b4E 3 (by decide)
 have e1:a1n wkS=[wkT]:=rfl
 have e2:wkT.regs.toNat=4:=rfl
 unfold a3T
 rw [e1,List.flatMap_cons,List.flatMap_nil,List.append_nil,e2]
 generalize a2O wkI=f at *
 unfold a7l
 have e:List.range 4=[0,1,2,3]:=rfl
 rw [e]
 simp at h0 h1 h2 h3
 simp [List.filterMap,h0,h1,h2,h3]
theorem c8e:a5g wkI 6 3 79=padS wkB:=by
 have e1:∀m F:Nat,a5g wkI 6 (m+1) F=match a2M 2 6 F (a5c wkI (F:Int)) with
  | none=>[]
  | some p=>p++a5g wkI 6 m (F+1):=fun _ _=>rfl
 have h:=c3H (F:=78) (seq:=6) (t:=0) (s:=padS wkB) (by rw [b3i];decide)
 have s1:a5c wkI ((79:Nat):Int)=frN 78 6 (padS wkB) 0:=by rw [b2S (by rw [a4P];omega),b1K 79 (by decide),if_pos rfl]
 have s2:a5c wkI ((80:Nat):Int)=List.replicate 64 0:=by rw [b2S (by rw [a4P];omega),b1K 80 (by decide),if_neg (by decide),if_neg (by decide),if_neg (by decide)]
 have e2:a5g wkI 6 2 80=[]:=by rw [e1 1 80,s2,b0N (by decide)]
 have e3:a5g wkI 6 3 79=(((padS wkB).drop (0*59)).take 59)++a5g wkI 6 2 80:=by rw [e1 2 79,s1,h]
 rw [e3,e2,List.append_nil,Nat.zero_mul,List.drop_zero,List.take_of_length_le (by rw [b3i];decide)]
theorem c8c:a9k wkI ⟨wkH,wkT⟩=[(0,wkR)]:=by
 have e:∀img,a9k img ⟨wkH,wkT⟩=c1j 1 6 (a5g img 6 3 79):=fun _=>rfl
 rw [e,c8e]
 exact ((b5P.nil.app wkR c3e).pad:b5P 1 6 (padS wkB) [(0,wkR)]).all
theorem c5F{fit:Sb->Bool}{pl:Sb->List Pl}{x:RSt}{e:Int}(hf:fit wkS=true)(h:a4x wkI (some wkS) fit pl 3 x e):e=0/\x.tail=5/\x.next=7/\x.now=3/\x.rs.length=1/\x.ps.length=1:=by
 rcases h with ⟨h0,_,_,s,h1,_,hx⟩|⟨_,_,h1⟩|⟨_,_,_,_,h1⟩
 ·cases h1
  have hc:=c7V
  have h2:=hx.tail
  have h3:=hx.now
  have h4:=hx.next
  obtain ⟨srt,⟨hp,_⟩,h5⟩:=hx.live
  have h6:=hx.pairs
  rw [hc] at h2 h3 h4 hp
  have hpl:c7c wkS (pl wkS)=[]:=rfl
  rw [hpl] at h2
  have t5:x.tail=5:=h2.trans rfl
  have t3:x.now=3:=h3.trans rfl
  have t7:x.next=7:=by rw [h4,t5];rfl
  have hs:srt=[⟨wkH,wkT⟩]:=List.perm_singleton.1 hp
  rw [hs,t5] at h5
  have hr:x.rs=[⟨wkH,wkT⟩]:=h5.trans rfl
  refine ⟨h0,t5,t7,t3,by rw [hr];rfl,?_⟩
  have hb:a2x wkI x.rs=[(6,[(0,wkR)])]:=by
   rw [hr]
   show [((6:Int),a9k wkI ⟨wkH,wkT⟩)]=_
   rw [c8c]
  rw [hb,t3] at h6
  rw [IsMap.unique h6 (a6A _ _)]
  rfl
 ·exact absurd ⟨by decide,by decide⟩ h1
 ·have:=h1 wkS rfl
  rw [hf] at this;cases this
theorem c5G{img:List UInt8}{fit:Sb->Bool}{pl:Sb->List Pl}{x:RSt}{e:Int}(h:a4x img none fit pl 0 x e):e=4:=by
 rcases h with ⟨_,_,_,s,h1,_⟩|⟨_,_,h1⟩|⟨h1,_⟩
 ·cases h1
 ·exact absurd ⟨by decide,by decide⟩ h1
 ·exact h1
theorem c5H:a2R (Dv.fresh (List.replicate 5760 0))=none:=by
 have hv:Lv 5760 (Dv.fresh (List.replicate 5760 0)):=c2D 90 (by decide) (by decide)
 rw [a9T hv]
 have e:(Dv.fresh (List.replicate 5760 0)).image=List.replicate 5760 0:=rfl
 rw [e,List.length_replicate,if_neg (by decide)]
 show a2k (a2k none 0 (((List.replicate 5760 (0:UInt8)).drop (0*64)).take 64)) 1 (((List.replicate 5760 (0:UInt8)).drop (1*64)).take 64)=_
 rw [List.drop_replicate,List.take_replicate,List.drop_replicate,List.take_replicate]
 show a2k (a2k none 0 (List.replicate 64 0)) 1 (List.replicate 64 0)=_
 unfold a2k
 rw [a7W,a7W]
def Wk(x y:AV):Prop:=∀(cx:Cx) (m:Mu) (w:World) (v:Value),Abs.Rel cx m w x v->Abs.Rel cx m w y v
def WkL(xs ys:List AV):Prop:=∀(cx:Cx) (m:Mu) (w:World) (vs:List Value),Abs.RelL cx m w xs vs->Abs.RelL cx m w ys vs
theorem Wk.refl(x:AV):Wk x x:=fun _ _ _ _ h=>h
theorem b9t{k:Nat}:Wk .nils (.sl k []):=fun cx m w v h=>by
 simp only [Abs.Rel] at h ⊢
 exact ⟨none,0,[],h,Nat.zero_le _,Nat.zero_le _,by simp [Abs.RelL],by simp,fun h0=>absurd rfl h0⟩
theorem a6M:WkL [] []:=fun _ _ _ _ h=>h
theorem a3a{x y:AV}{xs ys:List AV}(h:Wk x y)(t:WkL xs ys):WkL (x::xs) (y::ys):=fun cx m w vs hv=>by
 obtain ⟨u,r,rfl,h1,h2⟩:=a0l.1 hv
 exact RelL.cons (h cx m w u h1) (t cx m w r h2)
theorem a0G{x:AV}{xs ys:List AV}(t:WkL xs ys):WkL (x::xs) (x::ys):=a3a (Wk.refl x) t
theorem b9s{xs ys:List AV}(h:WkL xs ys):Wk (.agg xs) (.agg ys):=fun cx m w v hv=>by
 simp only [Abs.Rel] at hv ⊢
 obtain ⟨us,h1,h2⟩:=hv
 exact ⟨us,h1,h cx m w us h2⟩
theorem c8d{k:Nat}{xs ys:List AV}(h:WkL xs ys)(hl:xs.length=ys.length):Wk (.sl k xs) (.sl k ys):=fun cx m w v hv=>by
 simp only [Abs.Rel] at hv ⊢
 obtain ⟨A,c,vs,h1,h2,h3,h4,h5,h6⟩:=hv
 exact ⟨A,c,vs,by rw [<- hl];exact h1,by rw [<- hl];exact h2,h3,h cx m w vs h4,h5,h6⟩
theorem a0b.wkA{E:Env}{f:FuncId}{args args':List AV}{H:Hp}{R:AV->Hp->Prop}(h:a0b E f args' H R)(k:WkL args args'):a0b E f args H R :=
 a0b.weak h fun m w vs hv=>k _ m w vs hv
def wkA:List AV:=[.agg [.int .i64 1,.int .i64 1,.int .i64 0,.int .i64 4,.int .i64 0,.int .i64 1,.int .i64 1,.int .i64 4,.int .i64 4,.int .i64 0,.int .i64 0,.int .i64 0,.int .i64 0,.nils],
 .sl 33 [.agg [.int .i64 0,.int .i64 0,.int .i64 0,.int .i64 1,.int .i64 0,.int .i64 6,.int .i64 5,.int .i64 0,.sl 4 [.agg [.int .i64 1,.sl 1 [.int .u8 107],.nils,.int .i64 0]],
  .int .i64 0,.int .i64 0,.int .i64 0,.int .i64 0,.int .i64 0,.int .i64 0,.int .i64 0,.int .i64 0,
  .int .i64 0,.int .i64 0,.int .i64 0,.int .i64 0,.int .i64 0,.int .i64 0,.int .i64 0,.int .i64 0,.int .i64 0,.int .i64 0,.int .i64 0,.int .i64 0,.int .i64 0,.nils,.int .i64 0,.int .u8 0]]]
theorem c5B:WkL wkA [sbA wkS,.sl 33 [ptA wkP]]:=by
 refine a3a (b9s ?_) (a3a (c8d (a3a (b9s ?_) a6M) rfl) a6M)
 ·exact a0G (a0G (a0G (a0G (a0G (a0G (a0G (a0G (a0G (a0G (a0G (a0G (a0G (a3a b9t a6M)))))))))))))
 refine a0G (a0G (a0G (a0G (a0G (a0G (a0G (a0G (a3a (c8d (a3a (b9s (a0G (a0G (a3a b9t (a0G a6M))))) a6M) rfl) ?_))))))))
 refine a0G (a0G (a0G (a0G (a0G (a0G (a0G (a0G ?_)))))))
 exact a0G (a0G (a0G (a0G (a0G (a0G (a0G (a0G (a0G (a0G (a0G (a0G (a0G (a3a b9t (a0G (a0G a6M)))))))))))))))
theorem c5A:a0e 0 wkA:=by simp [wkA,a0e,a0g]
theorem c5E:sbB wkS.short=true/\∀l∈a1n wkS.short,l.rs<=8/\l.regs<=8:=⟨c3f,fun l hl=>by rw [List.mem_singleton.1 hl];exact ⟨by decide,by decide⟩⟩
theorem c7W(X:Nat->Prop):a0b (E0 X) 8 wkA [] (fun r H'=>r=.tup [.sl 1 (wkI.map u8A),.bool true]/\H'=[]):=by
 refine a0b.wkA ((c0k X wkS [wkP] (fun p hp=>?_) (by decide)).mono fun r H' h=>?_) c5B
 ·rw [List.mem_singleton.1 hp]
  exact ⟨by decide,fun r hr=>by rw [List.mem_singleton.1 hr];exact ⟨by decide,by decide⟩⟩
 rcases h with ⟨img,h1,h2,h3⟩|⟨_,_,h3⟩
 ·rw [c7Y h1] at h2
  exact ⟨h2,h3⟩
 ·exact absurd c5E h3
theorem c8a(X:Nat->Prop):a0b (E0 X) 42 [.int .i64 90] [] (fun r H'=>r=.ptr 0 0/\H'=a1c (Dv.fresh (List.replicate 5760 0))):=(c8H X 90).mono fun r H' h=>by
 rcases h with ⟨_,_,h1,h2⟩|⟨h1,_⟩
 ·exact ⟨h1,h2⟩
 ·exact absurd ⟨by decide,by decide⟩ h1
theorem b9r:a4w wkI.length:=by rw [a4P];unfold a4w;decide
theorem c7X:(!(a1n wkS).any (nfB (Dv.fresh wkI)))=true:=by
 show (!(nfB (Dv.fresh wkI) wkT || false))=true
 unfold nfB
 have e:(Dv.fresh wkI).image=wkI:=rfl
 rw [e,a4P]
 rfl
theorem c2a:a2R (Dv.fresh wkI)=some wkS:=by
 rw [a9T (a9Y b9r)]
 have e:(Dv.fresh wkI).image=wkI:=rfl
 rw [e,a4P,if_neg (by decide)]
 exact c5C
theorem c1Z{fit:Sb->Bool}{pl:Sb->List Pl}{x:RSt}{e:Int}(hf:fit=(fun s=>!(a1n s).any (nfB (Dv.fresh wkI))))(h:a4x (Dv.fresh wkI).image (a2R (Dv.fresh wkI)) fit pl 3 x e):e=0/\x.tail=5/\x.next=7/\x.now=3/\x.rs.length=1/\x.ps.length=1:=by
 subst hf
 rw [c2a,show (Dv.fresh wkI).image=wkI from rfl] at h
 exact c5F (fit:=fun s=>!(a1n s).any (nfB (Dv.fresh wkI))) c7X h
theorem b0g:∀X,Pur (E0 X) 19 [] (.bool true):=by
 refine Zj trivial trivial fun X=>?_
 have hz:Lv 5760 (Dv.fresh (List.replicate 5760 0)):=c2D 90 (by decide) (by decide)
 have hl1:=b7l X _ 5760 hz (by decide) 0
 rw [c5H] at hl1
 have hnw:=c8a X
 have hl2:=b7l X _ wkI.length (a9Y b9r) (by rw [a4P];decide) 3
 have hl3:=fun x e h=>c1Z (fit:=fun s=>!(a1n s).any (nfB (Dv.fresh wkI))) (pl:=fun s=>a8K (Dv.fresh wkI) s.mig) (x:=x) (e:=e) rfl h
 have hld:=a9V X wkI (by rw [a4P];decide)
 generalize Dv.fresh (List.replicate 5760 0)=v0 at *
 refine Z0 Proofs.Tryz.func19 rfl Proofs.Tryz.ntmps19 (by kernel_rfl) rfl ?_
 repeat' (first|refine Zs rfl ?_|refine Zc rfl ?_)
 refine Zf rfl rfl (hnw) rfl rfl rfl ?_
 skip
 refine Zx (ι:=RSt × Int) (P:=fun q=>q.2=4) (r0:=fun q=>.tup [.agg (rsL q.1),.int .i64 q.2]) (h0:=fun _=>a1c v0) rfl rfl (hl1.mono fun r H' ⟨x,e,h1,h2,h3⟩=>⟨(x,e),c5G h1,h2,h3⟩) rfl ?_
 rintro ⟨x,e⟩ he
 have he':e=4:=he
 subst he'
 dsimp only
 repeat' (refine Zs rfl ?_)
 refine Zh (a0t (a0i 0 (Nat.zero_le _) a2T rfl (Nat.zero_le _) (sl':=[(2,.int .i64 4)]) (a0a ⟨rfl,trivial⟩ a0k)) ?_)
 refine Zc rfl (Zc rfl ?_)
 repeat' (refine Zs rfl ?_)
 refine Zh (Zc rfl (Zc rfl (Zs rfl (Zs rfl (Qa rfl ?_)))))
 refine a1i rfl rfl rfl rfl rfl rfl rfl (.inr rfl) rfl (.inr rfl) ?_
 refine nx rfl rfl ?_
 refine Qa rfl ?_
 refine b1A (k:=1) (lo:=0) (n:=1) (es:=[107].map u8A) (out:=[107].map u8A) (by decide) (by decide) rfl rfl rfl rfl rfl rfl rfl rfl rfl ?_
 refine nx rfl rfl ?_
 repeat' (refine Zs rfl ?_)
 refine Zp rfl rfl ((⟨c5A,fun Y=>c7W Y⟩:Pur (E0 X) 8 wkA (.tup [.sl 1 (wkI.map u8A),.bool true]))) rfl ?_
 repeat' (refine Zs rfl ?_)
 refine Zh (a0t (a0i 0 (Nat.zero_le _) a2T rfl (Nat.zero_le _) (sl':=[(2,.int .i64 4),(4,.sl 1 (wkI.map u8A))]) (a0a ⟨rfl,trivial⟩ (a0a ⟨rfl,(a0h fun _=>a0n:a0e _ (wkI.map u8A))⟩ a0k))) ?_)
 have hlo:=b9r
 generalize wkI=img at *
 repeat' (first|refine Zs rfl ?_|refine Zc rfl ?_)
 refine Qa rfl ?_
 refine a1h (fun _=>rfl) rfl ?_
 refine a0b.mono hld ?_
 rintro r H' (⟨-,rfl,rfl⟩|⟨h,-,-⟩)
 rotate_left
 ·exact absurd hlo h
 refine nx rfl rfl ?_
 generalize Dv.fresh img=v1 at *
 skip
 refine Zx (ι:=RSt × Int) (P:=fun q=>q.2=0/\q.1.tail=5/\q.1.next=7/\q.1.now=3/\q.1.rs.length=1/\q.1.ps.length=1) (r0:=fun q=>.tup [.agg (rsL q.1),.int .i64 q.2]) (h0:=fun _=>a1c v1) rfl rfl (hl2.mono fun r H' ⟨x,e,h1,h2,h3⟩=>⟨(x,e),hl3 _ _ h1,h2,h3⟩) rfl ?_
 rintro ⟨x,e⟩ ⟨he,h1,h2,h3,h4,h5⟩
 have he':e=0:=he
 subst he'
 have h1:x.tail=5:=h1
 have h2:x.next=7:=h2
 have h3:x.now=3:=h3
 have h4:(x.rs.map rgA).length=1:=by rw [List.length_map];exact h4
 have h5:(x.ps.map prA).length=1:=by rw [List.length_map];exact h5
 dsimp only
 repeat' (first|refine Zs rfl ?_|refine Zc rfl ?_)
 rw [h1]
 repeat' (refine Zs rfl ?_)
 rw [h2]
 repeat' (refine Zs rfl ?_)
 rw [h3]
 repeat' (refine Zs rfl ?_)
 rw [h4]
 repeat' (refine Zs rfl ?_)
 rw [h5]
 skip
 refine a0c ⟨_,rfl,rfl⟩
theorem c5K.small{img:List UInt8}{pl:List Pl}{now:Int}{s:Sb}{x:RSt}(h:c5K img pl now s x)(hs:sbB s=true)(hi:img.length<=20000):x.rs.length<=48/\x.ps.length<=60000/\x.s.fo.length<=2:=by
 obtain ⟨hf,_,h2⟩:=a9f hs
 obtain ⟨srt,h3,h4⟩:=h.live
 have h5:x.rs.length<=48:=by
  rw [h4,List.length_reverse]
  have h6:=a5a x.tail srt
  have h7:=h3.1.length_eq
  have h8:=a5P (hdr:=a2O img) hf
  have h9:(a1n s).length=s.fo.length+1:=rfl
  omega
 refine ⟨h5,?_,by rw [h.sb];exact h2⟩
 have h6:=IsMap.unique h.pairs (a6A _ _)
 rw [h6]
 have h7:=b0i (b4Z x.now (a8Y (flB (a2x img x.rs)))) (flB (a2x img x.rs)) []
 have h8:=b2a img x.rs
 have h9:x.rs.length*img.length<=48*20000:=Nat.mul_le_mul h5 hi
 rw [List.length_nil] at h7
 omega
theorem a4x.small{img:List UInt8}{o:Option Sb}{fit:Sb->Bool}{pl:Sb->List Pl}{now:Int}{x:RSt}{e:Int}(h:a4x img o fit pl now x e)(hs:∀s,o=some s->sbB s=true)(hi:img.length<=20000):x.rs.length<=48/\x.ps.length<=60000/\x.s.fo.length<=2:=by
 rcases h with ⟨_,_,_,s,h1,_,h2⟩|⟨_,rfl,_⟩|⟨_,rfl,_⟩
 ·exact h2.small (hs s h1) hi
 ·exact ⟨Nat.zero_le _,Nat.zero_le _,Nat.zero_le _⟩
 ·exact ⟨Nat.zero_le _,Nat.zero_le _,Nat.zero_le _⟩
end Go.Abs
