/- replay: Map. Joined texts, each with what its own name promises; no condition beyond those stated. -/
import Derived.Test.YtkmmdlicifiknaaGreatDoorCC
import Derived.Test.YtkmmdlicifiknaaGreatDoorCJ
set_option maxHeartbeats 0
set_option maxRecDepth 100000
set_option linter.all false
namespace Go.Abs
theorem a9c{bs:List (Int × List (Nat × Rec))}{i:Nat}{b:Int × List (Nat × Rec)}(h:bs[i]?=some b):flB (bs.take (i+1))=flB (bs.take i)++b.2.map fun p=>(b.1,p):=by
 rw [List.take_add_one,h];simp [flB]
theorem b8l{s:Int}{l:List (Nat × Rec)}{j:Nat}{p:Nat × Rec}(h:l[j]?=some p):((l.take (j+1)).map fun p=>(s,p))=((l.take j).map fun p=>(s,p))++[(s,p)]:=by
 rw [List.take_add_one,h];simp
theorem a6G(bs:List (Int × List (Nat × Rec))){i:Nat}{b:Int × List (Nat × Rec)}(h:bs[i]?=some b)(j:Nat):(flB (bs.take i)++(b.2.take j).map fun p=>(b.1,p)).length<=(flB bs).length:=by
 have h1:flB bs=flB (bs.take (i+1))++flB (bs.drop (i+1)):=by
  show _=(bs.take (i+1)).flatMap _++(bs.drop (i+1)).flatMap _
  rw [<- List.flatMap_append,List.take_append_drop];rfl
 rw [h1,a9c h]
 simp only [List.length_append,List.length_map,List.length_take]
 omega
abbrev foL(p:Nat × Rec):List AV:=[.int .i64 (p.1:Int),.int .i64 (a1M p.2:Int),.int .i64 p.2.kind,.sl 1 (p.2.key.map u8A),.sl 1 (p.2.val.map u8A),.int .i64 p.2.exp]
theorem a7B(p:Nat × Rec):a0e 0 (foL p):=⟨trivial,trivial,trivial,a0h fun _=>a0k,a0h fun _=>a0k,trivial,trivial⟩
attribute [local irreducible] a0z a1p AWp Nx awM
theorem c3E:∀a b:List UInt8,Op.bytesLess a b=decide (a<b)
 | [],[]=>by simp [Op.bytesLess]
 | _::_,[]=>by simp [Op.bytesLess]
 | [],_::_=>by simp [Op.bytesLess]
 | a::x,b::y=>by
  rw [Op.bytesLess,c3E x y]
  simp only [List.cons_lt_cons_iff]
  by_cases h1:a<b<;>by_cases h2:a=b<;>by_cases h3:x<y<;>simp [h1,h2,h3]
def atN(k:Key):List Pr->Nat
 | []=>0
 | p::t=>if p.1<k then atN k t+1 else 0
def b6b(k:Key)(L:List Pr):Bool:=match L[atN k L]? with
 | some p=>decide (p.1=k)
 | none=>false
theorem b5l(k:Key):∀L:List Pr,atN k L<=L.length
 | []=>Nat.le_refl 0
 | p::t=>by
  unfold atN
  split
  ·have:=b5l k t;simp;omega
  ·exact Nat.zero_le _
theorem c0z(k:Key):∀(L:List Pr) (i:Nat) (p:Pr),L[i]?=some p->i<atN k L->p.1<k
 | [],i,p,h,_=>by simp at h
 | q::t,i,p,h,hi=>by
  unfold atN at hi
  split at hi
  ·rename_i hq
   cases i with
   | zero=>simp at h;subst h;exact hq
   | succ i=>exact c0z k t i p (by simpa using h) (by omega)
  ·omega
theorem c0y(k:Key):∀(L:List Pr) (p:Pr),L[atN k L]?=some p->¬ p.1<k
 | [],p,h=>by simp at h
 | q::t,p,h=>by
  unfold atN at h
  split at h
  ·exact c0y k t p (by simpa using h)
  ·rename_i hq
   simp at h;subst h;exact hq
theorem b1E(k:Key)(e:En):∀L:List Pr,a4e k e L=if b6b k L=true then L.set (atN k L) (k,e) else L.take (atN k L)++(k,e)::L.drop (atN k L)
 | []=>rfl
 | q::t=>by
  by_cases hq:q.1<k
  ·have h1:atN k (q::t)=atN k t+1:=by simp [atN,hq]
   have h2:b6b k (q::t)=b6b k t:=by unfold b6b;rw [h1];simp
   rw [h1,h2]
   unfold a4e
   rw [if_pos hq,b1E k e t]
   split<;>simp
  have h1:atN k (q::t)=0:=by simp [atN,hq]
  have h2:b6b k (q::t)=decide (q.1=k):=by unfold b6b;rw [h1];simp
  rw [h1,h2]
  unfold a4e
  rw [if_neg hq]
  by_cases h3:q.1=k<;>simp [h3]
theorem a9t(l:List Pr):a2R (l.map prA):=fun y hy=>by
 obtain ⟨p,_,rfl⟩:=List.mem_map.1 hy
 exact ⟨rfl,rfl⟩
def rtH(L:List Pr):Hp:=[some (.cells [.own 1 0 L.length] 210),some (.arr (L.map prA) 69)]
def rtO(L:List Pr):Hp:=[some (.cells [.own 2 0 L.length] 210),none,some (.arr (L.map prA) 69)]
theorem a2W(L:List Pr):HOk 2 (rtH L):=fun j o ho=>by
 match j,ho with
 | 0,ho=>cases ho;exact ⟨Nat.lt_succ_self 1,trivial⟩
 | 1,ho=>cases ho;exact a0F (Nat.zero_le _) (a4o L)
theorem c5U{L:List Pr}{i:Nat}(hi:i<L.length):∃p,L[i]?=some p/\(L.map prA)[i]?=some (.agg [.str p.1,.int .i64 p.2.seq,.int .i64 p.2.off,.int .i64 p.2.len,.int .i64 p.2.exp,.bool p.2.hit]) :=
 ⟨_,List.getElem?_eq_getElem hi,by rw [List.getElem?_map,List.getElem?_eq_getElem hi];rfl⟩
theorem c5V(X:Nat->Prop)(L:List Pr)(k:Key)(hL:L.length<=1000000):a0b (E0 X) 173 [.ptr 0 0,.str k] (rtH L) (fun r H'=>r=.tup [.int .i64 (atN k L:Int),.bool (b6b k L)]/\H'=rtH L):=by
 have hle:=b5l k L
 refine a0b.cutH ?_ (Nat.le_refl 2) (a2W L) ⟨trivial,trivial,trivial⟩
 refine Z0 Proofs.Tryz.func173 rfl Proofs.Tryz.ntmps173 (by kernel_rfl) rfl ?_
 repeat' (first|refine Zs rfl ?_|refine Zh ?_|refine Ql ?_|refine Qo rfl ?_)
 refine a1B (I:=fun _:Unit=>True) (σ:=fun _=>⟨[(0,.ptr 0 0),(1,.str k),(6,.int .i64 (atN k L:Int))],rtH L⟩) ?_ ?_
 ·refine Zc rfl ?_
  refine a0s (fun i:Nat=>⟨[(0,.ptr 0 0),(1,.str k),(6,.int .i64 (i:Int))],rtH L⟩) (fun i=>i<=atN k L) (fun i=>L.length - i) 0 (Nat.zero_le _) ?_ ?_
  ·exact kk 2 (a2W L) rfl (by simp [a0d,a0e])
  intro i hi
  repeat' (first|refine Zs rfl ?_|refine Zc rfl ?_)
  refine Qy rfl rfl (fun h1=>?_) (fun h1=>?_)
  ·have hil:i<L.length:=by omega
   obtain ⟨p,hp,hpa⟩:=c5U hil
   repeat' (refine Zs rfl ?_)
   refine Qa rfl ?_
   refine a5U (j:=i) rfl hil (Nat.zero_add _) rfl rfl rfl rfl rfl rfl rfl rfl ?_
   refine nx rfl rfl ?_
   repeat' (refine Zs rfl ?_)
   refine Qa rfl ?_
   refine a8K rfl rfl hpa rfl rfl rfl ?_
   refine nx rfl rfl ?_
   repeat' (refine Zs rfl ?_)
   rw [c3E]
   refine a0g rfl (fun h2=>?_) (fun h2=>?_)
   ·repeat' (first|refine Zs rfl ?_|refine Zc rfl ?_)
    have h3:i<atN k L:=by
     rcases Nat.lt_or_ge i (atN k L) with h|h
     ·exact h
     ·obtain rfl:i=atN k L:=by omega
      exact absurd h2 (c0y k L p hp)
    refine ⟨i+1,h3,by show L.length - (i+1)<L.length - i;omega,?_⟩
    refine a0j 2 (Nat.le_refl 2) (a2W L) rfl (Nat.le_refl 2) ?_
    repeat' (first|exact a0l|refine a0a ⟨?_,?_⟩ ?_)
    all_goals (try first|exact rfl|exact trivial|(simp [a0d,a0e];done)|(refine congrArg (AV.int .i64) (a0x ?_ ?_ ?_)<;>(first|omega|(simp;omega))))
   repeat' (refine Zc rfl ?_)
   have h3:i=atN k L:=by
    rcases Nat.lt_or_ge i (atN k L) with h|h
    ·exact absurd (c0z k L i p hp h) h2
    ·omega
   subst h3
   refine ⟨rfl,(),trivial,?_⟩
   exact kk 2 (a2W L) rfl (by simp [a0d,a0e])
  have h3:i=atN k L:=by omega
  subst h3
  repeat' (first|refine Zs rfl ?_|refine Zc rfl ?_)
  refine ⟨rfl,(),trivial,?_⟩
  exact kk 2 (a2W L) rfl (by simp [a0d,a0e])
 rintro _ _
 repeat' (refine Zc rfl ?_)
 refine a0p [] [] (by exact rfl) (by kernel_rfl) ?_
 repeat' (refine Zd rfl ?_)
 rcases Nat.lt_or_ge (atN k L) L.length with hil|hil
 ·obtain ⟨p,hp,hpa⟩:=c5U hil
  rw [decide_eq_true (show ((atN k L:Nat):Int)<(L.length:Int) by omega)]
  repeat' (refine Zd rfl ?_)
  apply Qd rfl rfl rfl rfl
  ·refine a5U (j:=atN k L) rfl hil (Nat.zero_add _) rfl rfl rfl rfl rfl rfl rfl rfl ?_
   exact QX rfl rfl ⟨rfl,rfl⟩
  repeat' (refine Zd rfl ?_)
  apply Qd rfl rfl rfl rfl
  ·refine a8K rfl rfl hpa rfl rfl rfl ?_
   exact QX rfl rfl ⟨rfl,rfl⟩
  repeat' (first|refine Zd rfl ?_|refine Zk ?_)
  refine a0c ⟨_,rfl,⟨?_,rfl⟩⟩
  unfold b6b
  rw [hp];rfl
 rw [decide_eq_false (show ¬ ((atN k L:Nat):Int)<(L.length:Int) by omega)]
 repeat' (first|refine Zd rfl ?_|refine Zk ?_)
 refine a0c ⟨_,rfl,⟨?_,rfl⟩⟩
 unfold b6b
 rw [List.getElem?_eq_none hil];rfl
theorem c4Y(X:Nat->Prop)(L:List Pr)(k:Key)(e:En)(hL:L.length<=900000):a0b (E0 X) 128 [.ptr 0 0,.str k,c5H e] (rtH L) (fun r H'=>r=.tup []/\H'=rtO (a4e k e L)):=by
 have hle:=b5l k L
 refine a0b.imp (R:=fun r H'=>r=.tup []/\∃id,H'[0]?=some (some (.cells [.own id 0 (a4e k e L).length] 210))/\H'[id]?=some (some (.arr ((a4e k e L).map prA) 69))/\(id=1\/id=4)/\2<=H'.length) ?_ ?_
 ·refine Z0 Proofs.Tryz.func128 rfl Proofs.Tryz.ntmps128 (by kernel_rfl) rfl ?_
  refine Zc rfl (Zc rfl (Zs rfl (Zh ?_)))
  refine Kz 2 [0,1,5] 2 (a2W L) rfl rfl (by simp [a0d,a0e]) ?_
  repeat' (first|refine Zs rfl ?_|refine Zc rfl ?_)
  refine Zf rfl rfl (c5V X L k (by omega)) rfl rfl rfl ?_
  repeat' (first|refine Zs rfl ?_|refine Zc rfl ?_)
  refine a0I rfl (fun hh=>?_) (fun hh=>?_)
  ·obtain ⟨p,hp⟩:∃p,L[atN k L]?=some p:=by
    unfold b6b at hh
    split at hh
    ·rename_i p hp;exact ⟨p,hp⟩
    ·cases hh
   have hil:=(List.getElem?_eq_some_iff.1 hp).1
   have hpk:p.1=k:=by
    unfold b6b at hh
    rw [hp] at hh
    simpa using hh
   obtain ⟨p2,hp2,hpa⟩:=c5U hil
   have hpp:p2=p:=by rw [hp] at hp2;exact (Option.some.inj hp2).symm
   subst hpp
   repeat' (refine Zc rfl ?_)
   refine Qx rfl (by kernel_rfl) ?_
   repeat' (refine Zd rfl ?_)
   apply Qd rfl rfl rfl rfl
   ·refine a5U (j:=atN k L) rfl hil (Nat.zero_add _) rfl rfl rfl rfl rfl rfl rfl rfl ?_
    exact QX rfl rfl ⟨rfl,rfl⟩
   repeat' (refine Zd rfl ?_)
   refine Qf rfl rfl rfl ?_
   refine c5h (p:=(p2.1,e)) rfl rfl rfl rfl hpa rfl rfl rfl rfl rfl ?_
   refine nx rfl rfl ?_
   repeat' (refine Qk ?_)
   refine a0c ⟨_,rfl,rfl,1,?_⟩
   rw [b1E,if_pos hh,<- hpk,List.length_set]
   exact ⟨rfl,rfl,.inl rfl,Nat.le_refl 2⟩
  repeat' (first|refine Zs rfl ?_|refine Zc rfl ?_)
  have hil2:(L.take (atN k L)).length=atN k L:=by rw [List.length_take];omega
  have hl1:([]:List AV)++(L.take (atN k L)).map prA=(L.take (atN k L)).map prA:=rfl
  have hl2:([]:List AV).length+((L.take (atN k L)).map prA).length=atN k L:=by rw [List.length_map,hil2];exact Nat.zero_add _
  refine Qa rfl ?_
  refine a6R (l:=0) (h:=atN k L) (lo':=0) (n':=atN k L) (a1u) (a0q rfl rfl) (by omega) (by first|omega|(simp;omega)) (by omega) (by omega) rfl rfl rfl rfl rfl rfl rfl ?_
  refine nx rfl rfl ?_
  skip
  refine Qa rfl ?_
  refine a0V (oid:=none) (es:=[]) (out:=(L.take (atN k L)).map prA) (n:=atN k L) (rfl) (a0B rfl rfl rfl (by omega) rfl) (a9t _) (hl1) (hl2) (by show _<=9223372036854775807;omega) (by show _*56<=_;omega) rfl rfl rfl rfl rfl rfl rfl rfl ?_
  refine nx rfl rfl ?_
  obtain ⟨M,hM⟩:∃M,M=L.take (atN k L)++[(k,e)]:=⟨_,rfl⟩
  have hins:a4e k e L=M++L.drop (atN k L):=by rw [b1E,if_neg (by rw [hh];decide),hM];simp
  have hMl:M.length=atN k L+1:=by rw [hM,List.length_append,hil2];rfl
  have hl4:atN k L=((L.take (atN k L)).map prA).length:=by rw [List.length_map,hil2]
  have hl5:(L.take (atN k L)).map prA++[prA (k,e)]=M.map prA:=by rw [hM,List.map_append];rfl
  have hl6:((L.take (atN k L)).map prA).length+1=atN k L+1:=by rw [<- hl4]
  have hl7:atN k L+1=(M.map prA).length:=by rw [List.length_map,hMl]
  have hl8:M.map prA++(L.drop (atN k L)).map prA=(a4e k e L).map prA:=by rw [hins,List.map_append]
  have hl9:(M.map prA).length+((L.drop (atN k L)).map prA).length=(a4e k e L).length:=by rw [hins,List.length_append,List.length_map,List.length_map]
  have hl10:((L.drop (atN k L)).take (L.length - atN k L)).map prA=(L.drop (atN k L)).map prA:=by rw [List.take_of_length_le (by rw [List.length_drop];omega)]
  have hil3:(a4e k e L).length<=L.length+1:=by rw [hins,List.length_append,hMl,List.length_drop];omega
  repeat' (first|refine Zs rfl ?_|refine Zh ?_)
  refine a0n [6,10,12,13,16] [0,1,2,3,4,5,7,8,9,11,14,15] (by exact rfl) ?_
  refine a0y (fuel:=7) [0,1,2,3,4,5,7,8,9,11] (by exact rfl) (by kernel_rfl) (by kernel_rfl) ?_
  repeat' (first|refine Zd rfl ?_|refine Zk ?_)
  refine a1R [6,10] (by kernel_rfl) (br2 ?_ ?_)
  ·refine a1q rfl rfl rfl ?_
   refine a0V (oid:=some 2) (es:=(L.take (atN k L)).map prA) (out:=M.map prA) (n:=atN k L+1) (a0M rfl hl4) (rfl) (b1P (k,e)) (hl5) (hl6) (by show _<=9223372036854775807;omega) (by show _*56<=_;omega) rfl rfl rfl rfl rfl rfl rfl rfl ?_
   refine nx rfl rfl ?_
   refine a1R [10] (by kernel_rfl) (br1 ?_)
   refine a1q rfl rfl rfl ?_
   refine a3t rfl rfl rfl ?_
   refine nx rfl rfl ?_
   refine a1R [12] (by kernel_rfl) (br1 ?_)
   refine a1q rfl rfl rfl ?_
   refine a6R (l:=atN k L) (h:=L.length) (lo':=atN k L) (n':=L.length - atN k L) (a0q rfl rfl) (a1u) (by omega) (by first|omega|(simp;omega)) (by omega) (by omega) rfl rfl rfl rfl rfl rfl rfl ?_
   refine nx rfl rfl ?_
   refine a1R [13] (by kernel_rfl) (br1 ?_)
   refine a1q rfl rfl rfl ?_
   refine a0V (oid:=some 3) (es:=M.map prA) (out:=(a4e k e L).map prA) (n:=(a4e k e L).length) (a0M rfl hl7) (a0B rfl rfl rfl (by omega) hl10) (a9t _) (hl8) (hl9) (by show _<=9223372036854775807;omega) (by show _*56<=_;omega) rfl rfl rfl rfl rfl rfl rfl rfl ?_
   refine nx rfl rfl ?_
   refine a0y (fuel:=0) [14,15,16] (by exact rfl) (by kernel_rfl) (by kernel_rfl) ?_
   repeat' (first|refine Zd rfl ?_|refine Zk ?_|refine Qw (by kernel_rfl) ?_)
   refine ⟨_,rfl,rfl,4,rfl,rfl,.inr rfl,Nat.le_add_left 2 3⟩
  refine a1q rfl rfl rfl ?_
  refine a3t rfl rfl rfl ?_
  refine nx rfl rfl ?_
  refine a1R [6,12] (by kernel_rfl) (br2 ?_ ?_)
  ·refine a1q rfl rfl rfl ?_
   refine a0V (oid:=some 2) (es:=(L.take (atN k L)).map prA) (out:=M.map prA) (n:=atN k L+1) (a0M rfl hl4) (rfl) (b1P (k,e)) (hl5) (hl6) (by show _<=9223372036854775807;omega) (by show _*56<=_;omega) rfl rfl rfl rfl rfl rfl rfl rfl ?_
   refine nx rfl rfl ?_
   refine a1R [12] (by kernel_rfl) (br1 ?_)
   refine a1q rfl rfl rfl ?_
   refine a6R (l:=atN k L) (h:=L.length) (lo':=atN k L) (n':=L.length - atN k L) (a0q rfl rfl) (a1u) (by omega) (by first|omega|(simp;omega)) (by omega) (by omega) rfl rfl rfl rfl rfl rfl rfl ?_
   refine nx rfl rfl ?_
   refine a1R [13] (by kernel_rfl) (br1 ?_)
   refine a1q rfl rfl rfl ?_
   refine a0V (oid:=some 3) (es:=M.map prA) (out:=(a4e k e L).map prA) (n:=(a4e k e L).length) (a0M rfl hl7) (a0B rfl rfl rfl (by omega) hl10) (a9t _) (hl8) (hl9) (by show _<=9223372036854775807;omega) (by show _*56<=_;omega) rfl rfl rfl rfl rfl rfl rfl rfl ?_
   refine nx rfl rfl ?_
   refine a0y (fuel:=0) [14,15,16] (by exact rfl) (by kernel_rfl) (by kernel_rfl) ?_
   repeat' (first|refine Zd rfl ?_|refine Zk ?_|refine Qw (by kernel_rfl) ?_)
   refine ⟨_,rfl,rfl,4,rfl,rfl,.inr rfl,Nat.le_add_left 2 3⟩
  refine a1q rfl rfl rfl ?_
  refine a6R (l:=atN k L) (h:=L.length) (lo':=atN k L) (n':=L.length - atN k L) (a0q rfl rfl) (a1u) (by omega) (by first|omega|(simp;omega)) (by omega) (by omega) rfl rfl rfl rfl rfl rfl rfl ?_
  refine nx rfl rfl ?_
  refine a1R [6] (by kernel_rfl) (br1 ?_)
  refine a1q rfl rfl rfl ?_
  refine a0V (oid:=some 2) (es:=(L.take (atN k L)).map prA) (out:=M.map prA) (n:=atN k L+1) (a0M rfl hl4) (rfl) (b1P (k,e)) (hl5) (hl6) (by show _<=9223372036854775807;omega) (by show _*56<=_;omega) rfl rfl rfl rfl rfl rfl rfl rfl ?_
  refine nx rfl rfl ?_
  refine a1R [13] (by kernel_rfl) (br1 ?_)
  refine a1q rfl rfl rfl ?_
  refine a0V (oid:=some 3) (es:=M.map prA) (out:=(a4e k e L).map prA) (n:=(a4e k e L).length) (a0M rfl hl7) (a0B rfl rfl rfl (by omega) hl10) (a9t _) (hl8) (hl9) (by show _<=9223372036854775807;omega) (by show _*56<=_;omega) rfl rfl rfl rfl rfl rfl rfl rfl ?_
  refine nx rfl rfl ?_
  refine a0y (fuel:=0) [14,15,16] (by exact rfl) (by kernel_rfl) (by kernel_rfl) ?_
  repeat' (first|refine Zd rfl ?_|refine Zk ?_|refine Qw (by kernel_rfl) ?_)
  refine ⟨_,rfl,rfl,4,rfl,rfl,.inr rfl,Nat.le_add_left 2 3⟩
 rintro r H' ⟨rfl,id,h0,h1,hid,hl⟩
 refine ⟨_,_,⟨rfl,rfl⟩,?_⟩
 rcases hid with rfl|rfl
 ·exact b0w [some (.cells [.own 2 0 (a4e k e L).length] 210),none] [1] [.arr ((a4e k e L).map prA) 69] (Nat.le_refl 2) hl (by simp) (by simp) rfl rfl ⟨⟨_,h0,a1y (a4x.cons (a0L rfl) a4x.nil)⟩,trivial⟩ (a0a (a1x rfl trivial) a0l) (a0E h1 (a0A 0 (fun i h=>absurd h (Nat.not_lt_zero i)) (a4o _)) a0T)
 ·exact b0w [some (.cells [.own 2 0 (a4e k e L).length] 210),none] [4] [.arr ((a4e k e L).map prA) 69] (Nat.le_refl 2) hl (by simp) (by simp) rfl rfl ⟨⟨_,h0,a1y (a4x.cons (a0L rfl) a4x.nil)⟩,trivial⟩ (a0a (a1x rfl trivial) a0l) (a0E h1 (a0A 0 (fun i h=>absurd h (Nat.not_lt_zero i)) (a4o _)) a0T)
def frA(p:FR):AV:=.agg (.int .i64 p.1::foL p.2)
theorem a6I(l:List FR):a0e 0 (l.map frA):=a0h fun p=>⟨trivial,a7B p.2⟩
theorem c2k(l:List FR):a2R (l.map frA):=fun y hy=>by
 obtain ⟨p,_,rfl⟩:=List.mem_map.1 hy
 exact ⟨rfl,rfl⟩
def enz:En:=⟨0,0,0,0,false⟩
def c0G(all:List FR)(k:Key)(now:Int):AV:=match b5b k all.reverse with
 | some e=>.tup [c5H e,.bool (b4y now e)]
 | none=>.tup [c5H enz,.bool false]
def zEn:AO:=.cells [.int .i64 0,.int .i64 0,.int .i64 0,.int .i64 0,.bool false] 67
theorem a8y(l:List FR):HOk 2 [some zEn,some (.arr (l.map frA) 261)]:=fun j o ho=>by
 match j,ho with
 | 0,ho=>cases ho;exact ⟨trivial,trivial,trivial,trivial,trivial,trivial⟩
 | 1,ho=>cases ho;exact a0F (Nat.zero_le _) (a6I l)
theorem a6L:HOk 1 [some zEn]:=fun j o ho=>by
 match j,ho with
 | 0,ho=>cases ho;exact ⟨trivial,trivial,trivial,trivial,trivial,trivial⟩
theorem c3N(X:Nat->Prop)(bs:List (Int × List (Nat × Rec)))(k:Key)(now:Int)(hkey:∀b∈bs,∀p∈b.2,p.2.key.length<=1000000)(htot:(flB bs).length<=290000)(hbl:bs.length<=290000)(hll:∀b∈bs,b.2.length<=290000) :
  a0b (E0 X) 127 [.sl 2 (bs.map baA),.str k,.int .i64 now] [] (fun r _=>r=c0G (flB bs) k now):=by
 have hbi:a0e 2 (bs.map baA):=a0F (Nat.zero_le 2) (a4S bs)
 have hf0:∀l:List (Nat × Rec),a0e 0 (l.map foA):=fun l=>a0h fun _=>a2f
 have hfi:∀l:List (Nat × Rec),a0e 2 (l.map foA):=fun l=>a0h fun _=>a2f
 refine Z0 Proofs.Tryz.func127 rfl Proofs.Tryz.ntmps127 (by kernel_rfl) rfl ?_
 repeat' (first|refine Zs rfl ?_|refine Zh ?_|refine Ql ?_|refine Qo rfl ?_)
 refine a1B (I:=fun _:Unit=>True) (σ:=fun _=>⟨[(1,.str k),(2,.int .i64 now),(6,.ptr 0 0),(8,.own 1 0 (flB bs).length)],[some zEn,some (.arr ((flB bs).map frA) 261)]⟩) ?_ ?_
 ·refine Zc rfl ?_
  refine a0s (fun s:Nat=>⟨[(1,.str k),(2,.int .i64 now),(6,.ptr 0 0),(8,.own 1 0 (flB (bs.take s)).length),(16,.sl 2 (bs.map baA)),(17,.int .i64 (bs.length:Int)),(18,.int .i64 (s:Int))],[some zEn,some (.arr ((flB (bs.take s)).map frA) 261)]⟩) (fun s=>s<=bs.length) (fun s=>bs.length - s) 0 (Nat.zero_le _) ?_ ?_
  ·refine (imp_nil 8 261 rfl).trans (a0j 2 (Nat.zero_le _) (a8y []) rfl (Nat.le_refl 2) ?_)
   exact a0a ⟨rfl,trivial⟩ (a0a ⟨rfl,trivial⟩ (a0a ⟨rfl,Nat.zero_lt_succ 1⟩ (a0a ⟨rfl,Nat.lt_succ_self 1⟩ (a0a ⟨rfl,hbi⟩ (a0a ⟨by rw [List.length_map];rfl,trivial⟩ (a0a ⟨rfl,trivial⟩ a0l))))))
  intro i hi
  repeat' (first|refine Zs rfl ?_|refine Zc rfl ?_)
  refine a0g rfl (fun h1=>?_) (fun h1=>?_)
  ·have hil:i<bs.length:=by omega
   obtain ⟨b,hb⟩:∃b,bs[i]?=some b:=⟨_,List.getElem?_eq_getElem hil⟩
   have hbm:b∈bs:=List.mem_of_getElem? hb
   have hbl2:=hll b hbm
   repeat' (refine Zc rfl ?_)
   refine Qa rfl ?_
   refine a0C hb rfl rfl rfl rfl rfl rfl rfl (by first|rfl|omega) rfl ?_
   refine nx rfl rfl ?_
   repeat' (refine Zs rfl ?_)
   refine Zh (Kz 2 [1,2,6,8,10,16,17,18] 2 (a8y (flB (bs.take i))) rfl rfl ⟨trivial,trivial,Nat.zero_lt_succ 1,Nat.lt_succ_self 1,⟨trivial,hfi b.2,trivial⟩,hbi,trivial,trivial,trivial⟩ ?_)
   repeat' (first|refine Zs rfl ?_|refine Zc rfl ?_)
   refine a0s (fun s:Nat=>⟨[(1,.str k),(2,.int .i64 now),(6,.ptr 0 0),(8,.own 1 0 (flB (bs.take i)++(b.2.take s).map fun p=>(b.1,p)).length),(10,.fp [.int .i64 b.1,.sl 6 (b.2.map foA)]),(16,.sl 2 (bs.map baA)),(17,.int .i64 (bs.length:Int)),(18,.int .i64 (i:Int)),(23,.sl 6 (b.2.map foA)),(24,.int .i64 (b.2.length:Int)),(25,.int .i64 (s:Int))],
     [some zEn,some (.arr ((flB (bs.take i)++(b.2.take s).map fun p=>(b.1,p)).map frA) 261)]⟩)
    (fun s=>s<=b.2.length) (fun s=>b.2.length - s) 0 (Nat.zero_le _) ?_ ?_
   ·rw [show flB (bs.take i)++(b.2.take 0).map (fun p=>(b.1,p))=flB (bs.take i) by simp]
    exact a0j 2 (Nat.zero_le _) (a8y _) rfl (Nat.le_refl 2) (a0a ⟨rfl,trivial⟩ (a0a ⟨rfl,trivial⟩ (a0a ⟨rfl,Nat.zero_lt_succ 1⟩ (a0a ⟨rfl,Nat.lt_succ_self 1⟩ (a0a ⟨rfl,trivial,hfi b.2,trivial⟩ (a0a ⟨rfl,hbi⟩ (a0a ⟨rfl,trivial⟩ (a0a ⟨rfl,trivial⟩ (a0a ⟨rfl,hfi b.2⟩ (a0a ⟨by rw [List.length_map];rfl,trivial⟩ (a0a ⟨rfl,trivial⟩ a0l)))))))))))
   intro j hj
   repeat' (first|refine Zs rfl ?_|refine Zc rfl ?_)
   refine a0g rfl (fun h2=>?_) (fun h2=>?_)
   ·have hjl:j<b.2.length:=by omega
    obtain ⟨p,hp⟩:∃p,b.2[j]?=some p:=⟨_,List.getElem?_eq_getElem hjl⟩
    have hpt:=a6G bs hb j
    have hst:flB (bs.take i)++(b.2.take (j+1)).map (fun p=>(b.1,p))=(flB (bs.take i)++(b.2.take j).map fun p=>(b.1,p))++[(b.1,p)]:=by rw [b8l (s:=b.1) hp,<- List.append_assoc]
    have hjw:IntKind.i64.wrap ((j:Int)+1)=((j+1:Nat):Int):=a0r (by omega) (by omega)
    obtain ⟨out2,ho2⟩:∃o,o=flB (bs.take i)++(b.2.take (j+1)).map (fun p=>(b.1,p)):=⟨_,rfl⟩
    rw [<- ho2] at hst
    generalize (flB (bs.take i)++(b.2.take j).map fun p=>(b.1,p))=out at *
    repeat' (refine Zc rfl ?_)
    refine Qa rfl ?_
    refine a0C hp rfl rfl rfl rfl rfl rfl rfl (by first|rfl|omega) rfl ?_
    refine nx rfl rfl ?_
    repeat' (refine Zs rfl ?_)
    refine Zh (Kz 2 [1,2,6,8,10,12,16,17,18,23,24,25] 2 (a8y out) rfl rfl ⟨trivial,trivial,Nat.zero_lt_succ 1,Nat.lt_succ_self 1,⟨trivial,hfi b.2,trivial⟩,a0F (Nat.zero_le _) (a7B p),hbi,trivial,trivial,hfi b.2,trivial,trivial,trivial⟩ ?_)
    repeat' (first|refine Zs rfl ?_|refine Zc rfl ?_)
    refine Qa rfl ?_
    have hl1:out.length=(out.map frA).length:=(List.length_map _).symm
    have hl2:(out.map frA).length+1=out2.length:=by rw [hst,List.length_append,List.length_map];rfl
    have hl3:out.map frA++[frA (b.1,p)]=out2.map frA:=by rw [hst,List.map_append];rfl
    have hl4:out2.length<=290001:=by rw [hst,List.length_append];show out.length+1<=_;omega
    refine a0V (oid:=some 1) (es:=out.map frA) (out:=out2.map frA) (n:=out2.length) (a0M rfl hl1) (rfl) (c2k [(b.1,p)]) (hl3) (hl2) (by show _<=9223372036854775807;omega) (by show _*88<=_;omega) rfl rfl rfl rfl rfl rfl rfl rfl ?_
    refine nx rfl rfl ?_
    repeat' (first|refine Zs rfl ?_|refine Zc rfl ?_)
    refine ⟨j+1,hjl,by show b.2.length - (j+1)<b.2.length - j;omega,?_⟩
    rw [<- ho2]
    refine a0S 1 [2] (H':=[some zEn,some (.arr (out2.map frA) 261)]) (os:=[.arr (out2.map frA) 261]) (Nat.zero_le _) ?_ (by simp) (by simp) ?_ rfl ?_ ?_ ?_
    ·exact Nat.le_add_left 1 2
    ·exact a6L
    ·rfl
    ·exact a0a (a1x rfl trivial) (a0a (a1x rfl trivial) (a0a (a1h rfl) (a0a (a0L rfl) (a0a (a1x rfl ⟨trivial,hf0 b.2,trivial⟩) (a0a (a1x rfl (a4S bs)) (a0a (a1x rfl trivial) (a0a (a1x rfl trivial) (a0a (a1x rfl (hf0 b.2)) (a0a (a1x rfl trivial) (a0a (a1x (congrArg (AV.int .i64) hjw) trivial) a0l))))))))))
    ·exact a0E rfl (a0A 1 a2m (a0F (Nat.zero_le _) (a6I _))) a0T
   repeat' (first|refine Zs rfl ?_|refine Zc rfl ?_)
   have hj2:j=b.2.length:=by omega
   subst hj2
   have hiw:IntKind.i64.wrap ((i:Int)+1)=((i+1:Nat):Int):=a0r (by omega) (by omega)
   refine ⟨i+1,hil,by show bs.length - (i+1)<bs.length - i;omega,?_⟩
   rw [hiw,List.take_length,<- a9c hb]
   exact kk 2 (a8y _) rfl ⟨trivial,trivial,Nat.zero_lt_succ 1,Nat.lt_succ_self 1,hbi,trivial,trivial,trivial⟩
  repeat' (refine Zc rfl ?_)
  have hi2:i=bs.length:=by omega
  subst hi2
  refine ⟨rfl,(),trivial,?_⟩
  rw [List.take_length]
  exact kk 2 (a8y _) rfl (by simp [a0d,a0e])
 rintro _ _
 generalize flB bs=all at *
 refine a0t ((a0N (id:=1) (k:=7) (es:=all.map frA) (e:=261) rfl rfl rfl).trans (a0j 1 (Nat.zero_le _) a6L rfl (Nat.le_succ 1)
  (sl':=[(1,.str k),(2,.int .i64 now),(6,.ptr 0 0),(8,.sl 7 (all.map frA))]) ?_)) ?_
 ·refine a0a ⟨rfl,trivial⟩ (a0a ⟨rfl,trivial⟩ (a0a ⟨rfl,Nat.lt_succ_self 0⟩ (a0a ⟨?_,a0F (Nat.zero_le _) (a6I all)⟩ a0l)))
  show frz 1 7 (all.map frA) (.own 1 0 all.length)=_
  exact a3p (List.length_map _).symm
 repeat' (first|refine Zs rfl ?_|refine Zc rfl ?_)
 refine a0s (fun n:Nat=>⟨[(1,.str k),(2,.int .i64 now),(6,.ptr 0 0),(8,.sl 7 (all.map frA)),(13,.int .i64 ((n:Int) - 1))],[some zEn]⟩) (fun n=>n<=all.length/\b5b k all.reverse=b5b k (all.take n).reverse) (fun n=>n) all.length ⟨Nat.le_refl _,by rw [List.take_length]⟩ ?_ ?_
 ·refine a0j 1 (Nat.zero_le _) a6L rfl (Nat.le_refl 1) ?_
  refine a0a ⟨rfl,trivial⟩ (a0a ⟨rfl,trivial⟩ (a0a ⟨rfl,Nat.lt_succ_self 0⟩ (a0a ⟨rfl,a0F (Nat.zero_le _) (a6I all)⟩ (a0a ⟨?_,trivial⟩ a0l))))
  show AV.int .i64 (IntKind.i64.wrap (((all.map frA).length:Int) - 1))=_
  rw [List.length_map,a0r (by omega) (by omega)]
 rintro n ⟨hn,hfn⟩
 repeat' (first|refine Zs rfl ?_|refine Zc rfl ?_)
 refine a0g rfl (fun h1=>?_) (fun h1=>?_)
 ·obtain ⟨m,rfl⟩:∃m,n=m+1:=⟨n - 1,by omega⟩
  have hml:m<all.length:=hn
  obtain ⟨p,hp⟩:∃p,all[m]?=some p:=⟨_,List.getElem?_eq_getElem hml⟩
  rw [List.take_add_one,hp,Option.toList_some,List.reverse_append,List.reverse_singleton,List.singleton_append,b5b] at hfn
  have hmi:(((m+1:Nat):Int) - 1)=(m:Int):=by omega
  rw [hmi]
  repeat' (first|refine Zs rfl ?_|refine Zc rfl ?_)
  refine Qa rfl ?_
  refine a0C hp rfl rfl rfl rfl rfl rfl rfl (by first|rfl|omega) rfl ?_
  refine nx rfl rfl ?_
  repeat' (refine Zs rfl ?_)
  refine Zh (Kz 1 [1,2,6,8,13,14] 1 a6L rfl rfl ⟨trivial,trivial,Nat.lt_succ_self 0,a0F (Nat.zero_le _) (a6I all),trivial,⟨trivial,a0h fun _=>a0k,a0h fun _=>a0k,trivial,trivial⟩,trivial⟩ ?_)
  repeat' (first|refine Zs rfl ?_|refine Zc rfl ?_)
  by_cases k3:p.2.2.kind=3
  ·rw [decide_eq_true k3]
   repeat' (first|refine Zs rfl ?_|refine Zc rfl ?_)
   refine a0c ⟨_,rfl,?_⟩
   unfold c0G
   rw [hfn,if_pos (.inl k3)];rfl
  rw [decide_eq_false k3]
  repeat' (refine Zs rfl ?_)
  by_cases k2:p.2.2.kind=2
  ·have k1:¬ p.2.2.kind=1:=by omega
   rw [decide_eq_true k2]
   repeat' (refine Zs rfl ?_)
   refine Qa rfl ?_
   refine a4u (l:=p.2.2.key) rfl rfl rfl rfl rfl rfl rfl ?_
   refine nx rfl rfl ?_
   repeat' (refine Zs rfl ?_)
   refine a0g rfl (fun kk=>?_) (fun kk=>?_)
   ·repeat' (first|refine Zs rfl ?_|refine Zc rfl ?_)
    refine a0c ⟨_,rfl,?_⟩
    unfold c0G
    rw [hfn,if_pos (.inr ⟨k2,kk⟩)];rfl
   repeat' (first|refine Zs rfl ?_|refine Zc rfl ?_)
   rw [decide_eq_false k1]
   repeat' (first|refine Zs rfl ?_|refine Zc rfl ?_)
   refine ⟨m,⟨Nat.le_of_lt hml,by rw [hfn,if_neg (fun h=>h.elim k3 fun h=>kk h.2),if_neg (fun h=>k1 h.1)]⟩,Nat.lt_succ_self m,?_⟩
   refine a0j 1 (Nat.zero_le _) a6L rfl (Nat.le_refl 1) ?_
   refine a0a ⟨rfl,trivial⟩ (a0a ⟨rfl,trivial⟩ (a0a ⟨rfl,Nat.lt_succ_self 0⟩ (a0a ⟨rfl,a0F (Nat.zero_le _) (a6I all)⟩ (a0a ⟨?_,trivial⟩ a0l))))
   show AV.int .i64 (IntKind.i64.wrap ((m:Int) - 1))=_
   rw [a0r (by omega) (by omega)]
  rw [decide_eq_false k2]
  repeat' (first|refine Zs rfl ?_|refine Zc rfl ?_)
  by_cases k1:p.2.2.kind=1
  ·rw [decide_eq_true k1]
   repeat' (refine Zs rfl ?_)
   refine Qa rfl ?_
   refine a4u (l:=p.2.2.key) rfl rfl rfl rfl rfl rfl rfl ?_
   refine nx rfl rfl ?_
   repeat' (refine Zs rfl ?_)
   refine a0g rfl (fun kk=>?_) (fun kk=>?_)
   ·rw [if_neg (fun h=>h.elim k3 fun h=>k2 h.1),if_pos ⟨k1,kk⟩] at hfn
    repeat' (refine Zc rfl ?_)
    refine a0n [20,21] [0,1,2,3,4,5,6,7,8,9,10,11,12,13,14,15,16,17,18,19] (by exact rfl) ?_
    refine a0y (fuel:=0) [0,1,2,3,4,5,6,7,8,9,10,11,12,13,14,15,16,17,18,19,20,21] (by exact rfl) (by kernel_rfl) (by kernel_rfl) ?_
    repeat' (refine Zd rfl ?_)
    apply a0O rfl rfl rfl rfl
    ·intro H9
     refine a0C hp rfl rfl rfl rfl rfl rfl rfl (by first|rfl|omega) rfl ?_
     exact nxs rfl ⟨rfl,rfl⟩
    repeat' (refine Zd rfl ?_)
    apply a0O rfl rfl rfl rfl
    ·intro H9
     refine a0C hp rfl rfl rfl rfl rfl rfl rfl (by first|rfl|omega) rfl ?_
     exact nxs rfl ⟨rfl,rfl⟩
    repeat' (refine Zd rfl ?_)
    apply a0O rfl rfl rfl rfl
    ·intro H9
     refine a0C hp rfl rfl rfl rfl rfl rfl rfl (by first|rfl|omega) rfl ?_
     exact nxs rfl ⟨rfl,rfl⟩
    repeat' (first|refine Zd rfl ?_|refine Zk ?_)
    refine Qw (by kernel_rfl) ?_
    refine Kz 1 [2,6,15] 1 a6L rfl rfl (by simp [a0d,a0e]) ?_
    repeat' (refine Zc rfl ?_)
    refine a0n [10] [0,1,2,3,4,5,6,7,8,9,11] (by exact rfl) ?_
    refine a0y (fuel:=0) [0,1,2,3,4,5,6,7,8,9,10,11] (by exact rfl) (by kernel_rfl) (by kernel_rfl) ?_
    repeat' (refine Zd rfl ?_)
    by_cases k0:p.2.2.exp=0
    ·rw [decide_eq_true k0]
     repeat' (first|refine Zd rfl ?_|refine Zk ?_|refine Qw (by kernel_rfl) ?_)
     refine a0c ⟨_,rfl,?_⟩
     unfold c0G b4y
     rw [hfn]
     simp only [c3K,k0]
     rfl
    rw [decide_eq_false k0]
    repeat' (first|refine Zd rfl ?_|refine Zk ?_|refine Qw (by kernel_rfl) ?_)
    refine a0c ⟨_,rfl,?_⟩
    unfold c0G b4y
    rw [hfn]
    simp only [c3K,k0,decide_false,Bool.false_or]
    rfl
   repeat' (first|refine Zs rfl ?_|refine Zc rfl ?_)
   refine ⟨m,⟨Nat.le_of_lt hml,by rw [hfn,if_neg (fun h=>h.elim k3 fun h=>k2 h.1),if_neg (fun h=>kk h.2)]⟩,Nat.lt_succ_self m,?_⟩
   refine a0j 1 (Nat.zero_le _) a6L rfl (Nat.le_refl 1) ?_
   refine a0a ⟨rfl,trivial⟩ (a0a ⟨rfl,trivial⟩ (a0a ⟨rfl,Nat.lt_succ_self 0⟩ (a0a ⟨rfl,a0F (Nat.zero_le _) (a6I all)⟩ (a0a ⟨?_,trivial⟩ a0l))))
   show AV.int .i64 (IntKind.i64.wrap ((m:Int) - 1))=_
   rw [a0r (by omega) (by omega)]
  rw [decide_eq_false k1]
  repeat' (first|refine Zs rfl ?_|refine Zc rfl ?_)
  refine ⟨m,⟨Nat.le_of_lt hml,by rw [hfn,if_neg (fun h=>h.elim k3 fun h=>k2 h.1),if_neg (fun h=>k1 h.1)]⟩,Nat.lt_succ_self m,?_⟩
  refine a0j 1 (Nat.zero_le _) a6L rfl (Nat.le_refl 1) ?_
  refine a0a ⟨rfl,trivial⟩ (a0a ⟨rfl,trivial⟩ (a0a ⟨rfl,Nat.lt_succ_self 0⟩ (a0a ⟨rfl,a0F (Nat.zero_le _) (a6I all)⟩ (a0a ⟨?_,trivial⟩ a0l))))
  show AV.int .i64 (IntKind.i64.wrap ((m:Int) - 1))=_
  rw [a0r (by omega) (by omega)]
 have hn0:n=0:=by omega
 subst hn0
 repeat' (first|refine Zs rfl ?_|refine Zc rfl ?_)
 refine a0c ⟨_,rfl,?_⟩
 unfold c0G
 rw [hfn];rfl
def b1x(all:List FR)(k:Key):En:=(b5b k all.reverse).getD enz
def c1D(all:List FR)(k:Key)(now:Int):Bool:=match b5b k all.reverse with
 | some e=>b4y now e
 | none=>false
theorem c1C(all:List FR)(k:Key)(now:Int):c0G all k now=.tup [.agg [.int .i64 (b1x all k).seq,.int .i64 (b1x all k).off,.int .i64 (b1x all k).len,.int .i64 (b1x all k).exp,.bool (b1x all k).hit],.bool (c1D all k now)]:=by
 unfold c0G b1x c1D
 cases b5b k all.reverse<;>rfl
theorem c3M(bs:List (Int × List (Nat × Rec)))(k:Key)(now:Int)(hkey:∀b∈bs,∀p∈b.2,p.2.key.length<=1000000)(htot:(flB bs).length<=290000)(hbl:bs.length<=290000)(hll:∀b∈bs,b.2.length<=290000)(X:Nat->Prop) :
  Pur (E0 X) 127 [.sl 2 (bs.map baA),.str k,.int .i64 now] (.tup [.agg [.int .i64 (b1x (flB bs) k).seq,.int .i64 (b1x (flB bs) k).off,.int .i64 (b1x (flB bs) k).len,.int .i64 (b1x (flB bs) k).exp,.bool (b1x (flB bs) k).hit],.bool (c1D (flB bs) k now)]):=by
 refine Zj ?_ ?_ (fun X=>(c3N X bs k now hkey htot hbl hll).mono fun r H' h=>by rw [h,c1C]) X
 ·exact ⟨a4S bs,trivial,trivial,trivial⟩
 ·exact ⟨⟨trivial,trivial,trivial,trivial,trivial,trivial⟩,trivial,trivial⟩
def a9P(M:Mp)(p:FR)(L:List Pr):List Pr:=match M p.2.2.key with
 | some e=>if p.2.2.kind=1 then a4e p.2.2.key e L else L
 | none=>L
theorem b0D(M:Mp)(p:FR):∀(l:List FR) (L:List Pr),a9Y M (l++[p]) L=a9P M p (a9Y M l L)
 | [],L=>rfl
 | q::l,L=>by
  rw [List.cons_append,a9Y,a9Y]
  exact b0D M p l _
theorem b6l(k:Key)(e:En):∀L:List Pr,(a4e k e L).length<=L.length+1
 | []=>Nat.le_refl 1
 | p::t=>by
  unfold a4e
  split
  ·have:=b6l k e t
   simp;omega
  ·split<;>simp
theorem b8h(M:Mp)(p:FR)(L:List Pr):(a9P M p L).length<=L.length+1:=by
 unfold a9P
 split
 ·split
  ·exact b6l _ _ L
  ·omega
 ·omega
theorem b3D(M:Mp):∀(l:List FR) (L:List Pr),(a9Y M l L).length<=L.length+l.length
 | [],L=>Nat.le_refl _
 | p::l,L=>by
  have h1:=b3D M l (a9P M p L)
  have h2:=b8h M p L
  show (a9Y M l (a9P M p L)).length<=L.length+(l.length+1)
  omega
theorem c0g(all:List FR)(p:FR)(now:Int)(L:List Pr):a9P (b9q now (b4r all)) p L=if c1D all p.2.2.key now=true/\p.2.2.kind=1 then a4e p.2.2.key (b1x all p.2.2.key) L else L:=by
 have h:=a9e p.2.2.key all.reverse
 rw [List.reverse_reverse] at h
 unfold a9P c1D b1x b9q
 rw [<- h]
 cases b5b p.2.2.key all.reverse with
 | none=>simp
 | some e =>
  simp only [Option.getD_some]
  cases hl:b4y now e with
  | true=>simp
  | false=>simp
theorem c2Y{E:Env}{N:Nat}{sl sl':List (Nat × AV)}{L:List Pr}(hsl:∀p∈sl',Ren (gcF 0 [0,2]) (get sl p.1) p.2):Imp E N 0 ⟨sl,rtO L⟩ ⟨sl',rtH L⟩ :=
 a0S 0 [0,2] (H':=rtH L) (os:=[.cells [.own 1 0 L.length] 210,.arr (L.map prA) 69]) (Nat.le_refl _) (Nat.zero_le _) (by simp) (by simp) a0X rfl rfl hsl
  (a0E rfl (a1y (a4x.cons (a0L rfl) a4x.nil)) (a0E rfl (a0A 0 a2m (a4o L)) a0T))
theorem c2J(X:Nat->Prop)(bs:List (Int × List (Nat × Rec)))(now:Int)(hkey:∀b∈bs,∀p∈b.2,p.2.key.length<=1000000)(htot:(flB bs).length<=290000)(hbl:bs.length<=290000)(hll:∀b∈bs,b.2.length<=290000) :
  a0b (E0 X) 69 [.sl 2 (bs.map baA),.int .i64 now] [] (fun r H'=>∃L,L=a9Y (b9q now (b4r (flB bs))) (flB bs) []/\r=.sl 6 (L.map prA)/\H'=[]):=by
 have hbi:a0e 2 (bs.map baA):=a0F (Nat.zero_le 2) (a4S bs)
 have hf0:∀l:List (Nat × Rec),a0e 0 (l.map foA):=fun l=>a0h fun _=>a2f
 have hfi:∀l:List (Nat × Rec),a0e 2 (l.map foA):=fun l=>a0h fun _=>a2f
 obtain ⟨M,hM⟩:∃M,M=b9q now (b4r (flB bs)):=⟨_,rfl⟩
 rw [<- hM]
 refine a0b.frzH (e:=69) 6 ?_ (Nat.le_refl 0) a0X rfl rfl a4o
 refine Z0 Proofs.Tryz.func69 rfl Proofs.Tryz.ntmps69 (by kernel_rfl) rfl ?_
 repeat' (first|refine Zs rfl ?_|refine Zh ?_|refine Ql ?_|refine Qo rfl ?_)
 refine a1B (I:=fun L:List Pr=>L=a9Y M (flB bs) []) (σ:=fun L=>⟨[(1,.int .i64 now),(5,.ptr 0 0)],rtH L⟩) ?_ ?_
 ·refine Zc rfl ?_
  refine a0s (fun s:Nat × List Pr=>⟨[(0,.sl 2 (bs.map baA)),(1,.int .i64 now),(5,.ptr 0 0),(14,.sl 2 (bs.map baA)),(15,.int .i64 (bs.length:Int)),(16,.int .i64 (s.1:Int))],rtH s.2⟩) (fun s=>s.1<=bs.length/\s.2=a9Y M (flB (bs.take s.1)) []) (fun s=>bs.length - s.1) (0,[]) ⟨Nat.zero_le _,rfl⟩ ?_ ?_
  ·refine (a9m 0 0 69 rfl rfl).trans (a0j 2 (Nat.zero_le _) (a2W []) rfl (Nat.le_refl 2) ?_)
   exact a0a ⟨rfl,hbi⟩ (a0a ⟨rfl,trivial⟩ (a0a ⟨rfl,Nat.zero_lt_succ 1⟩ (a0a ⟨rfl,hbi⟩ (a0a ⟨by rw [List.length_map];rfl,trivial⟩ (a0a ⟨rfl,trivial⟩ a0l)))))
  rintro ⟨i,L⟩ ⟨hi,hr⟩
  have hr:L=a9Y M (flB (bs.take i)) []:=hr
  repeat' (first|refine Zs rfl ?_|refine Zc rfl ?_)
  refine a0g rfl (fun h1=>?_) (fun h1=>?_)
  ·have hil:i<bs.length:=by omega
   obtain ⟨b,hb⟩:∃b,bs[i]?=some b:=⟨_,List.getElem?_eq_getElem hil⟩
   have hbm:b∈bs:=List.mem_of_getElem? hb
   have hbl2:=hll b hbm
   repeat' (refine Zc rfl ?_)
   refine Qa rfl ?_
   refine a0C hb rfl rfl rfl rfl rfl rfl rfl (by first|rfl|omega) rfl ?_
   refine nx rfl rfl ?_
   repeat' (refine Zs rfl ?_)
   refine Zh (Kz 2 [0,1,5,7,14,15,16] 2 (a2W L) rfl rfl ⟨hbi,trivial,Nat.zero_lt_succ 1,⟨trivial,hfi b.2,trivial⟩,hbi,trivial,trivial,trivial⟩ ?_)
   repeat' (first|refine Zs rfl ?_|refine Zc rfl ?_)
   refine a0s (fun s:Nat × List Pr=>⟨[(0,.sl 2 (bs.map baA)),(1,.int .i64 now),(5,.ptr 0 0),(7,.fp [.int .i64 b.1,.sl 6 (b.2.map foA)]),(14,.sl 2 (bs.map baA)),(15,.int .i64 (bs.length:Int)),(16,.int .i64 (i:Int)),(21,.sl 6 (b.2.map foA)),(22,.int .i64 (b.2.length:Int)),(23,.int .i64 (s.1:Int))],rtH s.2⟩)
    (fun s=>s.1<=b.2.length/\s.2=a9Y M (flB (bs.take i)++(b.2.take s.1).map fun p=>(b.1,p)) []) (fun s=>b.2.length - s.1) (0,L) ⟨Nat.zero_le _,by simpa using hr⟩ ?_ ?_
   ·exact a0j 2 (Nat.zero_le _) (a2W L) rfl (Nat.le_refl 2) (a0a ⟨rfl,hbi⟩ (a0a ⟨rfl,trivial⟩ (a0a ⟨rfl,Nat.zero_lt_succ 1⟩ (a0a ⟨rfl,trivial,hfi b.2,trivial⟩ (a0a ⟨rfl,hbi⟩ (a0a ⟨rfl,trivial⟩ (a0a ⟨rfl,trivial⟩ (a0a ⟨rfl,hfi b.2⟩ (a0a ⟨by rw [List.length_map];rfl,trivial⟩ (a0a ⟨rfl,trivial⟩ a0l))))))))))
   rintro ⟨j,L1⟩ ⟨hj,hr1⟩
   have hr1:L1=a9Y M (flB (bs.take i)++(b.2.take j).map fun p=>(b.1,p)) []:=hr1
   repeat' (first|refine Zs rfl ?_|refine Zc rfl ?_)
   refine a0g rfl (fun h2=>?_) (fun h2=>?_)
   ·have hjl:j<b.2.length:=by omega
    obtain ⟨p,hp⟩:∃p,b.2[j]?=some p:=⟨_,List.getElem?_eq_getElem hjl⟩
    have hpt:=a6G bs hb j
    have hst:=b8l (s:=b.1) hp
    have hjw:IntKind.i64.wrap ((j:Int)+1)=((j+1:Nat):Int):=a0r (by omega) (by omega)
    have hll1:L1.length<=290000:=by
     have:=b3D M (flB (bs.take i)++(b.2.take j).map fun p=>(b.1,p)) []
     rw [<- hr1] at this
     have h0:([]:List Pr).length=0:=rfl
     omega
    have hstep:=c0g (flB bs) (b.1,p) now L1
    rw [<- hM] at hstep
    have hnx:∀L2,L2=a9P M (b.1,p) L1->L2=a9Y M (flB (bs.take i)++(b.2.take (j+1)).map fun p=>(b.1,p)) []:=fun L2 h=>by
     rw [hst,<- List.append_assoc,b0D,<- hr1];exact h
    repeat' (refine Zc rfl ?_)
    refine Qa rfl ?_
    refine a0C hp rfl rfl rfl rfl rfl rfl rfl (by first|rfl|omega) rfl ?_
    refine nx rfl rfl ?_
    repeat' (refine Zs rfl ?_)
    refine Zh (Kz 2 [0,1,5,7,9,14,15,16,21,22,23] 2 (a2W L1) rfl rfl ⟨hbi,trivial,Nat.zero_lt_succ 1,⟨trivial,hfi b.2,trivial⟩,a0F (Nat.zero_le _) (a7B p),hbi,trivial,trivial,hfi b.2,trivial,trivial,trivial⟩ ?_)
    repeat' (first|refine Zs rfl ?_|refine Zc rfl ?_)
    refine Qa rfl ?_
    refine a4u (l:=p.2.key) rfl rfl rfl rfl rfl rfl rfl ?_
    refine nx rfl rfl ?_
    repeat' (refine Zs rfl ?_)
    refine Zp rfl rfl (c3M bs p.2.key now hkey htot hbl hll X) rfl ?_
    have hst2:a9P M (b.1,p) L1=if c1D (flB bs) p.2.key now=true/\p.2.kind=1 then a4e p.2.key (b1x (flB bs) p.2.key) L1 else L1:=hstep
    generalize c1D (flB bs) p.2.key now=fk at *
    generalize b1x (flB bs) p.2.key=fe at *
    repeat' (refine Zs rfl ?_)
    refine Zh (Kz 2 [0,1,5,7,9,10,11,14,15,16,21,22,23] 2 (a2W L1) rfl rfl ⟨hbi,trivial,Nat.zero_lt_succ 1,⟨trivial,hfi b.2,trivial⟩,a0F (Nat.zero_le _) (a7B p),⟨trivial,trivial,trivial,trivial,trivial,trivial⟩,trivial,hbi,trivial,trivial,hfi b.2,trivial,trivial,trivial⟩ ?_)
    cases fk with
    | true =>
     repeat' (first|refine Zs rfl ?_|refine Zc rfl ?_)
     refine a0g rfl (fun k1=>?_) (fun k1=>?_)
     ·rw [if_pos ⟨rfl,k1⟩] at hst2
      repeat' (first|refine Zs rfl ?_|refine Zc rfl ?_)
      refine Qa rfl ?_
      refine a4u (l:=p.2.key) rfl rfl rfl rfl rfl rfl rfl ?_
      refine nx rfl rfl ?_
      repeat' (refine Zs rfl ?_)
      refine Zf rfl rfl (c4Y X L1 p.2.key fe (by omega)) rfl rfl rfl ?_
      repeat' (first|refine Zs rfl ?_|refine Zc rfl ?_)
      refine ⟨(j+1,a4e p.2.key fe L1),⟨hjl,hnx _ hst2.symm⟩,by show b.2.length - (j+1)<b.2.length - j;omega,?_⟩
      exact c2Y (a0a (a1x rfl (a4S bs)) (a0a (a1x rfl trivial) (a0a (a1h rfl) (a0a (a1x rfl ⟨trivial,hf0 b.2,trivial⟩) (a0a (a1x rfl (a4S bs)) (a0a (a1x rfl trivial) (a0a (a1x rfl trivial) (a0a (a1x rfl (hf0 b.2)) (a0a (a1x rfl trivial) (a0a (a1x (congrArg (AV.int .i64) hjw) trivial) a0l))))))))))
     ·rw [if_neg (fun h=>k1 h.2)] at hst2
      repeat' (first|refine Zs rfl ?_|refine Zc rfl ?_)
      refine ⟨(j+1,L1),⟨hjl,hnx _ hst2.symm⟩,by show b.2.length - (j+1)<b.2.length - j;omega,?_⟩
      rw [hjw]
      exact kk 2 (a2W L1) rfl ⟨hbi,trivial,Nat.zero_lt_succ 1,⟨trivial,hfi b.2,trivial⟩,hbi,trivial,trivial,hfi b.2,trivial,trivial,trivial⟩
    | false =>
     rw [if_neg (fun h=>by cases h.1)] at hst2
     repeat' (first|refine Zs rfl ?_|refine Zc rfl ?_)
     refine ⟨(j+1,L1),⟨hjl,hnx _ hst2.symm⟩,by show b.2.length - (j+1)<b.2.length - j;omega,?_⟩
     rw [hjw]
     exact kk 2 (a2W L1) rfl ⟨hbi,trivial,Nat.zero_lt_succ 1,⟨trivial,hfi b.2,trivial⟩,hbi,trivial,trivial,hfi b.2,trivial,trivial,trivial⟩
   repeat' (first|refine Zs rfl ?_|refine Zc rfl ?_)
   have hj2:j=b.2.length:=by omega
   subst hj2
   have hiw:IntKind.i64.wrap ((i:Int)+1)=((i+1:Nat):Int):=a0r (by omega) (by omega)
   rw [List.take_length,<- a9c hb] at hr1
   refine ⟨(i+1,L1),⟨hil,hr1⟩,by show bs.length - (i+1)<bs.length - i;omega,?_⟩
   rw [hiw]
   exact kk 2 (a2W L1) rfl ⟨hbi,trivial,Nat.zero_lt_succ 1,hbi,trivial,trivial,trivial⟩
  repeat' (refine Zc rfl ?_)
  have hi2:i=bs.length:=by omega
  subst hi2
  rw [List.take_length] at hr
  refine ⟨rfl,L,hr,?_⟩
  exact kk 2 (a2W L) rfl (by simp [a0d,a0e])
 intro L hL
 repeat' (first|refine Zs rfl ?_|refine Zc rfl ?_)
 exact a0c ⟨_,rfl,L,hL,1,_,rfl,by rw [List.length_map],Nat.zero_le 1,rfl,rfl⟩
structure Rg where
 h:Hd
 l:La
def rgL(r:Rg):List AV:=hdL r.h++laL r.l
def rgA(r:Rg):AV:=.agg (rgL r)
theorem a3d{n:Nat}(r:Rg):a0e n (rgL r):=⟨trivial,trivial,trivial,trivial,trivial,trivial,trivial,trivial,trivial,trivial,trivial⟩
theorem a9C{n:Nat}{r:Rg}:a0d n (rgA r):=a3d r
theorem a1d(l:List Rg){n:Nat}:a0e n (l.map rgA):=a0h fun _=>a9C
theorem b2Y{l:La}{s:Int}:a1b l s=-1\/(74<=a1b l s/\a1b l s<=74+32768/\a2i l s/\2<=l.rs/\l.rs<=2048/\a1b l s=74+s*l.rs):=by
 by_cases h:a1a l=true/\0<=s/\s<l.regs
 ·obtain ⟨_,h1,h2⟩:=a2y h.1 h.2.1 h.2.2
  have e:a1b l s=74+s*l.rs:=if_pos h
  have hr:=a1z h.1
  exact .inr ⟨by omega,by omega,h,hr.1,hr.2.1,e⟩
 ·exact .inl (if_neg h)
def ovB(a:La)(i:Int)(b:La)(k:Int):Bool:=decide (0<=a1b a i)&&(decide (0<=a1b b k)&&(decide (a1b a i<a1b b k+b.rs)&&decide (a1b b k<a1b a i+a.rs)))
def b1e(l:La)(n:Int):Bool:=a1a l&&decide (74+l.regs*l.rs<=n)
theorem b1v{l:La}(h:a1a l=true):IntKind.i64.wrap (74+IntKind.i64.wrap (l.regs*l.rs))=74+l.regs*l.rs:=by
 obtain ⟨a,b,c,d⟩:=a1z h
 have h3:0<=l.regs*l.rs:=Int.mul_nonneg (by omega) (by omega)
 have h4:l.regs*l.rs<=16*2048:=Int.mul_le_mul d b (by omega) (by omega)
 have e1:IntKind.i64.wrap (l.regs*l.rs)=l.regs*l.rs:=a0r (by omega) (by omega)
 rw [e1]
 exact a0r (by omega) (by omega)
theorem b5Q(l:La)(slot:Int)(X:Nat->Prop):Pur (E0 X) 100 [laA l,.int .i64 slot] (.int .i64 (a1b l slot)):=⟨⟨a1g,trivial,trivial⟩,fun Y=>b1u Y l slot⟩
theorem c3R(l:La)(X:Nat->Prop):Pur (E0 X) 109 [laA l] (.bool (a1a l)):=⟨⟨a1g,trivial⟩,fun Y=>a6H Y l⟩
theorem b7t(l:La)(X:Nat->Prop):Pur (E0 X) 82 [laA l] (.bool (a1a l)):=⟨⟨a1g,trivial⟩,fun Y=>a4s Y l⟩
theorem b6N(a:La)(i:Int)(b:La)(k:Int):∀X,Pur (E0 X) 48 [laA a,.int .i64 i,laA b,.int .i64 k] (.bool (ovB a i b k)):=by
 refine Zj ⟨a1g,trivial,a1g,trivial,trivial⟩ trivial fun X=>?_
 have hx:=b2Y (l:=a) (s:=i)
 have hy:=b2Y (l:=b) (s:=k)
 have hov:ovB a i b k=(decide (0<=a1b a i)&&(decide (0<=a1b b k)&&(decide (a1b a i<a1b b k+b.rs)&&decide (a1b b k<a1b a i+a.rs)))):=rfl
 rw [hov]
 have hca:=b5Q a i X
 have hcb:=b5Q b k X
 generalize a1b a i=x at *
 generalize a1b b k=y at *
 refine Z0 Proofs.Tryz.func48 rfl Proofs.Tryz.ntmps48 (by kernel_rfl) rfl ?_
 repeat' (first|refine Zs rfl ?_|refine Zc rfl ?_)
 refine a0p [] [] (by exact rfl) (by kernel_rfl) ?_
 repeat' (refine Zd rfl ?_)
 refine Zq rfl rfl rfl rfl (hca) rfl ?_
 repeat' (refine Zd rfl ?_)
 refine Zq rfl rfl rfl rfl (hcb) rfl ?_
 repeat' (first|refine Zs rfl ?_|refine Zc rfl ?_|refine Zd rfl ?_)
 rcases hx with hx|hx
 ·rw [decide_eq_false (show ¬ 0<=x by omega)]
  repeat' (refine Zs rfl ?_)
  refine a0c ⟨_,rfl,rfl⟩
 rw [decide_eq_true (show 0<=x by omega)]
 repeat' (refine Zs rfl ?_)
 rcases hy with hy|hy
 ·rw [decide_eq_false (show ¬ 0<=y by omega)]
  repeat' (refine Zs rfl ?_)
  refine a0c ⟨_,rfl,rfl⟩
 rw [decide_eq_true (show 0<=y by omega)]
 have e1:IntKind.i64.wrap (y+b.rs)=y+b.rs:=a0r (by omega) (by omega)
 have e2:IntKind.i64.wrap (x+a.rs)=x+a.rs:=a0r (by omega) (by omega)
 repeat' (refine Zs rfl ?_)
 rw [e1]
 by_cases h3:x<y+b.rs
 ·rw [decide_eq_true h3]
  repeat' (refine Zs rfl ?_)
  rw [e2]
  refine a0c ⟨_,rfl,rfl⟩
 rw [decide_eq_false h3]
 repeat' (refine Zs rfl ?_)
 refine a0c ⟨_,rfl,rfl⟩
theorem c0F(l:La)(n:Int):∀X,Pur (E0 X) 59 [laA l,.int .i64 n] (.bool (b1e l n)):=by
 refine Zj ⟨a1g,trivial,trivial⟩ trivial fun X=>?_
 have hc:=c3R l X
 have hm:=b1v (l:=l)
 unfold b1e
 generalize a1a l=f at *
 refine Z0 Proofs.Tryz.func59 rfl Proofs.Tryz.ntmps59 (by kernel_rfl) rfl ?_
 repeat' (first|refine Zs rfl ?_|refine Zc rfl ?_)
 refine Zp rfl rfl (hc) rfl ?_
 cases f with
 | false =>
  repeat' (refine Zs rfl ?_)
  refine a0c ⟨_,rfl,rfl⟩
 | true =>
  repeat' (refine Zs rfl ?_)
  rw [hm rfl]
  refine a0c ⟨_,rfl,rfl⟩
theorem c2I(l:La)(n:Int):∀X,Pur (E0 X) 66 [laA l,.int .i64 n] (.bool (b1e l n)):=by
 refine Zj ⟨a1g,trivial,trivial⟩ trivial fun X=>?_
 have hc:=b7t l X
 have hm:=b1v (l:=l)
 unfold b1e
 generalize a1a l=f at *
 refine Z0 Proofs.Tryz.func66 rfl Proofs.Tryz.ntmps66 (by kernel_rfl) rfl ?_
 repeat' (first|refine Zs rfl ?_|refine Zc rfl ?_)
 refine Zp rfl rfl (hc) rfl ?_
 cases f with
 | false =>
  repeat' (refine Zs rfl ?_)
  refine a0c ⟨_,rfl,rfl⟩
 | true =>
  repeat' (refine Zs rfl ?_)
  rw [hm rfl]
  refine a0c ⟨_,rfl,rfl⟩
def c0c(l:La)(s:Int):List Int:=if a1a l=true/\0<=s/\s<l.regs then a4c l s l.rs.toNat else []
theorem b0Q(l:La)(slot:Int)(X:Nat->Prop):Pur (E0 X) 71 [laA l,.int .i64 slot] (.sl 1 ((c0c l slot).map iA)):=by
 refine ⟨⟨a1g,trivial,trivial⟩,fun Y=>?_⟩
 unfold c0c
 by_cases h:a2i l slot
 ·rw [if_pos (show a1a l=true/\0<=slot/\slot<l.regs from h)];exact a5i Y l slot h
 ·rw [if_neg (show ¬ (a1a l=true/\0<=slot/\slot<l.regs) from h)];exact a8H Y l slot h
theorem c1c{l:La}{s:Int}:(a1b l s=-1/\c0c l s=[])\/(74<=a1b l s/\2<=l.rs/\l.rs<=2048/\a1b l s<=74+32768/\(c0c l s).length=l.rs.toNat/\(c0c l s)[0]?=some (a1b l s)/\(c0c l s)[l.rs.toNat - 1]?=some (a1b l s+l.rs - 1)):=by
 by_cases h:a2i l s
 ·have hr:=a1z h.1
  obtain ⟨_,h1,h2⟩:=a2y h.1 h.2.1 h.2.2
  have e:a1b l s=74+s*l.rs:=if_pos h
  have e2:c0c l s=a4c l s l.rs.toNat:=if_pos h
  refine .inr ⟨by omega,hr.1,hr.2.1,by omega,by rw [e2,a5R],?_,?_⟩
  ·rw [e2,a5Q _ _ (show 0<l.rs.toNat by omega),e];simp
  ·rw [e2,a5Q _ _ (show l.rs.toNat - 1<l.rs.toNat by omega),e]
   congr 1;omega
 ·exact .inl ⟨if_neg h,if_neg h⟩
theorem a8D(a:La)(i:Int)(b:La)(k:Int):∀X,Pur (E0 X) 23 [laA a,.int .i64 i,laA b,.int .i64 k] (.bool (ovB a i b k)):=by
 refine Zj ⟨a1g,trivial,a1g,trivial,trivial⟩ trivial fun X=>?_
 have hx:=c1c (l:=a) (s:=i)
 have hy:=c1c (l:=b) (s:=k)
 have hov:ovB a i b k=(decide (0<=a1b a i)&&(decide (0<=a1b b k)&&(decide (a1b a i<a1b b k+b.rs)&&decide (a1b b k<a1b a i+a.rs)))):=rfl
 rw [hov]
 have hca:=b0Q a i X
 have hcb:=b0Q b k X
 generalize a1b a i=x at *
 generalize a1b b k=y at *
 generalize c0c a i=u at *
 generalize c0c b k=v at *
 refine Z0 Proofs.Tryz.func23 rfl Proofs.Tryz.ntmps23 (by kernel_rfl) rfl ?_
 repeat' (first|refine Zs rfl ?_|refine Zc rfl ?_)
 refine a0p [] [] (by exact rfl) (by kernel_rfl) ?_
 repeat' (refine Zd rfl ?_)
 refine Zq rfl rfl rfl rfl (hca) rfl ?_
 repeat' (refine Zd rfl ?_)
 refine Zq rfl rfl rfl rfl (hcb) rfl ?_
 repeat' (first|refine Zs rfl ?_|refine Zc rfl ?_|refine Zd rfl ?_)
 rw [List.length_map]
 rcases hx with ⟨hx,rfl⟩|⟨x1,x2,x3,x4,x5,x6,x7⟩
 ·rw [decide_eq_true (show (([]:List Int).length:Int)=0 from rfl),decide_eq_false (show ¬ 0<=x by omega)]
  repeat' (first|refine Zs rfl ?_|refine Zc rfl ?_)
  refine a0c ⟨_,rfl,rfl⟩
 rw [decide_eq_false (show ¬ (u.length:Int)=0 by omega),decide_eq_true (show 0<=x by omega)]
 repeat' (refine Zs rfl ?_)
 rw [List.length_map]
 rcases hy with ⟨hy,rfl⟩|⟨y1,y2,y3,y4,y5,y6,y7⟩
 ·rw [decide_eq_true (show (([]:List Int).length:Int)=0 from rfl),decide_eq_false (show ¬ 0<=y by omega)]
  repeat' (first|refine Zs rfl ?_|refine Zc rfl ?_)
  refine a0c ⟨_,rfl,rfl⟩
 rw [decide_eq_false (show ¬ (v.length:Int)=0 by omega),decide_eq_true (show 0<=y by omega)]
 repeat' (refine Zc rfl ?_)
 refine a0p [] [] (by exact rfl) (by kernel_rfl) ?_
 have hu1:u[u.length - 1]?=some (x+a.rs - 1):=by rw [x5];exact x7
 have hv1:v[v.length - 1]?=some (y+b.rs - 1):=by rw [y5];exact y7
 have e1:IntKind.i64.wrap ((v.length:Int) - 1)=((v.length - 1:Nat):Int):=a0x (by omega) (by omega) (by omega)
 have e2:IntKind.i64.wrap ((u.length:Int) - 1)=((u.length - 1:Nat):Int):=a0x (by omega) (by omega) (by omega)
 repeat' (refine Zd rfl ?_)
 apply ds rfl rfl rfl rfl
 ·refine a0C x6 rfl rfl rfl rfl rfl rfl rfl (by first|rfl|omega) rfl ?_
  exact nx rfl rfl ⟨rfl,rfl⟩
 repeat' (refine Zd rfl ?_)
 rw [List.length_map,e1]
 apply ds rfl rfl rfl rfl
 ·refine a0C hv1 rfl rfl rfl rfl rfl rfl rfl (by first|rfl|omega) rfl ?_
  exact nx rfl rfl ⟨rfl,rfl⟩
 repeat' (refine Zd rfl ?_)
 by_cases h3:x<y+b.rs
 ·rw [decide_eq_true (show x<=y+b.rs - 1 by omega),decide_eq_true h3]
  repeat' (refine Zd rfl ?_)
  apply ds rfl rfl rfl rfl
  ·refine a0C y6 rfl rfl rfl rfl rfl rfl rfl (by first|rfl|omega) rfl ?_
   exact nx rfl rfl ⟨rfl,rfl⟩
  repeat' (refine Zd rfl ?_)
  rw [List.length_map,e2]
  apply ds rfl rfl rfl rfl
  ·refine a0C hu1 rfl rfl rfl rfl rfl rfl rfl (by first|rfl|omega) rfl ?_
   exact nx rfl rfl ⟨rfl,rfl⟩
  repeat' (first|refine Zd rfl ?_|refine Zk ?_)
  refine a0c ⟨_,rfl,?_⟩
  by_cases h4:y<x+a.rs
  ·rw [decide_eq_true h4,decide_eq_true (show y<=x+a.rs - 1 by omega)];rfl
  ·rw [decide_eq_false h4,decide_eq_false (show ¬ y<=x+a.rs - 1 by omega)];rfl
 rw [decide_eq_false (show ¬ x<=y+b.rs - 1 by omega),decide_eq_false h3]
 repeat' (first|refine Zd rfl ?_|refine Zk ?_)
 refine a0c ⟨_,rfl,rfl⟩
def a6T(a b:Rg):Bool:=if a.h.seq≠b.h.seq then decide (b.h.seq<a.h.seq) else if a.l.id≠b.l.id then decide (b.l.id<a.l.id) else decide (b.h.slot<a.h.slot)
theorem b8O(a b:Rg):∀X,Pur (E0 X) 126 [rgA a,rgA b] (.bool (a6T a b)):=by
 refine Zj ⟨a9C,a9C,trivial⟩ trivial fun X=>?_
 have he:a6T a b=if a.h.seq≠b.h.seq then decide (b.h.seq<a.h.seq) else if a.l.id≠b.l.id then decide (b.l.id<a.l.id) else decide (b.h.slot<a.h.slot):=rfl
 rw [he]
 refine Z0 Proofs.Tryz.func126 rfl Proofs.Tryz.ntmps126 (by kernel_rfl) rfl ?_
 repeat' (first|refine Zs rfl ?_|refine Zc rfl ?_)
 by_cases h1:a.h.seq=b.h.seq
 ·rw [decide_eq_false (fun h=>h h1:¬ a.h.seq≠b.h.seq),if_neg (fun h=>h h1)]
  repeat' (first|refine Zs rfl ?_|refine Zc rfl ?_)
  by_cases h2:a.l.id=b.l.id
  ·rw [decide_eq_false (fun h=>h h2:¬ a.l.id≠b.l.id),if_neg (fun h=>h h2)]
   repeat' (first|refine Zs rfl ?_|refine Zc rfl ?_)
   refine a0c ⟨_,rfl,rfl⟩
  rw [decide_eq_true (show a.l.id≠b.l.id from h2),if_pos h2]
  repeat' (first|refine Zs rfl ?_|refine Zc rfl ?_)
  refine a0c ⟨_,rfl,rfl⟩
 rw [decide_eq_true (show a.h.seq≠b.h.seq from h1),if_pos h1]
 repeat' (first|refine Zs rfl ?_|refine Zc rfl ?_)
 refine a0c ⟨_,rfl,rfl⟩
open Go.Proofs Go.Maps Go.Sort Go.Shelf Go.RowKit
instance:Inhabited Rg:=⟨⟨⟨0,0,0,0,0,0⟩,⟨0,0,0,0⟩⟩⟩
theorem a5r(a b:Rg):a6T a b=true ↔ b.h.seq<a.h.seq\/(a.h.seq=b.h.seq/\(b.l.id<a.l.id\/(a.l.id=b.l.id/\b.h.slot<a.h.slot))):=by
 unfold a6T
 by_cases h1:a.h.seq=b.h.seq
 ·rw [if_neg (fun h=>h h1)]
  by_cases h2:a.l.id=b.l.id
  ·rw [if_neg (fun h=>h h2),decide_eq_true_eq];omega
  ·rw [if_pos h2,decide_eq_true_eq];omega
 ·rw [if_pos h1,decide_eq_true_eq];omega
def b5j(rs s:List Rg):Prop:=s.Perm rs/\∀i j (hi:i<s.length) (hj:j<s.length),i<j->a6T s[j] s[i]=false
def a8u(r x:Rg):Bool:=decide (x.h.seq=r.h.seq) || ovB x.l x.h.slot r.l r.h.slot
theorem c4N{l:List Rg}{i:Nat}(hi:i<l.length):∃p,l[i]?=some p/\l[i]=p/\(l.map rgA)[i]?=some (.agg [.int .i64 p.h.ver,.int .i64 p.h.slot,.int .i64 p.h.lay,.int .i64 p.h.seq,.int .i64 p.h.tail,.int .i64 p.h.now,.int .i64 p.l.id,.int .i64 p.l.ver,.int .i64 p.l.rs,.int .i64 p.l.regs]) :=
 ⟨l[i],List.getElem?_eq_getElem hi,rfl,by rw [List.getElem?_map,List.getElem?_eq_getElem hi];rfl⟩
theorem a7G(l:List Rg):HOk 1 [some (.arr (l.map rgA) 63)]:=fun j o ho=>by
 match j,ho with
 | 0,ho=>cases ho;exact a1d l
end Go.Abs
