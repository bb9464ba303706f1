/- The records of a log in order, and the map that they leave; sorted lists of pairs. No program. Joined texts, each with what its own name promises; no condition beyond those stated. -/
import Derived.Test.YtkmmdlicifiknaaGreatDoorCH
import Derived.Test.YtkmmdlicifiknaaGreatDoorCG
import Derived.Test.YtkmmdlicifiknaaGreatDoorCC
import Derived.Shelf.SlIter.Collect
import Derived.Shelf.SlSortCmp.NoneTotal
import Derived.Test.YtkmmdlicifiknaaGreatDoorProg
import Derived.KernelRfl
import Derived.Lib.Walk
import Derived.Sort.Row
import Derived.Lib.Strings
import Derived.Laws.Cover1
import Derived.Test.YtkmmdlicifiknaaGreatDoorCE
set_option maxHeartbeats 0
set_option maxRecDepth 100000
set_option linter.all false
namespace Go.Abs
abbrev Mp:=Key->Option En
abbrev FR:=Int × Nat × Rec
def c3K(p:FR):En:=⟨p.1,(p.2.1:Int),(a1M p.2.2:Int),p.2.2.exp,false⟩
def c3k(M:Mp)(p:FR):Mp:=fun k=>if p.2.2.kind=1 then (if p.2.2.key=k then some (c3K p) else M k) else if p.2.2.kind=2 then (if p.2.2.key=k then none else M k) else if p.2.2.kind=3 then none else M k
def b4r(l:List FR):Mp:=l.foldl c3k fun _=>none
def b5b(k:Key):List FR->Option En
 | []=>none
 | p::t=>if p.2.2.kind=3\/(p.2.2.kind=2/\p.2.2.key=k) then none else if p.2.2.kind=1/\p.2.2.key=k then some (c3K p) else b5b k t
theorem b5O(l:List FR)(p:FR):b4r (l++[p])=c3k (b4r l) p:=by simp [b4r]
theorem a9e(k:Key):∀l:List FR,b5b k l=b4r l.reverse k
 | []=>rfl
 | p::t=>by
  rw [List.reverse_cons,b5O,b5b,a9e k t]
  unfold c3k
  by_cases h1:p.2.2.kind=1
  ·simp [h1]
  by_cases h2:p.2.2.kind=2
  ·simp [h2]
  ·by_cases h3:p.2.2.kind=3<;>simp [h1,h2,h3]
theorem b2W:∀(l:List FR) (k:Key) (e:En),b4r l.reverse k=some e->∃p∈l,p.2.2.kind=1/\p.2.2.key=k/\c3K p=e
 | [],k,e,h=>by cases h
 | p::t,k,e,h=>by
  rw [<- a9e,b5b] at h
  split at h
  ·cases h
  split at h
  ·rename_i h2;cases h;exact ⟨p,List.mem_cons_self,h2.1,h2.2,rfl⟩
  rw [a9e] at h
  obtain ⟨q,h3,h4⟩:=b2W t k e h
  exact ⟨q,List.mem_cons_of_mem _ h3,h4⟩
/-! ### Lists of pairs in ascending order -/
abbrev Pr:=Key × En
structure IsMap(L:List Pr)(M:Mp):Prop where
 asc:L.Pairwise fun a b=>a.1<b.1
 mem:∀k e,(k,e)∈L ↔ M k=some e
theorem b1F(a:Key):¬ a<a:=List.lt_irrefl a
theorem c1R(a b:Key):a<b\/a=b\/b<a:=by
 by_cases h1:a<b
 ·exact .inl h1
 by_cases h2:b<a
 ·exact .inr (.inr h2)
 ·exact .inr (.inl (List.le_antisymm (List.not_lt.1 h2) (List.not_lt.1 h1)))
def a4e(k:Key)(e:En):List Pr->List Pr
 | []=>[(k,e)]
 | p::t=>if p.1<k then p::a4e k e t else if p.1=k then (k,e)::t else (k,e)::p::t
theorem b6m{k:Key}{e:En}{q:Pr}:∀{L:List Pr},q∈a4e k e L->q=(k,e)\/q∈L
 | [],h=>.inl (by simpa [a4e] using h)
 | p::t,h=>by
  unfold a4e at h
  split at h
  ·rcases List.mem_cons.1 h with h|h
   ·exact .inr (by rw [h];exact List.mem_cons_self)
   ·exact (b6m h).imp id (List.mem_cons_of_mem _)
  split at h
  ·exact (List.mem_cons.1 h).imp id (List.mem_cons_of_mem _)
  ·exact List.mem_cons.1 h
theorem b6k{k:Key}{e:En}:∀{L:List Pr},L.Pairwise (fun a b=>a.1<b.1)->(a4e k e L).Pairwise (fun a b=>a.1<b.1)/\∀k' e',(k',e')∈a4e k e L ↔ if k'=k then e'=e else (k',e')∈L
 | [],_=>⟨by simp [a4e],fun k' e'=>by simp only [a4e,List.mem_singleton,Prod.mk.injEq,List.not_mem_nil];split<;>simp [*]⟩
 | p::t,h=>by
  obtain ⟨h1,h2⟩:=List.pairwise_cons.1 h
  obtain ⟨i1,i2⟩:=b6k (k:=k) (e:=e) h2
  unfold a4e
  split
  ·rename_i hlt
   refine ⟨List.pairwise_cons.2 ⟨fun q hq=>?_,i1⟩,fun k' e'=>?_⟩
   ·rcases b6m hq with rfl|hq
    ·exact hlt
    ·exact h1 q hq
   rw [List.mem_cons,i2]
   split
   ·rename_i hk
    subst hk
    exact ⟨fun h=>h.elim (fun h=>by rw [<- h] at hlt;exact absurd hlt (b1F _)) id,.inr⟩
   ·rw [List.mem_cons]
  rename_i hge
  split
  ·rename_i he
   refine ⟨List.pairwise_cons.2 ⟨fun q hq=>by rw [<- he];exact h1 q hq,h2⟩,fun k' e'=>?_⟩
   rw [List.mem_cons]
   split
   ·rename_i hk
    subst hk
    refine ⟨fun h=>h.elim (fun h=>(Prod.mk.injEq _ _ _ _ ▸ h).2) fun h=>?_,fun h=>.inl (by rw [h])⟩
    have:=h1 _ h
    rw [he] at this
    exact absurd this (b1F _)
   rename_i hk
   rw [List.mem_cons]
   refine ⟨fun h=>h.elim (fun h=>absurd (congrArg (·.1) h) hk) .inr,fun h=>h.elim (fun h=>?_) .inr⟩
   rw [<- h] at he
   exact absurd he hk
  rename_i hne
  have hgt:k<p.1:=by
   rcases c1R p.1 k with h|h|h
   ·exact absurd h hge
   ·exact absurd h hne
   ·exact h
  refine ⟨List.pairwise_cons.2 ⟨fun q hq=>?_,h⟩,fun k' e'=>?_⟩
  ·rcases List.mem_cons.1 hq with rfl|hq
   ·exact hgt
   ·exact List.lt_trans hgt (h1 q hq)
  rw [List.mem_cons]
  split
  ·rename_i hk
   subst hk
   refine ⟨fun h=>h.elim (fun h=>(Prod.mk.injEq _ _ _ _ ▸ h).2) fun h=>?_,fun h=>.inl (by rw [h])⟩
   rcases List.mem_cons.1 h with h|h
   ·rw [<- h] at hne;exact absurd rfl hne
   ·exact absurd (List.lt_trans hgt (h1 _ h)) (b1F _)
  ·rename_i hk
   exact ⟨fun h=>h.elim (fun h=>absurd (congrArg (·.1) h) hk) id,.inr⟩
def b4y(now:Int)(e:En):Bool:=decide (e.exp=0) || decide (now<e.exp)
def b9q(now:Int)(M:Mp):Mp:=fun k=>match M k with
 | some e=>if b4y now e then some e else none
 | none=>none
def a9Y(M:Mp):List FR->List Pr->List Pr
 | [],L=>L
 | p::t,L=>a9Y M t (match M p.2.2.key with
  | some e=>if p.2.2.kind=1 then a4e p.2.2.key e L else L
  | none=>L)
theorem a7h(M:Mp):∀(t pre:List FR) (L:List Pr),L.Pairwise (fun a b=>a.1<b.1)->(∀k e,(k,e)∈L ↔ (∃p∈pre,p.2.2.kind=1/\p.2.2.key=k)/\M k=some e) ->
  (a9Y M t L).Pairwise (fun a b=>a.1<b.1)/\∀k e,(k,e)∈a9Y M t L ↔ (∃p∈pre++t,p.2.2.kind=1/\p.2.2.key=k)/\M k=some e
 | [],pre,L,h1,h2=>⟨h1,fun k e=>by rw [List.append_nil];exact h2 k e⟩
 | p::t,pre,L,h1,h2=>by
  have e1:pre++p::t=(pre++[p])++t:=by simp
  rw [e1]
  unfold a9Y
  have skip:(p.2.2.kind=1->M p.2.2.key=none)->∀k e,(k,e)∈L ↔ (∃q∈pre++[p],q.2.2.kind=1/\q.2.2.key=k)/\M k=some e:=fun hs k e=>by
   rw [h2]
   constructor
   ·rintro ⟨⟨q,hq,h3⟩,h4⟩
    exact ⟨⟨q,List.mem_append_left _ hq,h3⟩,h4⟩
   rintro ⟨⟨q,hq,h3,h4⟩,h5⟩
   rcases List.mem_append.1 hq with hq|hq
   ·exact ⟨⟨q,hq,h3,h4⟩,h5⟩
   rw [List.mem_singleton] at hq
   subst hq
   rw [h4] at hs
   rw [hs h3] at h5
   cases h5
  cases hk:M p.2.2.key with
  | none=>exact a7h M t _ L h1 (skip fun _=>hk)
  | some e0 =>
   by_cases h3:p.2.2.kind=1
   ·simp only [if_pos h3]
    obtain ⟨i1,i2⟩:=b6k (k:=p.2.2.key) (e:=e0) h1
    refine a7h M t _ _ i1 fun k e=>?_
    rw [i2]
    split
    ·rename_i h4
     subst h4
     rw [hk]
     exact ⟨fun h=>⟨⟨p,by simp,h3,rfl⟩,by rw [h]⟩,fun h=>(Option.some.inj h.2).symm⟩
    rename_i h4
    rw [h2]
    constructor
    ·rintro ⟨⟨q,hq,h5⟩,h6⟩
     exact ⟨⟨q,List.mem_append_left _ hq,h5⟩,h6⟩
    rintro ⟨⟨q,hq,h5,h6⟩,h7⟩
    rcases List.mem_append.1 hq with hq|hq
    ·exact ⟨⟨q,hq,h5,h6⟩,h7⟩
    rw [List.mem_singleton] at hq
    subst hq
    exact absurd h6.symm h4
   ·simp only [if_neg h3]
    exact a7h M t _ L h1 (skip fun h=>absurd h h3)
theorem b4G(now:Int)(l:List FR):IsMap (a9Y (b9q now (b4r l)) l []) (b9q now (b4r l)):=by
 obtain ⟨h1,h2⟩:=a7h (b9q now (b4r l)) l [] [] List.Pairwise.nil (fun k e=>by simp)
 refine ⟨h1,fun k e=>(h2 k e).trans ⟨fun h=>h.2,fun h=>⟨?_,h⟩⟩⟩
 have h3:b4r l k=some e:=by
  unfold b9q at h
  split at h
  ·rename_i e1 he
   split at h
   ·cases h;exact he
   ·cases h
  ·cases h
 rw [<- List.reverse_reverse l] at h3
 obtain ⟨p,hp,h4,h5,_⟩:=b2W _ _ _ h3
 exact ⟨p,by simpa using hp,h4,h5⟩
theorem a0b.frzH{E:Env}{f:FuncId}{args:List AV}{H H1:Hp}{ι:Type}{P:ι->Prop}{es:ι->List AV}{e:TypeId}(k:Nat)
  (h:a0b E f args H (fun r H'=>∃i,P i/\∃id n,r=.own id 0 n/\n=(es i).length/\H1.length<=id/\H'[id]?=some (some (.arr (es i) e))/\H'.take H1.length=H1))
  (hl:H.length<=H1.length) (hok:HOk H1.length H1) (he:Nat.blt e E.n=true) (hk:Nat.beq (E.ti e).sz k=true) (hes:∀i,a0e 0 (es i)):a0b E f args H (fun r H'=>∃i,P i/\r=.sl k (es i)/\H'=H1) :=
 h.imp fun r H' ⟨i,hP,id,n,h1,h2,h3,h4,h5⟩=>by
  subst h1;subst h2
  have hlt:id<H'.length:=(List.getElem?_eq_some_iff.1 h4).1
  refine ⟨_,_,⟨i,hP,rfl,rfl⟩,?_⟩
  refine (a0N (id:=id) (k:=k) (es:=es i) (e:=e) h4 he hk).trans ?_
  refine a0j H1.length hl hok ?_ (by simp;omega) ?_
  ·show (H'.set id none).take H1.length=H1
   conv=>rhs;rw [<- h5]
   apply List.ext_getElem?
   intro j
   simp only [List.getElem?_take,List.getElem?_set]
   split
   ·rw [if_neg (by omega)]
   ·rfl
  refine a0a ⟨?_,a0F (Nat.zero_le _) (hes i)⟩ a0l
  simp [a0R,frz]
def prA(p:Pr):AV:=.agg [.str p.1,.int .i64 p.2.seq,.int .i64 p.2.off,.int .i64 p.2.len,.int .i64 p.2.exp,.bool p.2.hit]
theorem a4o(l:List Pr):a0e 0 (l.map prA):=a0h fun _=>⟨trivial,trivial,trivial,trivial,trivial,trivial,trivial⟩
attribute [local irreducible] a0z a1p AWp Nx awM
end Go.Abs
namespace Go.Proofs
end Go.Proofs
namespace Go.Abs
open Go.Proofs Go.Maps Go.Sort Go.Shelf Go.RowKit
open Go.Proofs Go.Maps Go.Sort Go.Shelf Go.RowKit
attribute [local irreducible] a0z a1p AWp Nx awM
theorem b1P(p:Pr):a2R [prA p]:=fun y hy=>by
 rw [List.mem_singleton] at hy;subst hy;exact ⟨rfl,rfl⟩
theorem b9W(X:Nat->Prop)(r:Rec)(hk:r.key.length<=maxLen)(hv:r.val.length<=maxLen):a0b (E0 X) 37 [a5X r] [] (fun q H'=>q=a5X r.short/\H'=[]):=by
 refine a0b.cut0 ?_ a2x
 have t1:r.key.take (min r.key.length 260)=r.key.take 260:=by
  rcases Nat.le_total r.key.length 260 with h|h
  ·rw [Nat.min_eq_left h,List.take_of_length_le (Nat.le_refl _),List.take_of_length_le h]
  ·rw [Nat.min_eq_right h]
 have t2:r.val.take (min r.val.length 200)=r.val.take 200:=by
  rcases Nat.le_total r.val.length 200 with h|h
  ·rw [Nat.min_eq_left h,List.take_of_length_le (Nat.le_refl _),List.take_of_length_le h]
  ·rw [Nat.min_eq_right h]
 show a0b (E0 X) 37 [.agg [.int .i64 r.kind,.sl 1 (r.key.map u8A),.sl 1 (r.val.map u8A),.int .i64 r.exp]] [] _
 refine Z0 Proofs.Tryz.func37 rfl Proofs.Tryz.ntmps37 (by kernel_rfl) rfl ?_
 repeat' (first|refine Zs rfl ?_|refine Zc rfl ?_)
 refine a0n [15,17] [0,2,4,5,6,7,9,11,12,13,14,16] (by exact rfl) ?_
 refine a0y (fuel:=0) [0,2,7,9,1,3,4,5,6,8,10,11,12,13,14,15,16,17] (by exact rfl) (by kernel_rfl) (by kernel_rfl) ?_
 repeat' ((first|apply Qd rfl rfl rfl rfl|(apply Qe rfl rfl rfl rfl;intro H9));(first|refine Q3 rfl rfl rfl ?_|refine Q4 rfl rfl rfl rfl rfl ?_|refine Q7 rfl rfl rfl ?_|refine QE rfl rfl ?_);(first|exact QX rfl rfl ⟨rfl,rfl⟩|exact QY rfl ⟨rfl,rfl⟩))
 apply a0O rfl rfl rfl rfl
 ·intro H9
  refine a1f (l:=0) (h:=min r.key.length 260) (ys:=r.key.take 260) (a1u) (a0q rfl (by rw [List.length_map];omega)) (by omega) (by omega) (by rw [List.drop_zero,t1]) rfl rfl rfl rfl rfl ?_
  exact nx0 ⟨rfl,rfl⟩
 repeat' ((first|apply Qd rfl rfl rfl rfl|(apply Qe rfl rfl rfl rfl;intro H9));(first|refine Q3 rfl rfl rfl ?_|refine Q7 rfl rfl rfl ?_|refine QE rfl rfl ?_);(first|exact QX rfl rfl ⟨rfl,rfl⟩|exact QY rfl ⟨rfl,rfl⟩))
 apply a0O rfl rfl rfl rfl
 ·intro H9
  refine a1f (l:=0) (h:=min r.val.length 200) (ys:=r.val.take 200) (a1u) (a0q rfl (by rw [List.length_map];omega)) (by omega) (by omega) (by rw [List.drop_zero,t2]) rfl rfl rfl rfl rfl ?_
  exact nx0 ⟨rfl,rfl⟩
 repeat' (first|((apply Qe rfl rfl rfl rfl;intro H9);(refine Q4 rfl rfl rfl rfl rfl ?_);(exact QY rfl ⟨rfl,rfl⟩))|(refine Qf rfl rfl rfl ?_;refine QS rfl rfl rfl rfl rfl rfl rfl ?_;(refine QX rfl rfl ?_))|refine Qk ?_|refine Qw (by kernel_rfl) ?_)
 repeat' (first|refine Zs rfl ?_|refine Zc rfl ?_|refine Zh ?_|refine Qs ?_)
 exact a0c ⟨_,rfl,rfl⟩
def iN(n:Nat):AV:=.int .i64 (n:Int)
theorem a9k(l:List Nat){n:Nat}:a0e n (l.map iN):=a0h fun _=>trivial
def pfN(ns ws:List Nat):Nat->List UInt8
 | 0=>[]
 | i+1=>a0Y (pfN ns ws i) (ns.getD i 0) (ws.getD i 0)
theorem b6W{ns ws:List Nat}(hw:∀w∈ws,1<=w/\w<=8):∀i,i<=ws.length->(pfN ns ws i).length<=8*i
 | 0,_=>Nat.le_refl _
 | i+1,h=>by
  have h1:=b6W (ns:=ns) hw i (by omega)
  have h2:ws.getD i 0<=8:=by
   rw [List.getD_eq_getElem?_getD,List.getElem?_eq_getElem (by omega)]
   exact (hw _ (List.getElem_mem _)).2
  simp only [pfN,a0D]
  omega
theorem c4d(l:List UInt8):HOk 1 [some (.arr (l.map u8A) 5)]:=a9h l
theorem a9b(X:Nat->Prop)(ns ws:List Nat)(hn:∀n∈ns,n<9223372036854775808)(hw:∀w∈ws,1<=w/\w<=8)(hlen:ns.length=ws.length)(hl:ns.length<=10) :
  a0b (E0 X) 187 [.nils,.sl 1 (ns.map iN),.sl 1 (ws.map iN)] [] (fun r H'=>r=.sl 1 ((pfN ns ws ns.length).map u8A)/\H'=[]):=by
 refine a0b.frz0 (e:=5) 1 ?_ rfl rfl (a0h fun _=>a0k)
 have hml:(ns.map iN).length=ns.length:=List.length_map _
 refine Z0 Proofs.Tryz.func187 rfl Proofs.Tryz.ntmps187 (by kernel_rfl) rfl ?_
 repeat' (first|refine Zs rfl ?_|refine Zc rfl ?_)
 rw [hml]
 refine a0s (fun i:Nat=>⟨[(0,.own 0 0 (pfN ns ws i).length),(2,.sl 1 (ws.map iN)),(9,.sl 1 (ns.map iN)),(10,.int .i64 (ns.length:Int)),(11,.int .i64 (i:Int))],[some (.arr ((pfN ns ws i).map u8A) 5)]⟩) (fun i=>i<=ns.length) (fun i=>ns.length - i) 0 (Nat.zero_le _) ?_ ?_
 ·refine Imp.trans (imp_nil 0 5 rfl) (a0j 1 (Nat.zero_le _) (c4d []) rfl (by simp) ?_)
  repeat' (first|exact a0l|refine a0a ⟨?_,?_⟩ ?_)
  all_goals (try first|exact rfl|exact trivial|(simp [a0d,a0e];done))
  all_goals exact a9k _
 rintro i hi
 have hpl:=b6W (ns:=ns) hw i (by omega)
 repeat' (first|refine Zs rfl ?_|refine Zc rfl ?_)
 refine a0g rfl (fun h3=>?_) (fun h3=>?_)
 ·have hi2:i<ns.length:=by omega
  obtain ⟨a,ha⟩:∃a,ns[i]?=some a:=⟨_,List.getElem?_eq_getElem hi2⟩
  obtain ⟨b,hb⟩:∃b,ws[i]?=some b:=⟨_,List.getElem?_eq_getElem (hlen ▸ hi2)⟩
  have han:=hn a (List.mem_of_getElem? ha)
  have hbw:=hw b (List.mem_of_getElem? hb)
  have hs:pfN ns ws (i+1)=a0Y (pfN ns ws i) a b:=by
   simp only [pfN,List.getD_eq_getElem?_getD,ha,hb,Option.getD_some]
  have hpu:=fun H x hx=>a3X X H x (pfN ns ws i) a b hbw.1 hbw.2 (by omega) hx
  rw [<- hs] at hpu
  have hs2:(pfN ns ws (i+1)).length=(pfN ns ws i).length+b:=by rw [hs,a0D]
  generalize pfN ns ws i=p0 at *
  generalize hp1:pfN ns ws (i+1)=p1 at *
  repeat' (first|refine Zs rfl ?_|refine Zc rfl ?_|refine Qa rfl ?_)
  refine a0C ha rfl rfl rfl rfl rfl rfl rfl (by first|rfl|omega) rfl ?_
  refine nx rfl rfl ?_
  repeat' (first|refine Zs rfl ?_|refine Zc rfl ?_|refine Qa rfl ?_)
  refine a0C hb rfl rfl rfl rfl rfl rfl rfl (by first|rfl|omega) rfl ?_
  refine nx rfl rfl ?_
  repeat' (first|refine Zs rfl ?_|refine Qa rfl ?_)
  rw [wrap64 (by omega)]
  refine Cn rfl (hpu _ _ (a0B rfl rfl rfl (by omega) (by rw [List.drop_zero,List.take_of_length_le (by omega)]))) rfl rfl ?_
  repeat' (first|refine Zs rfl ?_|refine Zc rfl ?_|refine Zh ?_|refine Qs ?_)
  refine ⟨i+1,by omega,by omega,?_⟩
  rw [hp1,hs2]
  refine a0S 0 [1] (H':=[some (.arr (p1.map u8A) 5)]) (os:=[.arr (p1.map u8A) 5]) (Nat.le_refl _) (Nat.zero_le _) (by simp) (by simp) (by simp [HOk]) rfl rfl ?_ ?_
  ·refine a0a (a0L rfl) (a0a (a0v rfl (a9k _)) (a0a (a0v rfl (a9k _)) (a0a (a0v rfl trivial) (a0a (a0v ?_ trivial) a0l))))
   exact congrArg (AV.int .i64) (a0x (by omega) (by omega) (by omega))
  ·exact a0E rfl (a0A 0 (fun i h=>absurd h (Nat.not_lt_zero i)) (a0h fun _=>a0k)) a0T
 have hii:i=ns.length:=by omega
 repeat' (first|refine Zs rfl ?_|refine Zc rfl ?_|refine Zh ?_|refine Qs ?_)
 refine a0c ⟨_,rfl,0,_,rfl,?_,?_⟩
 ·rw [<- hii,List.length_map]
 ·rw [<- hii];rfl
def b1B(ver:Int)(k kl vl e:Nat):List UInt8:=if ver=1 then pfN [161,k,kl,0,vl,e] [1,1,1,1,4,4] 6 else pfN [162,kl,16*k,vl,0,e] [1,1,1,3,1,5] 6
theorem a7D(ver:Int)(k kl vl e:Nat):(b1B ver k kl vl e).length=12:=by
 unfold b1B
 split<;>simp [pfN,a0D]
def a5d(ver:Int)(r:Rec):List UInt8:=b1B ver r.kind.toNat r.key.length r.val.length r.exp.toNat
structure c3z(ver:Int)(r:Rec):Prop where
 vers:ver=1\/ver=2
 kind:1<=r.kind/\r.kind<=3
 plain:r.kind≠1->r.val.length=0/\r.exp=0
 flush:r.kind=3->r.key.length=0
 key:r.kind≠3->1<=r.key.length
 keyle:r.key.length<=255
 val:r.val.length<=65536
 exp:0<=r.exp/\r.exp<=c1T ver
theorem b6p(ver:Int):c1T ver<=1099511627775:=by unfold c1T;split<;>omega
theorem b0B{ver:Int}{r:Rec}(h:a4i ver r=0):c3z ver r:=by
 unfold a4i at h
 split at h
 ·omega
 split at h
 ·omega
 split at h
 ·omega
 split at h
 ·omega
 split at h
 ·omega
 exact ⟨by omega,by omega,fun _=>by omega,fun _=>by omega,fun _=>by omega,by omega,by omega,by omega⟩
theorem c3X(X:Nat->Prop)(ver:Int)(r:Rec)(h:c3z ver r):a0b (E0 X) 184 [.int .i64 ver,a5X r] [] (fun q H'=>q=.sl 1 ((a5d ver r).map u8A)/\H'=[]):=by
 refine a0b.cut0 ?_ (a0h fun _=>a0k)
 obtain ⟨_,⟨k1,k2⟩,_,_,_,hk,hv,⟨e1,e2⟩⟩:=h
 have hla:=b6p ver
 obtain ⟨kind,key,val,exp⟩:=r
 simp only at k1 k2 hk hv e1 e2
 obtain ⟨kind,rfl⟩:=Int.eq_ofNat_of_zero_le (show 0<=kind by omega)
 obtain ⟨exp,rfl⟩:=Int.eq_ofNat_of_zero_le e1
 have w16:IntKind.i64.wrap (16*(kind:Int))=((16*kind:Nat):Int):=a0x (by omega) (by omega) (by omega)
 show a0b (E0 X) 184 [.int .i64 ver,.agg [.int .i64 (kind:Int),.sl 1 (key.map u8A),.sl 1 (val.map u8A),.int .i64 (exp:Int)]] [] _
 have hkl:(key.map u8A).length=key.length:=List.length_map _
 have hvl:(val.map u8A).length=val.length:=List.length_map _
 refine Z0 Proofs.Tryz.func184 rfl Proofs.Tryz.ntmps184 (by kernel_rfl) rfl ?_
 repeat' (first|refine Zs rfl ?_|refine Zc rfl ?_|refine Zh ?_|refine Qs ?_)
 refine a0g rfl (fun h1=>?_) (fun h1=>?_)
 ·have e:a5d ver ⟨(kind:Int),key,val,(exp:Int)⟩=pfN [161,kind,key.length,0,val.length,exp] [1,1,1,1,4,4] 6:=if_pos h1
  have hf:=fun X=>a9b X [161,kind,key.length,0,val.length,exp] [1,1,1,1,4,4] (by simp;omega) (by decide) rfl (by simp)
  rw [e]
  repeat' (first|refine Zs rfl ?_|refine Zc rfl ?_|refine Qa rfl ?_)
  rw [hkl,hvl]
  refine Cn rfl (a0f (E:=E0 X) (fun X=>hf X) ⟨trivial,a9k _,a9k _,trivial⟩ _) rfl rfl ?_
  repeat' (first|refine Zs rfl ?_|refine Zh ?_|refine Qs ?_)
  exact a0c ⟨_,rfl,rfl⟩
 have e:a5d ver ⟨(kind:Int),key,val,(exp:Int)⟩=pfN [162,key.length,16*kind,val.length,0,exp] [1,1,1,3,1,5] 6:=if_neg h1
 have hf:=fun X=>a9b X [162,key.length,16*kind,val.length,0,exp] [1,1,1,3,1,5] (by simp;omega) (by decide) rfl (by simp)
 rw [e]
 repeat' (first|refine Zs rfl ?_|refine Zc rfl ?_|refine Qa rfl ?_)
 rw [hkl,hvl,w16]
 refine Cn rfl (a0f (E:=E0 X) (fun X=>hf X) ⟨trivial,a9k _,a9k _,trivial⟩ _) rfl rfl ?_
 repeat' (first|refine Zs rfl ?_|refine Zh ?_|refine Qs ?_)
 exact a0c ⟨_,rfl,rfl⟩
def b9F(seq off:Nat):List UInt8:=pfN [seq,off] [8,4] 2
theorem b3A(seq off:Nat):(b9F seq off).length=12:=by simp [b9F,pfN,a0D]
def c6G(ver:Int)(seq off:Nat)(r:Rec):Nat:=a5l 0 (b9F seq off++(a5d ver r++(r.key++r.val)))
def a4a(ver:Int)(seq off:Nat)(r:Rec):List UInt8:=a0Y (a5d ver r) (c6G ver seq off r) 4++(r.key++r.val)
theorem a4E(ver:Int)(seq off:Nat)(r:Rec):(a4a ver seq off r).length=a1M r:=by
 simp only [a4a,List.length_append,a0D,a5d,a7D,a1M];omega
theorem c4L(X:Nat->Prop)(ver:Int)(seq off:Nat)(r:Rec)(hc:a4i ver r=0)(hs:seq<9223372036854775808)(ho:off<=2147483647) :
  a0b (E0 X) 147 [.int .i64 ver,.int .i64 (seq:Int),.int .i64 (off:Int),a5X r] [] (fun q H'=>q=.tup [.sl 1 ((a4a ver seq off r).map u8A),.int .i64 0]/\H'=[]):=by
 refine a0b.cut0 ?_ ⟨a0h fun _=>a0k,trivial,trivial⟩
 have hck:=fun X=>b5A X ver r
 rw [hc] at hck
 have hok:=b0B hc
 have hhd:=fun X=>c3X X ver r hok
 have hhl:(a5d ver r).length=12:=a7D _ _ _ _ _
 have hkl:=hok.keyle
 have hvl:=hok.val
 have hfi:=fun X=>a9b X [seq,off] [8,4] (by simp;omega) (by decide) rfl (by simp)
 have hpl:=b3A seq off
 have hp:pfN [seq,off] [8,4] [seq,off].length=b9F seq off:=rfl
 rw [hp] at hfi
 have hen:a4a ver seq off r=a0Y (a5d ver r) (a5l 0 (b9F seq off++(a5d ver r++(r.key++r.val)))) 4++(r.key++r.val):=rfl
 rw [hen]
 obtain ⟨kind,key,val,exp⟩:=r
 simp only at hkl hvl
 generalize a5d ver ⟨kind,key,val,exp⟩=hd at *
 generalize b9F seq off=pl at *
 have c1:=fun X=>a8Y X [pl,hd,key,val] (by simp;omega) (by simp;omega) (by simp)
 have ef:[pl,hd,key,val].flatten=pl++(hd++(key++val)):=by simp
 rw [ef] at c1
 have hsu:=fun X=>b2O X (pl++(hd++(key++val))) (by simp;omega)
 dsimp only
 clear hen hp ef
 generalize pl++(hd++(key++val))=all at *
 have hlt:=a6B (c:=0) (by decide) all
 have hpu:=fun X=>b9J X hd (a5l 0 all) 4 (by decide) (by decide) (by omega)
 have hpul:(a0Y hd (a5l 0 all) 4).length=16:=by rw [a0D,hhl]
 have c2:=fun X=>a8Y X [a0Y hd (a5l 0 all) 4,key,val] (by simp;omega) (by simp;omega) (by simp)
 have ef2:[a0Y hd (a5l 0 all) 4,key,val].flatten=a0Y hd (a5l 0 all) 4++(key++val):=by simp
 rw [ef2] at c2
 generalize a0Y hd (a5l 0 all) 4=hd16 at *
 have ns1:¬ (seq:Int)<0:=by omega
 have ns2:¬ (off:Int)<0:=by omega
 have ns3:¬ (2147483647:Int)<(off:Int):=by omega
 show a0b (E0 X) 147 [.int .i64 ver,.int .i64 (seq:Int),.int .i64 (off:Int),.agg [.int .i64 kind,.sl 1 (key.map u8A),.sl 1 (val.map u8A),.int .i64 exp]] [] _
 refine Z0 Proofs.Tryz.func147 rfl Proofs.Tryz.ntmps147 (by kernel_rfl) rfl ?_
 repeat' (first|refine Zs rfl ?_|refine Zc rfl ?_|refine Qa rfl ?_)
 refine Cn rfl (a0f (E:=E0 X) (fun X=>hck X) (by simp [a0e,a0d]) _) rfl rfl ?_
 repeat' (first|refine Zs rfl ?_|refine Zc rfl ?_|refine Zh ?_|refine Qs ?_)
 rw [decide_eq_false ns1]
 skip
 rw [decide_eq_false ns2]
 skip
 rw [decide_eq_false ns3]
 repeat' (first|refine Zs rfl ?_|refine Zc rfl ?_|refine Qa rfl ?_)
 refine Cn rfl (a0f (E:=E0 X) (fun X=>hhd X) (by simp [a0e,a0d]) _) rfl rfl ?_
 repeat' (first|refine Zs rfl ?_|refine Zc rfl ?_)
 refine a0p [] [] (by exact rfl) (by kernel_rfl) ?_
 repeat' (refine Zd rfl ?_)
 apply ds rfl rfl rfl rfl
 ·refine Ck (fun _=>rfl) rfl (a0f (E:=E0 X) (fun X=>hfi X) ⟨trivial,a9k _,a9k _,trivial⟩ _) ?_
  exact nx rfl rfl ⟨rfl,rfl⟩
 repeat' (refine Zd rfl ?_)
 apply ds rfl rfl rfl rfl
 ·refine Ck (fun _=>rfl) rfl (a0f (E:=E0 X) (fun X=>c1 X) (by simp [a0e,a0d]) _) ?_
  exact nx rfl rfl ⟨rfl,rfl⟩
 skip
 apply ds rfl rfl rfl rfl
 ·refine Ck (fun _=>rfl) rfl (a0f (E:=E0 X) (fun X=>hsu X) (by simp [a0e,a0d]) _) ?_
  exact nx rfl rfl ⟨rfl,rfl⟩
 repeat' (first|refine Zd rfl ?_|refine Zc rfl ?_)
 refine a0p [] [] (by exact rfl) (by kernel_rfl) ?_
 repeat' (refine Zd rfl ?_)
 rw [wrap64 (by omega)]
 apply ds rfl rfl rfl rfl
 ·refine Ck (fun _=>rfl) rfl (a0f (E:=E0 X) (fun X=>hpu X) (by simp [a0e,a0d]) _) ?_
  exact nx rfl rfl ⟨rfl,rfl⟩
 repeat' (refine Zd rfl ?_)
 apply ds rfl rfl rfl rfl
 ·refine Ck (fun _=>rfl) rfl (a0f (E:=E0 X) (fun X=>c2 X) (by simp [a0e,a0d]) _) ?_
  exact nx rfl rfl ⟨rfl,rfl⟩
 repeat' (first|refine Zd rfl ?_|refine Zk ?_|refine Qs ?_)
 exact a0c ⟨_,rfl,rfl⟩
theorem b7o(X:Nat->Prop)(ver seq off:Int)(r:Rec)(hc:a4i ver r≠0) :
  a0b (E0 X) 147 [.int .i64 ver,.int .i64 seq,.int .i64 off,a5X r] [] (fun q H'=>q=.tup [.nils,.int .i64 (a4i ver r)]/\H'=[]):=by
 refine a0b.cut0 ?_ ⟨trivial,trivial,trivial⟩
 have hck:=fun X=>b5A X ver r
 generalize a4i ver r=e at *
 refine Z0 Proofs.Tryz.func147 rfl Proofs.Tryz.ntmps147 (by kernel_rfl) rfl ?_
 repeat' (first|refine Zs rfl ?_|refine Zc rfl ?_|refine Qa rfl ?_)
 refine Cn rfl (a0f (E:=E0 X) (fun X=>hck X) (by simp [a0e,a0d]) _) rfl rfl ?_
 repeat' (first|refine Zs rfl ?_|refine Zc rfl ?_|refine Zh ?_|refine Qs ?_)
 rw [decide_eq_true hc]
 repeat' (first|refine Zs rfl ?_|refine Zc rfl ?_|refine Zh ?_|refine Qs ?_)
 exact a0c ⟨_,rfl,rfl⟩
theorem c0U(b:List UInt8)(n:Nat):a0Y b n 1=b++[UInt8.ofNat (n%256)]:=by
 have h:a0i n 0=UInt8.ofNat (n%256):=by simp [a0i]
 show b++[a0i n 0]=_
 rw [h]
theorem c5J(k kl vl e:Nat):a0Y (a0Y [UInt8.ofNat (161%256),UInt8.ofNat (k%256),UInt8.ofNat (kl%256),UInt8.ofNat (0%256)] vl 4) e 4=b1B 1 k kl vl e:=by
 show _=a0Y (a0Y (a0Y (a0Y (a0Y (a0Y [] 161 1) k 1) kl 1) 0 1) vl 4) e 4
 rw [c0U,c0U,c0U,c0U];rfl
theorem c5K{ver:Int}(h:¬ ver=1)(k kl vl e:Nat):a0Y (a0Y [UInt8.ofNat (162%256),UInt8.ofNat (kl%256),UInt8.ofNat (16*k%256)] vl 3++[0]) e 5=b1B ver k kl vl e:=by
 have e1:b1B ver k kl vl e=a0Y (a0Y (a0Y (a0Y (a0Y (a0Y [] 162 1) kl 1) (16*k) 1) vl 3) 0 1) e 5:=if_neg h
 rw [e1,c0U [] 162,c0U _ kl,c0U _ (16*k),c0U _ 0];rfl
theorem b7F(X:Nat->Prop)(ver:Int)(seq off:Nat)(r:Rec)(hc:a4i ver r=0)(hs:seq<9223372036854775808)(ho:off<=2147483647) :
  a0b (E0 X) 77 [.int .i64 ver,.int .i64 (seq:Int),.int .i64 (off:Int),a5X r] [] (fun q H'=>q=.sl 1 ((a4a ver seq off r).map u8A)/\H'=[]):=by
 refine a0b.frz0 (e:=5) 1 ?_ rfl rfl (a0h fun _=>a0k)
 obtain ⟨hver,⟨k1,k2⟩,_,_,_,hkl,hvl,⟨e1,e2⟩⟩:=b0B hc
 have hla:=b6p ver
 have hen:a4a ver seq off r=a0Y (a5d ver r) (a5l 0 (b9F seq off++(a5d ver r++(r.key++r.val)))) 4++(r.key++r.val):=rfl
 have hhl:(a5d ver r).length=12:=a7D _ _ _ _ _
 have hh:a5d ver r=b1B ver r.kind.toNat r.key.length r.val.length r.exp.toNat:=rfl
 rw [hen]
 clear hen
 obtain ⟨kind,key,val,exp⟩:=r
 simp only at k1 k2 hkl hvl e1 e2 hh
 obtain ⟨kind,rfl⟩:=Int.eq_ofNat_of_zero_le (show 0<=kind by omega)
 obtain ⟨exp,rfl⟩:=Int.eq_ofNat_of_zero_le e1
 simp only [Int.toNat_natCast] at hh
 generalize a5d ver ⟨(kind:Int),key,val,(exp:Int)⟩=hd at *
 dsimp only
 have w16:IntKind.i64.wrap (16*(kind:Int))=((16*kind:Nat):Int):=a0x (by omega) (by omega) (by omega)
 have hkm:(key.map u8A).length=key.length:=List.length_map _
 have hvm:(val.map u8A).length=val.length:=List.length_map _
 have hpl:=b3A seq off
 have hpp:b9F seq off=a0Y (a0Y [] seq 8) off 4:=rfl
 generalize b9F seq off=pl at *
 show a0b (E0 X) 77 [.int .i64 ver,.int .i64 (seq:Int),.int .i64 (off:Int),.agg [.int .i64 (kind:Int),.sl 1 (key.map u8A),.sl 1 (val.map u8A),.int .i64 (exp:Int)]] [] _
 refine Z0 Proofs.Tryz.func77 rfl Proofs.Tryz.ntmps77 (by kernel_rfl) rfl ?_
 repeat' (first|refine Zs rfl ?_|refine Zc rfl ?_|refine Zh ?_|refine Qs ?_)
 refine a0t (Imp.trans (a0w (id:=0) (cs:=[.int .i64 (kind:Int),.sl 1 (key.map u8A),.sl 1 (val.map u8A),.int .i64 (exp:Int)]) rfl) (a0j 0 (Nat.zero_le _) a0X rfl (by simp) (sl':=[(0,.int .i64 ver),(1,.int .i64 (seq:Int)),(2,.int .i64 (off:Int)),(7,.fp [.int .i64 (kind:Int),.sl 1 (key.map u8A),.sl 1 (val.map u8A),.int .i64 (exp:Int)]),(13,.bool (decide (ver=1)))]) ?_)) ?_
 ·repeat' (first|exact a0l|refine a0a ⟨?_,?_⟩ ?_)
  all_goals (try first|exact rfl|exact trivial)
  exact ⟨trivial,a0h fun _=>a0k,a0h fun _=>a0k,trivial,trivial⟩
 refine a2T (s1:=⟨[(1,.int .i64 (seq:Int)),(2,.int .i64 (off:Int)),(7,.fp [.int .i64 (kind:Int),.sl 1 (key.map u8A),.sl 1 (val.map u8A),.int .i64 (exp:Int)]),(9,.own 0 0 12)],[some (.arr (hd.map u8A) 5)]⟩) ?_ ?_
 ·refine a0g rfl (fun h1=>?_) (fun h1=>?_)
  ·subst h1
   have hd1:=c5J kind key.length val.length exp
   rw [<- hh] at hd1
   repeat' (first|refine Zs rfl ?_|refine Zc rfl ?_|refine Qa rfl ?_)
   rw [a1s,hkm,a1s,hvm,wrap64 (by omega)]
   refine Cn rfl (a1A X _ _ [UInt8.ofNat (161%256),UInt8.ofNat (kind%256),UInt8.ofNat (key.length%256),UInt8.ofNat (0%256)] val.length 4 (by decide) (by decide) (by simp) rfl) rfl rfl ?_
   have l8:(a0Y [UInt8.ofNat (161%256),UInt8.ofNat (kind%256),UInt8.ofNat (key.length%256),UInt8.ofNat (0%256)] val.length 4).length=8:=by rw [a0D];rfl
   have l4:[UInt8.ofNat (161%256),UInt8.ofNat (kind%256),UInt8.ofNat (key.length%256),UInt8.ofNat (0%256)].length=4:=rfl
   generalize a0Y [UInt8.ofNat (161%256),UInt8.ofNat (kind%256),UInt8.ofNat (key.length%256),UInt8.ofNat (0%256)] val.length 4=b8 at *
   repeat' (first|refine Zs rfl ?_|refine Zc rfl ?_|refine Qa rfl ?_)
   rw [wrap64 (by omega)]
   refine Cn rfl (a1A X _ _ b8 exp 4 (by decide) (by decide) (by omega) (a0B rfl rfl rfl (by omega) (by rw [List.drop_zero,List.take_of_length_le (by omega)]))) rfl rfl ?_
   rw [hd1]
   repeat' (first|refine Zs rfl ?_|refine Zh ?_)
   rw [l8]
   refine ⟨rfl,a0S 0 [1] (os:=[.arr (hd.map u8A) 5]) (Nat.le_refl _) (Nat.zero_le _) (by simp) (by simp) (by simp [HOk]) rfl rfl ?_ ?_⟩
   ·exact a0a (a0v rfl trivial) (a0a (a0v rfl trivial) (a0a (a0v rfl ⟨trivial,a0h fun _=>a0k,a0h fun _=>a0k,trivial,trivial⟩) (a0a (a0L rfl) a0l)))
   ·exact a0E rfl (a0A 0 (fun i h=>absurd h (Nat.not_lt_zero i)) (a0h fun _=>a0k)) a0T
  have hd1:=c5K h1 kind key.length val.length exp
  rw [<- hh] at hd1
  repeat' (first|refine Zs rfl ?_|refine Zc rfl ?_|refine Qa rfl ?_)
  rw [hkm,a1s,w16,a1s,hvm,wrap64 (by omega)]
  have l3:[UInt8.ofNat (162%256),UInt8.ofNat (key.length%256),UInt8.ofNat (16*kind%256)].length=3:=rfl
  refine Cn rfl (a1A X _ _ [UInt8.ofNat (162%256),UInt8.ofNat (key.length%256),UInt8.ofNat (16*kind%256)] val.length 3 (by decide) (by decide) (by simp) rfl) rfl rfl ?_
  have l6:(a0Y [UInt8.ofNat (162%256),UInt8.ofNat (key.length%256),UInt8.ofNat (16*kind%256)] val.length 3).length=6:=by rw [a0D];rfl
  rw [l3]
  generalize a0Y [UInt8.ofNat (162%256),UInt8.ofNat (key.length%256),UInt8.ofNat (16*kind%256)] val.length 3=b6 at *
  have l7:(b6++[(0:UInt8)]).length=7:=by simp [l6]
  repeat' (first|refine Zs rfl ?_|refine Zh ?_|refine Qs ?_)
  refine a0n [2,6] [0,1,3,4,5,7] (by exact rfl) ?_
  refine a0y (fuel:=0) [0,1,3,4,5,2,6,7] (by exact rfl) (by kernel_rfl) (by kernel_rfl) ?_
  repeat' ((first|refine Qc rfl rfl rfl ?_|(apply Qe rfl rfl rfl rfl;intro H9));(first|refine Q0 ?_|refine Q3 rfl rfl rfl ?_|refine Q4 rfl rfl rfl rfl rfl ?_|refine QG rfl rfl rfl rfl ?_|refine QR rfl rfl rfl rfl rfl rfl rfl rfl rfl rfl rfl rfl ?_);(exact QY rfl ⟨rfl,rfl⟩))
  rw [wrap64 (by omega)]
  refine a1E rfl rfl rfl ?_
  refine a0V (oid:=some 0) (es:=b6.map u8A) (out:=(b6++[(0:UInt8)]).map u8A) (n:=7) (a0M rfl (by rw [List.length_map,l6])) (rfl) (a0P [(0:UInt8)]) (by rw [List.map_append];rfl) (by rw [List.length_map,l6];rfl) (by show _<=9223372036854775807;omega) (by show _*1<=_;omega) rfl rfl rfl rfl rfl rfl rfl rfl ?_
  refine nx rfl rfl ?_
  generalize b6++[(0:UInt8)]=b7 at *
  skip
  refine a1E rfl rfl rfl ?_
  refine Cn rfl (a1A X _ _ b7 exp 5 (by decide) (by decide) (by omega) (a0B rfl rfl rfl (by omega) (by rw [List.drop_zero,List.take_of_length_le (by omega)]))) rfl rfl ?_
  rw [hd1,l7]
  repeat' (first|((apply Qe rfl rfl rfl rfl;intro H9);(refine Q1 ?_);(exact QY rfl ⟨rfl,rfl⟩))|refine Qk ?_|refine Qw (by kernel_rfl) ?_)
  refine ⟨rfl,a0S 0 [2] (os:=[.arr (hd.map u8A) 5]) (Nat.le_refl _) (Nat.zero_le _) (by simp) (by simp) (by simp [HOk]) rfl rfl ?_ ?_⟩
  ·exact a0a (a0v rfl trivial) (a0a (a0v rfl trivial) (a0a (a0v rfl ⟨trivial,a0h fun _=>a0k,a0h fun _=>a0k,trivial,trivial⟩) (a0a (a0L rfl) a0l)))
  ·exact a0E rfl (a0A 0 (fun i h=>absurd h (Nat.not_lt_zero i)) (a0h fun _=>a0k)) a0T
 repeat' (refine Zc rfl ?_)
 refine a0n [2,5] [0,1,3,4,6] (by exact rfl) ?_
 refine a0y (fuel:=0) [0,1,3,4,2,5,6] (by exact rfl) (by kernel_rfl) (by kernel_rfl) ?_
 repeat' ((first|refine Qc rfl rfl rfl ?_|(apply Qe rfl rfl rfl rfl;intro H9));(first|refine Q3 rfl rfl rfl ?_|refine Q4 rfl rfl rfl rfl rfl ?_);(exact QY rfl ⟨rfl,rfl⟩))
 refine a1E rfl rfl rfl ?_
 refine a0V (oid:=none) (es:=[]) (out:=key.map u8A) (n:=key.length) (rfl) (rfl) (a0P _) (rfl) (by simp) (by show _<=9223372036854775807;omega) (by show _*1<=_;omega) rfl rfl rfl rfl rfl rfl rfl rfl ?_
 refine nx rfl rfl ?_
 skip
 refine a1E rfl rfl rfl ?_
 refine a0V (oid:=some 1) (es:=key.map u8A) (out:=(key++val).map u8A) (n:=key.length+val.length) (a0M rfl (List.length_map _).symm) (rfl) (a0P _) (by rw [List.map_append]) (by rw [List.length_map,List.length_map]) (by show _<=9223372036854775807;omega) (by show _*1<=_;omega) rfl rfl rfl rfl rfl rfl rfl rfl ?_
 refine nx rfl rfl ?_
 have hbl:(key++val).length=key.length+val.length:=by simp
 have hall:(pl++(hd++(key++val))).length<=1073741824:=by simp;omega
 rw [<- hbl]
 generalize key++val=bd at *
 repeat' (first|((apply Qe rfl rfl rfl rfl;intro H9);(refine Q1 ?_);(exact QY rfl ⟨rfl,rfl⟩))|refine Qk ?_|refine Qw (by kernel_rfl) ?_)
 repeat' (first|refine Zs rfl ?_|refine Zc rfl ?_|refine Qa rfl ?_)
 rw [wrap64 (by omega)]
 refine Cn rfl (a1A X _ _ [] seq 8 (by decide) (by decide) (by simp) rfl) rfl rfl ?_
 have l8:(a0Y [] seq 8).length=8:=by rw [a0D];rfl
 have l8':([]:List UInt8).length+8=8:=rfl
 rw [l8']
 repeat' (first|refine Zs rfl ?_|refine Qa rfl ?_)
 rw [wrap64 (by omega)]
 refine Cn rfl (a1A X _ _ (a0Y [] seq 8) off 4 (by decide) (by decide) (by omega) (a0B rfl rfl rfl (by omega) (by rw [List.drop_zero,List.take_of_length_le (by omega)]))) rfl rfl ?_
 rw [<- hpp,l8]
 repeat' (first|refine Zs rfl ?_|refine Zc rfl ?_|refine Qa rfl ?_)
 refine a0V (oid:=some 4) (es:=pl.map u8A) (out:=(pl++hd).map u8A) (n:=24) (a0M rfl (by rw [List.length_map,hpl])) ((a0B rfl rfl rfl (by omega) (by rw [List.drop_zero,List.take_of_length_le (by omega)]))) (a0P _) (by rw [List.map_append]) (by rw [List.length_map,List.length_map,hpl,hhl]) (by show _<=9223372036854775807;omega) (by show _*1<=_;omega) rfl rfl rfl rfl rfl rfl rfl rfl ?_
 refine nx rfl rfl ?_
 repeat' (first|refine Zs rfl ?_|refine Qa rfl ?_)
 refine a0V (oid:=some 5) (es:=(pl++hd).map u8A) (out:=(pl++(hd++bd)).map u8A) (n:=24+bd.length) (a0M rfl (by rw [List.length_map,List.length_append,hpl,hhl])) ((a0B rfl rfl rfl (by omega) (by rw [List.drop_zero,List.take_of_length_le (by omega)]))) (a0P _) (by simp) (by rw [List.length_map,List.length_map,List.length_append,hpl,hhl]) (by show _<=9223372036854775807;omega) (by show _*1<=_;omega) rfl rfl rfl rfl rfl rfl rfl rfl ?_
 refine nx rfl rfl ?_
 have hal:(pl++(hd++bd)).length=24+bd.length:=by simp;omega
 generalize pl++(hd++bd)=all at *
 have hlt:=a6B (c:=0) (by decide) all
 repeat' (first|refine Zs rfl ?_|refine Zc rfl ?_|refine Qa rfl ?_)
 refine Cn rfl (a2K (E:=E0 X) (fun X=>c0Z X all hall) rfl (Bor.sl (a1H _) (a0B rfl rfl rfl (by omega) (by rw [List.drop_zero,List.take_of_length_le (by omega)])) .nil)) rfl rfl ?_
 repeat' (first|refine Zs rfl ?_|refine Qa rfl ?_)
 rw [wrap64 (by omega)]
 refine Cn rfl (a1A X _ _ hd (a5l 0 all) 4 (by decide) (by decide) (by omega) (a0B rfl rfl rfl (by omega) (by rw [List.drop_zero,List.take_of_length_le (by omega)]))) rfl rfl ?_
 have l16:(a0Y hd (a5l 0 all) 4).length=16:=by rw [a0D,hhl]
 rw [hhl]
 generalize a0Y hd (a5l 0 all) 4=h16 at *
 repeat' (first|refine Zs rfl ?_|refine Qa rfl ?_)
 refine a0V (oid:=some 7) (es:=h16.map u8A) (out:=(h16++bd).map u8A) (n:=16+bd.length) (a0M rfl (by rw [List.length_map,l16])) ((a0B rfl rfl rfl (by omega) (by rw [List.drop_zero,List.take_of_length_le (by omega)]))) (a0P _) (by rw [List.map_append]) (by rw [List.length_map,List.length_map,l16]) (by show _<=9223372036854775807;omega) (by show _*1<=_;omega) rfl rfl rfl rfl rfl rfl rfl rfl ?_
 refine nx rfl rfl ?_
 repeat' (first|refine Zs rfl ?_|refine Zh ?_|refine Qs ?_)
 refine a0c ⟨_,rfl,8,_,rfl,?_,rfl⟩
 rw [List.length_map,List.length_append,l16]
deriving instance DecidableEq for Rec
theorem b4n{b:List UInt8}{k:Nat}(h:b.length≠64):a7x b k=none:=by
 have e:a2A 1 0 k b=none:=by
  unfold a2A
  rw [if_neg fun hh=>h hh.1]
 unfold a7x
 rw [e]
theorem a4G{L:Nat}{v:Dv}(hv:Lv L v)(l:La)(slot:Int):a1Z v l slot=a2q v.image l slot:=by
 have hc:=fun i=>a3K hv.inv i
 have h64:=hv.inv.load.1
 unfold a1Z a2q
 by_cases hs:a1a l=true/\0<=slot/\slot<l.regs
 ·have hm:=a2y hs.1 hs.2.1 hs.2.2
  have e1:a1b l slot=74+slot*l.rs:=if_pos hs
  rw [e1,if_pos hs,hc,hv.dead]
  simp only [Bool.false_eq_true,if_false]
  obtain ⟨K,hK⟩:=Int.eq_ofNat_of_zero_le (show 0<=74+slot*l.rs by omega)
  rw [hK,Int.toNat_natCast]
  by_cases hin:K*64+64<=v.image.length
  ·rw [if_neg (show ¬ ((K:Int)<0\/((v.image.length / 64:Nat):Int)<=(K:Int)) by omega)]
   simp only [ne_eq,not_true_eq_false,if_false]
   have e2:a4H v.image (K:Int)=(v.image.drop (K*64)).take 64:=by
    unfold a4H
    rw [if_neg (by omega),Int.toNat_natCast]
   rw [e2]
  rw [if_pos (show ((K:Int)<0\/((v.image.length / 64:Nat):Int)<=(K:Int)) by omega)]
  have e2:a4H v.image (K:Int)=[]:=by
   unfold a4H
   rw [if_pos (by omega)]
  rw [if_pos (by decide),e2,b4n (by decide)]
  rfl
 have e1:a1b l slot=-1:=if_neg hs
 rw [e1,if_neg hs,hc,hv.dead]
 simp only [Bool.false_eq_true,if_false]
 rw [if_pos (show ((-1:Int)<0\/_) from .inl (by decide)),if_pos (by decide)]
end Go.Abs
