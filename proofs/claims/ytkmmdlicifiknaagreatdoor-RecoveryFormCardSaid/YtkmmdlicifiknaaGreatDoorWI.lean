/- The records of a log in order, and the map that they leave; sorted lists of pairs. No program. Joined texts, each with what its own name promises; no condition beyond those stated. -/
import Derived.Test.YtkmmdlicifiknaaGreatDoorWH
import Derived.Test.YtkmmdlicifiknaaGreatDoorWG
import Derived.Test.YtkmmdlicifiknaaGreatDoorWC
import Derived.Shelf.SlIter.Collect
import Derived.Shelf.SlSortCmp.NoneTotal
import Derived.Test.YtkmmdlicifiknaaGreatDoorProg
import Derived.KernelRfl
import Derived.Lib.Walk
import Derived.Sort.Row
import Derived.Lib.Strings
import Derived.Laws.Cover1
import Derived.Test.YtkmmdlicifiknaaGreatDoorWE
set_option maxHeartbeats 0
set_option maxRecDepth 100000
set_option linter.all false
namespace Go.Abs
abbrev Mp:=Key->Option En
abbrev FR:=Int × Nat × Rec
def c3A(p:FR):En:=⟨p.1,(p.2.1:Int),(a1K p.2.2:Int),p.2.2.exp,false⟩
def b1F(M:Mp)(p:FR):Mp:=fun k=>if p.2.2.kind=1 then (if p.2.2.key=k then some (c3A p) else M k) else if p.2.2.kind=2 then (if p.2.2.key=k then none else M k) else if p.2.2.kind=3 then none else M k
def a8Y(l:List FR):Mp:=l.foldl b1F fun _=>none
def b5G(k:Key):List FR->Option En
 | []=>none
 | p::t=>if p.2.2.kind=3\/(p.2.2.kind=2/\p.2.2.key=k) then none else if p.2.2.kind=1/\p.2.2.key=k then some (c3A p) else b5G k t
theorem a4A(l:List FR)(p:FR):a8Y (l++[p])=b1F (a8Y l) p:=by simp [a8Y]
theorem a9I(k:Key):∀l:List FR,b5G k l=a8Y l.reverse k
 | []=>rfl
 | p::t=>by
  rw [List.reverse_cons,a4A,b5G,a9I k t]
  unfold b1F
  by_cases h1:p.2.2.kind=1
  ·simp [h1]
  by_cases h2:p.2.2.kind=2
  ·simp [h2]
  ·by_cases h3:p.2.2.kind=3<;>simp [h1,h2,h3]
theorem b3D:∀(l:List FR) (k:Key) (e:En),a8Y l.reverse k=some e->∃p∈l,p.2.2.kind=1/\p.2.2.key=k/\c3A p=e
 | [],k,e,h=>by cases h
 | p::t,k,e,h=>by
  rw [<- a9I,b5G] at h
  split at h
  ·cases h
  split at h
  ·rename_i h2;cases h;exact ⟨p,List.mem_cons_self,h2.1,h2.2,rfl⟩
  rw [a9I] at h
  obtain ⟨q,h3,h4⟩:=b3D t k e h
  exact ⟨q,List.mem_cons_of_mem _ h3,h4⟩
/-! ### Lists of pairs in ascending order -/
abbrev Pr:=Key × En
structure IsMap(L:List Pr)(M:Mp):Prop where
 asc:L.Pairwise fun a b=>a.1<b.1
 mem:∀k e,(k,e)∈L ↔ M k=some e
theorem a4a(a:Key):¬ a<a:=List.lt_irrefl a
theorem a5A(a b:Key):a<b\/a=b\/b<a:=by
 by_cases h1:a<b
 ·exact .inl h1
 by_cases h2:b<a
 ·exact .inr (.inr h2)
 ·exact .inr (.inl (List.le_antisymm (List.not_lt.1 h2) (List.not_lt.1 h1)))
theorem IsMap.unique{L L':List Pr}{M:Mp}(h:IsMap L M)(h':IsMap L' M):L=L':=by
 have nd:∀{l:List Pr},l.Pairwise (fun a b=>a.1<b.1)->l.Nodup:=fun h=>h.imp fun {a b} h1 (e:a=b)=>a4a b.1 (by rw [e] at h1;exact h1)
 have hp:L.Perm L':=(List.perm_ext_iff_of_nodup (nd h.asc) (nd h'.asc)).2 fun ⟨k,e⟩=>(h.mem k e).trans (h'.mem k e).symm
 exact hp.eq_of_pairwise (le:=fun a b:Pr=>a.1<b.1) (fun a b _ _ h1 h2=>absurd (List.lt_trans h1 h2) (a4a _)) h.asc h'.asc
def a4v(k:Key)(e:En):List Pr->List Pr
 | []=>[(k,e)]
 | p::t=>if p.1<k then p::a4v k e t else if p.1=k then (k,e)::t else (k,e)::p::t
theorem b7f{k:Key}{e:En}{q:Pr}:∀{L:List Pr},q∈a4v k e L->q=(k,e)\/q∈L
 | [],h=>.inl (by simpa [a4v] using h)
 | p::t,h=>by
  unfold a4v at h
  split at h
  ·rcases List.mem_cons.1 h with h|h
   ·exact .inr (by rw [h];exact List.mem_cons_self)
   ·exact (b7f h).imp id (List.mem_cons_of_mem _)
  split at h
  ·exact (List.mem_cons.1 h).imp id (List.mem_cons_of_mem _)
  ·exact List.mem_cons.1 h
theorem b7d{k:Key}{e:En}:∀{L:List Pr},L.Pairwise (fun a b=>a.1<b.1)->(a4v k e L).Pairwise (fun a b=>a.1<b.1)/\∀k' e',(k',e')∈a4v k e L ↔ if k'=k then e'=e else (k',e')∈L
 | [],_=>⟨by simp [a4v],fun k' e'=>by simp only [a4v,List.mem_singleton,Prod.mk.injEq,List.not_mem_nil];split<;>simp [*]⟩
 | p::t,h=>by
  obtain ⟨h1,h2⟩:=List.pairwise_cons.1 h
  obtain ⟨i1,i2⟩:=b7d (k:=k) (e:=e) h2
  unfold a4v
  split
  ·rename_i hlt
   refine ⟨List.pairwise_cons.2 ⟨fun q hq=>?_,i1⟩,fun k' e'=>?_⟩
   ·rcases b7f hq with rfl|hq
    ·exact hlt
    ·exact h1 q hq
   rw [List.mem_cons,i2]
   split
   ·rename_i hk
    subst hk
    exact ⟨fun h=>h.elim (fun h=>by rw [<- h] at hlt;exact absurd hlt (a4a _)) id,.inr⟩
   ·rw [List.mem_cons]
  rename_i hge
  split
  ·rename_i he
   refine ⟨List.pairwise_cons.2 ⟨fun q hq=>by rw [<- he];exact h1 q hq,h2⟩,fun k' e'=>?_⟩
   rw [List.mem_cons]
   split
   ·rename_i hk
    subst hk
    refine ⟨fun h=>h.elim (fun h=>(Prod.mk.injEq _ _ _ _ ▸ h).2) fun h=>?_,fun h=>.inl (by rw [h])⟩
    have:=h1 _ h
    rw [he] at this
    exact absurd this (a4a _)
   rename_i hk
   rw [List.mem_cons]
   refine ⟨fun h=>h.elim (fun h=>absurd (congrArg (·.1) h) hk) .inr,fun h=>h.elim (fun h=>?_) .inr⟩
   rw [<- h] at he
   exact absurd he hk
  rename_i hne
  have hgt:k<p.1:=by
   rcases a5A p.1 k with h|h|h
   ·exact absurd h hge
   ·exact absurd h hne
   ·exact h
  refine ⟨List.pairwise_cons.2 ⟨fun q hq=>?_,h⟩,fun k' e'=>?_⟩
  ·rcases List.mem_cons.1 hq with rfl|hq
   ·exact hgt
   ·exact List.lt_trans hgt (h1 q hq)
  rw [List.mem_cons]
  split
  ·rename_i hk
   subst hk
   refine ⟨fun h=>h.elim (fun h=>(Prod.mk.injEq _ _ _ _ ▸ h).2) fun h=>?_,fun h=>.inl (by rw [h])⟩
   rcases List.mem_cons.1 h with h|h
   ·rw [<- h] at hne;exact absurd rfl hne
   ·exact absurd (List.lt_trans hgt (h1 _ h)) (a4a _)
  ·rename_i hk
   exact ⟨fun h=>h.elim (fun h=>absurd (congrArg (·.1) h) hk) id,.inr⟩
def a2p(now:Int)(e:En):Bool:=decide (e.exp=0) || decide (now<e.exp)
def b4Z(now:Int)(M:Mp):Mp:=fun k=>match M k with
 | some e=>if a2p now e then some e else none
 | none=>none
theorem IsMap.live{L:List Pr}{M:Mp}(h:IsMap L M)(now:Int):IsMap (L.filter fun p=>a2p now p.2) (b4Z now M):=by
 refine ⟨h.asc.sublist List.filter_sublist,fun k e=>?_⟩
 rw [List.mem_filter,h.mem]
 unfold b4Z
 constructor
 ·rintro ⟨h1,h2⟩
  have h2:a2p now e=true:=h2
  simp only [h1,h2,if_true]
 intro h1
 cases hM:M k with
 | none=>rw [hM] at h1;cases h1
 | some e1 =>
  rw [hM] at h1
  simp only at h1
  split at h1
  ·rename_i h2;cases h1;exact ⟨rfl,h2⟩
  ·cases h1
def b0G(M:Mp):List FR->List Pr->List Pr
 | [],L=>L
 | p::t,L=>b0G M t (match M p.2.2.key with
  | some e=>if p.2.2.kind=1 then a4v p.2.2.key e L else L
  | none=>L)
theorem a7E(M:Mp):∀(t pre:List FR) (L:List Pr),L.Pairwise (fun a b=>a.1<b.1)->(∀k e,(k,e)∈L ↔ (∃p∈pre,p.2.2.kind=1/\p.2.2.key=k)/\M k=some e) ->
  (b0G M t L).Pairwise (fun a b=>a.1<b.1)/\∀k e,(k,e)∈b0G M t L ↔ (∃p∈pre++t,p.2.2.kind=1/\p.2.2.key=k)/\M k=some e
 | [],pre,L,h1,h2=>⟨h1,fun k e=>by rw [List.append_nil];exact h2 k e⟩
 | p::t,pre,L,h1,h2=>by
  have e1:pre++p::t=(pre++[p])++t:=by simp
  rw [e1]
  unfold b0G
  have skip:(p.2.2.kind=1->M p.2.2.key=none)->∀k e,(k,e)∈L ↔ (∃q∈pre++[p],q.2.2.kind=1/\q.2.2.key=k)/\M k=some e:=fun hs k e=>by
   rw [h2]
   constructor
   ·rintro ⟨⟨q,hq,h3⟩,h4⟩
    exact ⟨⟨q,List.mem_append_left _ hq,h3⟩,h4⟩
   rintro ⟨⟨q,hq,h3,h4⟩,h5⟩
   rcases List.mem_append.1 hq with hq|hq
   ·exact ⟨⟨q,hq,h3,h4⟩,h5⟩
   rw [List.mem_singleton] at hq
   subst hq
   rw [h4] at hs
   rw [hs h3] at h5
   cases h5
  cases hk:M p.2.2.key with
  | none=>exact a7E M t _ L h1 (skip fun _=>hk)
  | some e0 =>
   by_cases h3:p.2.2.kind=1
   ·simp only [if_pos h3]
    obtain ⟨i1,i2⟩:=b7d (k:=p.2.2.key) (e:=e0) h1
    refine a7E M t _ _ i1 fun k e=>?_
    rw [i2]
    split
    ·rename_i h4
     subst h4
     rw [hk]
     exact ⟨fun h=>⟨⟨p,by simp,h3,rfl⟩,by rw [h]⟩,fun h=>(Option.some.inj h.2).symm⟩
    rename_i h4
    rw [h2]
    constructor
    ·rintro ⟨⟨q,hq,h5⟩,h6⟩
     exact ⟨⟨q,List.mem_append_left _ hq,h5⟩,h6⟩
    rintro ⟨⟨q,hq,h5,h6⟩,h7⟩
    rcases List.mem_append.1 hq with hq|hq
    ·exact ⟨⟨q,hq,h5,h6⟩,h7⟩
    rw [List.mem_singleton] at hq
    subst hq
    exact absurd h6.symm h4
   ·simp only [if_neg h3]
    exact a7E M t _ L h1 (skip fun h=>absurd h h3)
theorem a6A(now:Int)(l:List FR):IsMap (b0G (b4Z now (a8Y l)) l []) (b4Z now (a8Y l)):=by
 obtain ⟨h1,h2⟩:=a7E (b4Z now (a8Y l)) l [] [] List.Pairwise.nil (fun k e=>by simp)
 refine ⟨h1,fun k e=>(h2 k e).trans ⟨fun h=>h.2,fun h=>⟨?_,h⟩⟩⟩
 have h3:a8Y l k=some e:=by
  unfold b4Z at h
  split at h
  ·rename_i e1 he
   split at h
   ·cases h;exact he
   ·cases h
  ·cases h
 rw [<- List.reverse_reverse l] at h3
 obtain ⟨p,hp,h4,h5,_⟩:=b3D _ _ _ h3
 exact ⟨p,by simpa using hp,h4,h5⟩
theorem a0b.frzH{E:Env}{f:FuncId}{args:List AV}{H H1:Hp}{ι:Type}{P:ι->Prop}{es:ι->List AV}{e:TypeId}(k:Nat)
  (h:a0b E f args H (fun r H'=>∃i,P i/\∃id n,r=.own id 0 n/\n=(es i).length/\H1.length<=id/\H'[id]?=some (some (.arr (es i) e))/\H'.take H1.length=H1))
  (hl:H.length<=H1.length) (hok:HOk H1.length H1) (he:Nat.blt e E.n=true) (hk:Nat.beq (E.ti e).sz k=true) (hes:∀i,a0e 0 (es i)):a0b E f args H (fun r H'=>∃i,P i/\r=.sl k (es i)/\H'=H1) :=
 h.imp fun r H' ⟨i,hP,id,n,h1,h2,h3,h4,h5⟩=>by
  subst h1;subst h2
  have hlt:id<H'.length:=(List.getElem?_eq_some_iff.1 h4).1
  refine ⟨_,_,⟨i,hP,rfl,rfl⟩,?_⟩
  refine (a0M (id:=id) (k:=k) (es:=es i) (e:=e) h4 he hk).trans ?_
  refine a0i H1.length hl hok ?_ (by simp;omega) ?_
  ·show (H'.set id none).take H1.length=H1
   conv=>rhs;rw [<- h5]
   apply List.ext_getElem?
   intro j
   simp only [List.getElem?_take,List.getElem?_set]
   split
   ·rw [if_neg (by omega)]
   ·rfl
  refine a0a ⟨?_,a0x (Nat.zero_le _) (hes i)⟩ a0k
  simp [a0R,frz]
def prA(p:Pr):AV:=.agg [.str p.1,.int .i64 p.2.seq,.int .i64 p.2.off,.int .i64 p.2.len,.int .i64 p.2.exp,.bool p.2.hit]
theorem a2b(l:List Pr):a0e 0 (l.map prA):=a0h fun _=>⟨trivial,trivial,trivial,trivial,trivial,trivial,trivial⟩
def b9J(m:List Pr):Pc->List Pr
 | .used k e=>b9n m k e
 | _=>m
def a1A(m:List Pr)(l:List Pc):List Pr:=l.foldl b9J m
theorem b5Q{m:List Pr}(h:(m.map (·.1)).Nodup)(p:Pc):((b9J m p).map (·.1)).Nodup:=by
 cases p with
 | used k e=>exact b1J h k e
 | _=>exact h
theorem a3d{m:List Pr}(h:(m.map (·.1)).Nodup):∀l:List Pc,((a1A m l).map (·.1)).Nodup:=fun l=>by
 induction l generalizing m with
 | nil=>exact h
 | cons p l ih=>exact ih (b5Q h p)
theorem a7L(m:List Pr)(l:List Pc){i:Nat}{p:Pc}(h:l[i]?=some p):a1A m (l.take (i+1))=b9J (a1A m (l.take i)) p:=by
 rw [List.take_add_one,h];simp [a1A]
theorem a8R{m:List Pr}(hm:(m.map (·.1)).Nodup):∀(l:List Pc),(∀(i j:Nat) k e e',l[i]?=some (Pc.used k e)->l[j]?=some (Pc.used k e')->i=j)->∀k e,(k,e)∈a1A m l ↔ (.used k e∈l\/((∀e',.used k e' ∉ l)/\(k,e)∈m)):=fun l=>by
 induction l generalizing m with
 | nil=>intro _ k e;simp [a1A]
 | cons p l ih =>
  intro hu k e
  have hu2:∀(i j:Nat) k e e',l[i]?=some (Pc.used k e)->l[j]?=some (Pc.used k e')->i=j:=fun i j k e e' h1 h2=>by
   have:=hu (i+1) (j+1) k e e' (by simpa using h1) (by simpa using h2)
   omega
  show (k,e)∈a1A (b9J m p) l ↔ _
  rw [ih (b5Q hm p) hu2]
  cases p with
  | used q f =>
   have hq:∀e',Pc.used q e' ∉ l:=fun e' hm'=>by
    obtain ⟨i,hi⟩:=List.getElem?_of_mem hm'
    have:=hu 0 (i+1) q f e' (by simp) (by simpa using hi)
    omega
   show (_\/_/\(k,e)∈b9n m q f) ↔ _
   rw [c1V hm]
   by_cases hk:k=q
   ·subst hk
    simp only [if_true]
    constructor
    ·rintro (h|⟨_,h⟩)
     ·exact absurd h (hq e)
     ·exact .inl (by rw [h];exact List.mem_cons_self)
    rintro (h|⟨h,_⟩)
    ·rcases List.mem_cons.1 h with h|h
     ·cases h;exact .inr ⟨hq,rfl⟩
     ·exact absurd h (hq e)
    ·exact absurd List.mem_cons_self (h f)
   ·simp only [if_neg hk]
    have hne:∀e',Pc.used k e'∈Pc.used q f::l ↔ Pc.used k e'∈l:=fun e'=>by
     rw [List.mem_cons]
     exact ⟨fun h=>h.elim (fun h=>by cases h;exact absurd rfl hk) id,.inr⟩
    simp only [hne]
  | empty =>
   have hne:∀k' e',Pc.used k' e'∈Pc.empty::l ↔ Pc.used k' e'∈l:=fun k' e'=>by simp
   simp only [hne];rfl
  | gone =>
   have hne:∀k' e',Pc.used k' e'∈Pc.gone::l ↔ Pc.used k' e'∈l:=fun k' e'=>by simp
   simp only [hne];rfl
def Tb.all(t:Tb):List Pr:=a1A (a1A [] t.now) t.old
theorem Tb.all_nd(t:Tb):(t.all.map (·.1)).Nodup:=a3d (a3d (by simp) _) _
theorem a9W{hm:Key->Nat}{l:List Pc}(h:a6o hm l){k:Key}{e:En}:Pc.used k e∈l ↔ look l k=some e:=by
 rw [a1L h]
 exact ⟨fun h=>List.getElem?_of_mem h,fun ⟨i,hi⟩=>List.mem_of_getElem? hi⟩
theorem Tb.all_mem{t:Tb}(h:TOk t)(k:Key)(e:En):(k,e)∈t.all ↔ t.look k=some e:=by
 have hu:∀(i j:Nat) k e e',t.old[i]?=some (Pc.used k e)->t.old[j]?=some (Pc.used k e')->i=j:=fun i j k e e' h1 h2=>by
  have hp:0<t.oldLen:=by
   rw [h.1.oc]
   unfold a5t
   exact List.countP_pos_iff.2 ⟨_,List.mem_of_getElem? h1,rfl⟩
  exact (h.1.ook hp).1.uniq i j k e e' h1 h2
 unfold Tb.all
 rw [a8R (a3d (by simp) _) _ hu,a8R (by simp) _ h.1.nok.uniq]
 have hold:∀e',Pc.used k e'∈t.old ↔ Abs.look t.old k=some e':=fun e'=>by
  constructor
  ·intro hm
   have hp:0<t.oldLen:=by
    rw [h.1.oc]
    unfold a5t
    exact List.countP_pos_iff.2 ⟨_,hm,rfl⟩
   exact (a9W (h.1.ook hp).1).1 hm
  intro hl
  refine Classical.byContradiction fun hn=>?_
  have:Abs.look t.old k=none:=by
   rcases Nat.eq_zero_or_pos t.oldLen with hz|hz
   ·exact a5S (by rw [<- h.1.oc];exact hz) k
   ·rw [(a9W (h.1.ook hz).1)] at hn;exact absurd hl hn
  rw [this] at hl;cases hl
 simp only [a9W h.1.nok,List.not_mem_nil,and_false,or_false,hold]
 unfold Tb.look
 cases hn:Abs.look t.now k with
 | none=>simp
 | some e1 =>
  have ho:=h.1.dj k e1 hn
  simp [ho]
theorem a8J{α β:Type}:∀l:List (α × β),(l.map (·.1)).zip (l.map (·.2))=l
 | []=>rfl
 | p::l=>by simp [a8J l]
theorem b5j{f:Nat->Nat}:∀{o:AO},a2u 0 o->rnO f o=o
 | .cells cs e,h=>by show AO.cells (rnL f cs) e=_;rw [a1a _ h]
 | .arr es e,h=>by show AO.arr (rnL f es) e=_;rw [a1a _ h]
 | .map es,h=>by show AO.map _=_;rw [a1a _ h.1,a1a _ h.2,a8J]
 | .itr s p,_=>rfl
def mpE(m:List Pr):AO:=mapA c2W b5F m
theorem b1d(m:List Pr):a2u 0 (mpE m):=⟨by simp only [List.map_map];exact a0h fun _=>trivial,by simp only [List.map_map];exact a0h fun _=>⟨trivial,trivial,trivial,trivial,trivial,trivial⟩⟩
attribute [local irreducible] a0B a1G AWp Nx awM
theorem c5k(X:Nat->Prop)(l:List Pr):a0b (E0 X) 170 [.mp 0] [some (mpE l)]
  (fun r H'=>r=.clo (.func 199) [] [.ptr 1 0]/\H'=[some (mpE l),some (.cells [.mp 0] 248)]):=by
 refine Z0 Proofs.Tryz.func170 rfl Proofs.Tryz.ntmps170 (by kernel_rfl) rfl ?_
 repeat' (first|refine Zs rfl ?_|refine Zc rfl ?_)
 refine a0c ⟨_,rfl,⟨rfl,rfl⟩⟩
theorem c1G(X:Nat->Prop)(H:Hp)(id:Nat)(l:List Pr)(ho:H[id]?=some (some (mpE l))):a0b (E0 X) 170 [.mp id] H
  (fun r H'=>r=.clo (.func 199) [] [.ptr H.length 0]/\H'=H++[some (.cells [.mp id] 248)]):=by
 have e:∀f,rnO f (mpE l)=mpE l:=fun f=>b5j (b1d l)
 have h:=a0b.frame (E:=E0 X) (fun X=>c5k X l) [id] H (by simp) rfl (fun j=>by
  match j with
  | 0=>simp
  | j+1=>simp) (fun j i o hj hh=>by
  match j,hj,hh with
  | 0,hj,hh =>
   simp at hj hh
   subst hj hh
   rw [e];exact ho) (by simp [a0e,a0g]) (fun j o ho=>by
  match j,ho with
  | 0,ho=>cases ho;exact ⟨a0x (Nat.zero_le _) (b1d l).1,a0x (Nat.zero_le _) (b1d l).2⟩)
 refine a0b.mono h ?_
 rintro r H' ⟨r0,h',⟨rfl,rfl⟩,_,rfl,rfl⟩
 refine ⟨?_,?_⟩
 ·simp [rnA,rnL,reN]
 simp only [mrg,List.map_cons,List.map_nil,Option.map_some,e,a1F,List.length_cons,List.length_nil,Nat.zero_add,List.drop_succ_cons,List.drop_zero]
 rw [a7G ho]
 simp [rnO,rnL,rnA,reN]
theorem a9h{E:Env}{m:Mu}{w w':World}{H:Hp}(hs:E.Sim m w H){id b:Nat}(hid:m[id]?=some (.blk b))(h1:w'.os=w.os)(h2:w'.tape=w.tape)(h3:w'.output=w.output)(hsz:w.heap.size<=w'.heap.size)
  (hk:∀c,c<w.heap.size->c≠b->w'.heap[c]?=w.heap[c]?) (hsh:∀s,w.shape? b=some s->w'.shape? b=some s) {ao:AO} (ho:Ext m w m w'->OB E.cx m w' ao (.blk b)):Ext m w m w'/\E.Sim m w' (H.set id (some ao)):=by
 have hbm:MS.blk b∈m:=List.mem_of_getElem? hid
 have he:Ext m w m w':=⟨h1,h2,h3,hsz,fun c hc hn=>hk c hc fun e=>hn (e ▸ hbm),fun _ _ h=>h,Nat.le_refl _,fun _ _ _ _ h=>h,fun c s hs2=>by
  by_cases hcb:c=b
  ·subst hcb;exact hsh s hs2
  have hc:c<w.heap.size:=by
   unfold World.shape? at hs2
   split at hs2
   ·rename_i h;exact (Array.getElem?_eq_some_iff.1 h).1
   ·cases hs2
  unfold World.shape? at hs2 ⊢
  rw [hk c hc hcb];exact hs2⟩
 refine ⟨he,?_⟩
 have hidH:id<H.length:=by rw [<- hs.len];exact (List.getElem?_eq_some_iff.1 hid).1
 refine ⟨by rw [List.length_set];exact hs.len,fun i o hi=>?_,fun i hi=>?_,hs.inj,fun c hc=>Nat.lt_of_lt_of_le (hs.xlt c hc) hsz,hs.disj⟩
 ·by_cases hii:id=i
  ·subst hii
   rw [List.getElem?_set_self hidH] at hi
   cases hi
   exact ⟨_,hid,ho he⟩
  rw [List.getElem?_set_ne hii] at hi
  obtain ⟨x,hx1,hx2⟩:=hs.live i o hi
  refine ⟨x,hx1,hx2.ext he fun c hc=>?_⟩
  subst hc
  exact hk c (hs.lt (List.mem_of_getElem? hx1)) fun e=>hii (hs.inj id i c (e ▸ hid) hx1)
 have hii:id≠i:=fun e=>by
  subst e
  rw [List.getElem?_set_self hidH] at hi;cases hi
 rw [List.getElem?_set_ne hii] at hi
 exact hs.dead i hi
end Go.Abs
namespace Go.Proofs
def Tryz.collectL_ren:Go.Shelf.Ren:=⟨fun|8=>197|11=>229|n=>n,fun|26=>9|28=>255|24=>252|0=>0|33=>204|4=>4|n=>n,fun|n=>n⟩
theorem Tryz.collectL:Go.Proofs.SlLaysZ.n8 Tryz.prog Tryz.collectL_ren where
 mixed:=by kernel_rfl
 f8:=⟨Tryz.f197.name,by kernel_rfl,Tryz.func197.trans (congrArg some (by kernel_rfl))⟩
 f11:=⟨Tryz.f229.name,by kernel_rfl,Tryz.func229.trans (congrArg some (by kernel_rfl))⟩
 t0:=Tryz.underlying0
 a0:=Tryz.isAgg0
 z0:=Tryz.sizeOf0
 v0:=Tryz.zeroValue0
 t24:=Tryz.underlying252
 a24:=Tryz.isAgg252
 z24:=Tryz.sizeOf252
 v24:=Tryz.zeroValue252
 t26:=Tryz.underlying9
 a26:=Tryz.isAgg9
 z26:=Tryz.sizeOf9
 v26:=Tryz.zeroValue9
 t28:=Tryz.underlying255
 a28:=Tryz.isAgg255
 z28:=Tryz.sizeOf255
 v28:=Tryz.zeroValue255
 i26:=by kernel_rfl
def Tryz.skeysL_ren:Go.Shelf.Ren:=⟨fun|10=>199|n=>n,fun|33=>204|23=>248|0=>0|4=>4|26=>9|3=>67|n=>n,fun|n=>n⟩
theorem Tryz.skeysL:Go.Proofs.SlLaysZ.n10 Tryz.prog Tryz.skeysL_ren where
 mixed:=by kernel_rfl
 f10:=⟨Tryz.f199.name,by kernel_rfl,Tryz.func199.trans (congrArg some (by kernel_rfl))⟩
 t0:=Tryz.underlying0
 a0:=Tryz.isAgg0
 z0:=Tryz.sizeOf0
 v0:=Tryz.zeroValue0
 t4:=Tryz.underlying4
 a4:=Tryz.isAgg4
 z4:=Tryz.sizeOf4
 v4:=Tryz.zeroValue4
 t23:=Tryz.underlying248
 a23:=Tryz.isAgg248
 z23:=Tryz.sizeOf248
 v23:=Tryz.zeroValue248
 t26:=Tryz.underlying9
 a26:=Tryz.isAgg9
 z26:=Tryz.sizeOf9
 v26:=Tryz.zeroValue9
 t33:=Tryz.underlying204
 a33:=Tryz.isAgg204
 z33:=Tryz.sizeOf204
 v33:=Tryz.zeroValue204
def Tryz.ssortL_ren:Go.Shelf.Ren:=⟨fun|6=>198|15=>178|14=>230|28=>212|29=>213|20=>240|21=>241|22=>242|23=>243|24=>244|25=>245|26=>246|27=>247|46=>250|47=>233|48=>234|49=>251|50=>252|57=>253|n=>n,fun|22=>252|24=>9|25=>257|3=>3|39=>177|0=>0|53=>213|55=>150|4=>4|46=>281|45=>280|50=>245|5=>5|9=>9|66=>298|70=>302|76=>312|77=>313|n=>n,fun|n=>n⟩
theorem Tryz.ssortL:Go.Proofs.SlLaysF.n6 Tryz.prog Tryz.ssortL_ren where
 mixed:=by kernel_rfl
 f6:=⟨Tryz.f198.name,by kernel_rfl,Tryz.func198.trans (congrArg some (by kernel_rfl))⟩
 f14:=⟨Tryz.f230.name,by kernel_rfl,Tryz.func230.trans (congrArg some (by kernel_rfl))⟩
 f15:=Tryz.func178.trans (congrArg some (by kernel_rfl))
 f20:=⟨Tryz.f240.name,by kernel_rfl,Tryz.func240.trans (congrArg some (by kernel_rfl))⟩
 f21:=⟨Tryz.f241.name,by kernel_rfl,Tryz.func241.trans (congrArg some (by kernel_rfl))⟩
 f22:=⟨Tryz.f242.name,by kernel_rfl,Tryz.func242.trans (congrArg some (by kernel_rfl))⟩
 f23:=⟨Tryz.f243.name,by kernel_rfl,Tryz.func243.trans (congrArg some (by kernel_rfl))⟩
 f24:=⟨Tryz.f244.name,by kernel_rfl,Tryz.func244.trans (congrArg some (by kernel_rfl))⟩
 f25:=⟨Tryz.f245.name,by kernel_rfl,Tryz.func245.trans (congrArg some (by kernel_rfl))⟩
 f26:=⟨Tryz.f246.name,by kernel_rfl,Tryz.func246.trans (congrArg some (by kernel_rfl))⟩
 f27:=⟨Tryz.f247.name,by kernel_rfl,Tryz.func247.trans (congrArg some (by kernel_rfl))⟩
 f28:=Tryz.func212.trans (congrArg some (by kernel_rfl))
 f29:=Tryz.func213.trans (congrArg some (by kernel_rfl))
 f46:=⟨Tryz.f250.name,by kernel_rfl,Tryz.func250.trans (congrArg some (by kernel_rfl))⟩
 f47:=Tryz.func233.trans (congrArg some (by kernel_rfl))
 f48:=Tryz.func234.trans (congrArg some (by kernel_rfl))
 f49:=⟨Tryz.f251.name,by kernel_rfl,Tryz.func251.trans (congrArg some (by kernel_rfl))⟩
 f50:=⟨Tryz.f252.name,by kernel_rfl,Tryz.func252.trans (congrArg some (by kernel_rfl))⟩
 f57:=⟨Tryz.f253.name,by kernel_rfl,Tryz.func253.trans (congrArg some (by kernel_rfl))⟩
 t0:=Tryz.underlying0
 a0:=Tryz.isAgg0
 z0:=Tryz.sizeOf0
 v0:=Tryz.zeroValue0
 t3:=Tryz.underlying3
 a3:=Tryz.isAgg3
 z3:=Tryz.sizeOf3
 v3:=Tryz.zeroValue3
 t4:=Tryz.underlying4
 a4:=Tryz.isAgg4
 z4:=Tryz.sizeOf4
 v4:=Tryz.zeroValue4
 t5:=Tryz.underlying5
 a5:=Tryz.isAgg5
 z5:=Tryz.sizeOf5
 v5:=Tryz.zeroValue5
 t9:=Tryz.underlying9
 a9:=Tryz.isAgg9
 z9:=Tryz.sizeOf9
 v9:=Tryz.zeroValue9
 t22:=Tryz.underlying252
 a22:=Tryz.isAgg252
 z22:=Tryz.sizeOf252
 v22:=Tryz.zeroValue252
 a24:=Tryz.isAgg9
 z24:=Tryz.sizeOf9
 t25:=Tryz.underlying257
 a25:=Tryz.isAgg257
 z25:=Tryz.sizeOf257
 v25:=Tryz.zeroValue257
 t39:=Tryz.underlying177
 a39:=Tryz.isAgg177
 z39:=Tryz.sizeOf177
 v39:=Tryz.zeroValue177
 t45:=Tryz.underlying280
 a45:=Tryz.isAgg280
 z45:=Tryz.sizeOf280
 v45:=Tryz.zeroValue280
 t46:=Tryz.underlying281
 a46:=Tryz.isAgg281
 z46:=Tryz.sizeOf281
 v46:=Tryz.zeroValue281
 t50:=Tryz.underlying245
 a50:=Tryz.isAgg245
 z50:=Tryz.sizeOf245
 v50:=Tryz.zeroValue245
 t53:=Tryz.underlying213
 a53:=Tryz.isAgg213
 z53:=Tryz.sizeOf213
 v53:=Tryz.zeroValue213
 t55:=Tryz.underlying150
 a55:=Tryz.isAgg150
 z55:=Tryz.sizeOf150
 v55:=Tryz.zeroValue150
 t66:=Tryz.underlying298
 a66:=Tryz.isAgg298
 z66:=Tryz.sizeOf298
 v66:=Tryz.zeroValue298
 t70:=Tryz.underlying302
 a70:=Tryz.isAgg302
 z70:=Tryz.sizeOf302
 v70:=Tryz.zeroValue302
 t76:=Tryz.underlying312
 a76:=Tryz.isAgg312
 z76:=Tryz.sizeOf312
 v76:=Tryz.zeroValue312
 t77:=Tryz.underlying313
 a77:=Tryz.isAgg313
 z77:=Tryz.sizeOf313
 v77:=Tryz.zeroValue313
def Tryz.rsortL_ren:Go.Shelf.Ren:=⟨fun|6=>157|15=>178|14=>192|28=>212|29=>213|20=>219|21=>220|22=>221|23=>222|24=>223|25=>224|26=>225|27=>226|46=>237|47=>233|48=>234|49=>238|50=>239|57=>249|n=>n,fun|22=>49|24=>63|25=>197|3=>3|39=>177|0=>0|53=>213|55=>150|4=>4|46=>281|45=>280|50=>245|5=>5|9=>9|66=>298|70=>302|76=>312|77=>313|n=>n,fun|n=>n⟩
theorem Tryz.rsortL:Go.Proofs.SlLaysF0.n6 Tryz.prog Tryz.rsortL_ren where
 mixed:=by kernel_rfl
 f6:=⟨Tryz.f157.name,by kernel_rfl,Tryz.func157.trans (congrArg some (by kernel_rfl))⟩
 f14:=⟨Tryz.f192.name,by kernel_rfl,Tryz.func192.trans (congrArg some (by kernel_rfl))⟩
 f15:=Tryz.func178.trans (congrArg some (by kernel_rfl))
 f20:=⟨Tryz.f219.name,by kernel_rfl,Tryz.func219.trans (congrArg some (by kernel_rfl))⟩
 f21:=⟨Tryz.f220.name,by kernel_rfl,Tryz.func220.trans (congrArg some (by kernel_rfl))⟩
 f22:=⟨Tryz.f221.name,by kernel_rfl,Tryz.func221.trans (congrArg some (by kernel_rfl))⟩
 f23:=⟨Tryz.f222.name,by kernel_rfl,Tryz.func222.trans (congrArg some (by kernel_rfl))⟩
 f24:=⟨Tryz.f223.name,by kernel_rfl,Tryz.func223.trans (congrArg some (by kernel_rfl))⟩
 f25:=⟨Tryz.f224.name,by kernel_rfl,Tryz.func224.trans (congrArg some (by kernel_rfl))⟩
 f26:=⟨Tryz.f225.name,by kernel_rfl,Tryz.func225.trans (congrArg some (by kernel_rfl))⟩
 f27:=⟨Tryz.f226.name,by kernel_rfl,Tryz.func226.trans (congrArg some (by kernel_rfl))⟩
 f28:=Tryz.func212.trans (congrArg some (by kernel_rfl))
 f29:=Tryz.func213.trans (congrArg some (by kernel_rfl))
 f46:=⟨Tryz.f237.name,by kernel_rfl,Tryz.func237.trans (congrArg some (by kernel_rfl))⟩
 f47:=Tryz.func233.trans (congrArg some (by kernel_rfl))
 f48:=Tryz.func234.trans (congrArg some (by kernel_rfl))
 f49:=⟨Tryz.f238.name,by kernel_rfl,Tryz.func238.trans (congrArg some (by kernel_rfl))⟩
 f50:=⟨Tryz.f239.name,by kernel_rfl,Tryz.func239.trans (congrArg some (by kernel_rfl))⟩
 f57:=⟨Tryz.f249.name,by kernel_rfl,Tryz.func249.trans (congrArg some (by kernel_rfl))⟩
 t0:=Tryz.underlying0
 a0:=Tryz.isAgg0
 z0:=Tryz.sizeOf0
 v0:=Tryz.zeroValue0
 t3:=Tryz.underlying3
 a3:=Tryz.isAgg3
 z3:=Tryz.sizeOf3
 v3:=Tryz.zeroValue3
 t4:=Tryz.underlying4
 a4:=Tryz.isAgg4
 z4:=Tryz.sizeOf4
 v4:=Tryz.zeroValue4
 t5:=Tryz.underlying5
 a5:=Tryz.isAgg5
 z5:=Tryz.sizeOf5
 v5:=Tryz.zeroValue5
 t9:=Tryz.underlying9
 a9:=Tryz.isAgg9
 z9:=Tryz.sizeOf9
 v9:=Tryz.zeroValue9
 t22:=Tryz.underlying49
 a22:=Tryz.isAgg49
 z22:=Tryz.sizeOf49
 v22:=Tryz.zeroValue49
 t25:=Tryz.underlying197
 a25:=Tryz.isAgg197
 z25:=Tryz.sizeOf197
 v25:=Tryz.zeroValue197
 t39:=Tryz.underlying177
 a39:=Tryz.isAgg177
 z39:=Tryz.sizeOf177
 v39:=Tryz.zeroValue177
 t45:=Tryz.underlying280
 a45:=Tryz.isAgg280
 z45:=Tryz.sizeOf280
 v45:=Tryz.zeroValue280
 t46:=Tryz.underlying281
 a46:=Tryz.isAgg281
 z46:=Tryz.sizeOf281
 v46:=Tryz.zeroValue281
 t50:=Tryz.underlying245
 a50:=Tryz.isAgg245
 z50:=Tryz.sizeOf245
 v50:=Tryz.zeroValue245
 t53:=Tryz.underlying213
 a53:=Tryz.isAgg213
 z53:=Tryz.sizeOf213
 v53:=Tryz.zeroValue213
 t55:=Tryz.underlying150
 a55:=Tryz.isAgg150
 z55:=Tryz.sizeOf150
 v55:=Tryz.zeroValue150
 t66:=Tryz.underlying298
 a66:=Tryz.isAgg298
 z66:=Tryz.sizeOf298
 v66:=Tryz.zeroValue298
 t70:=Tryz.underlying302
 a70:=Tryz.isAgg302
 z70:=Tryz.sizeOf302
 v70:=Tryz.zeroValue302
 t76:=Tryz.underlying312
 a76:=Tryz.isAgg312
 z76:=Tryz.sizeOf312
 v76:=Tryz.zeroValue312
 t77:=Tryz.underlying313
 a77:=Tryz.isAgg313
 z77:=Tryz.sizeOf313
 v77:=Tryz.zeroValue313
end Go.Proofs
namespace Go.Abs
open Go.Proofs Go.Maps Go.Sort Go.Shelf Go.RowKit
set_option maxHeartbeats 1000000 in
theorem c3P(x:ByteArray)(w:World):Calls Proofs.Tryz.prog 200 #[.string x] w fun e w'=>e=.returned (.bool false)/\w'=w:=by
 go_enter Proofs.Tryz.func200,Proofs.Tryz.ntmps200
 go_wp2
 go_ret
 exact ⟨by simp,rfl⟩
def b3u(a b:List UInt8):Int:=if a<b then -1 else if b<a then 1 else 0
set_option maxHeartbeats 1000000 in
theorem b6l(x y:ByteArray)(w:World):Calls Proofs.Tryz.prog 171 #[.string x,.string y] w fun e w'=>e=.returned (.int .i64 (b3u x.toList y.toList))/\w'=w:=by
 go_enter Proofs.Tryz.func171,Proofs.Tryz.ntmps171
 go_wp2_with (go_at_call 200;refine (c3P _ _).mono ?_;rintro e w' ⟨rfl,hw⟩;rw [hw])
 all_goals (go_ret;refine ⟨?_,rfl⟩)
 ·rename_i h1
  rw [bytesLess_eq,decide_eq_true_eq] at h1
  unfold b3u
  rw [if_pos h1];rfl
 ·have h1:Op.bytesLess x.toList y.toList=false:=by assumption
  have h2:(!x.toList == y.toList)=true:=by assumption
  rw [bytesLess_eq,decide_eq_false_iff_not] at h1
  simp only [Bool.not_eq_true',beq_eq_false_iff_ne,ne_eq] at h2
  have h3:y.toList<x.toList:=by
   rcases a5A x.toList y.toList with h|h|h
   ·exact absurd h h1
   ·exact absurd h h2
   ·exact h
  unfold b3u
  rw [if_neg h1,if_pos h3];rfl
 have h2:(!x.toList == y.toList)=false:=by assumption
 simp only [Bool.not_eq_false',beq_iff_eq] at h2
 unfold b3u
 rw [h2,if_neg (a4a _),if_neg (a4a _)];rfl
theorem c8W:SWO (ltOf b3u):=by
 have h:∀a b,ltOf b3u a b=decide (a<b):=fun a b=>by
  unfold ltOf b3u
  by_cases h1:a<b
  ·simp [h1]
  ·by_cases h2:b<a<;>simp [h1,h2]
 refine ⟨fun x=>?_,fun x y z h1 h2=>?_,fun x y z h1 h2=>?_⟩
 ·rw [h];simp [a4a]
 ·rw [h,decide_eq_true_eq] at *
  exact List.lt_trans h1 h2
 rw [h,decide_eq_false_iff_not] at *
 intro h3
 rcases a5A x y with h4|h4|h4
 ·exact h1 h4
 ·subst h4;exact h2 h3
 ·exact h2 (List.lt_trans h4 h3)
theorem a6e{α:Type}[Inhabited α](enc:α->Value)(d:Array α)(us:Array Value)(h:d.size<=us.size):(putCells enc 0 d us).toList.take d.size=d.toList.map enc:=by
 apply List.ext_getElem?
 intro j
 simp only [List.getElem?_take,List.getElem?_map,Array.getElem?_toList,putCells,Array.getElem?_mapIdx]
 by_cases hj:j<d.size
 ·have hj2:j<us.size:=by omega
  simp [hj,hj2,getElem!_pos]
 ·simp [hj]
theorem a9m{α:Type}[Inhabited α]{enc:α->Value}{w:World}{b n:Nat}{d:Array α}{os:Array Obj}{us:Array Value}{e:TypeId}(hb:w.heap[b]?=some (.cells us e (0,0)))(h:d.size<=us.size) :
  (sortWorld enc w b 0 n d os).heap[b]?=some (.cells (putCells enc 0 d us) e (0,0))/\(∀c,c<w.heap.size->c≠b->(sortWorld enc w b 0 n d os).heap[c]?=w.heap[c]?)/\w.heap.size<=(sortWorld enc w b 0 n d os).heap.size:=by
 have hbl:=(Array.getElem?_eq_some_iff.1 hb).1
 have e1:(sortWorld enc w b 0 n d os).heap=(w.heap.modify b (onCells (putCells enc 0 d)))++os:=rfl
 rw [e1]
 refine ⟨?_,fun c hc hcb=>?_,by simp⟩
 ·rw [Array.getElem?_append_left (by simpa using hbl),Array.getElem?_modify,if_pos rfl,hb];rfl
 ·rw [Array.getElem?_append_left (by simpa using hc),Array.getElem?_modify,if_neg (fun e=>hcb e.symm)]
def b1H(s:List UInt8):Value:=.string ⟨s.toArray⟩
theorem b4a(vs:List (List UInt8)):∀v∈vs.map b1H,v.oneCell'=true:=fun v hv=>by
 obtain ⟨s,_,rfl⟩:=List.mem_map.1 hv;rfl
theorem a6n(a b:List UInt8):ltOf b3u a b=decide (a<b):=by
 unfold ltOf b3u
 by_cases h1:a<b
 ·simp [h1]
 ·by_cases h2:b<a<;>simp [h1,h2]
def a4f(ss:List Key):List Key:=ss.mergeSort fun x y=>!(ltOf b3u) y x
theorem b8Q{ss:List Key}(hn:ss.Nodup):(a4f ss).Perm ss/\(a4f ss).Pairwise (· < ·):=by
 have hp:(a4f ss).Perm ss:=List.mergeSort_perm _ _
 have h1:(a4f ss).Pairwise fun a b=>(!(ltOf b3u) b a)=true:=List.pairwise_mergeSort (fun a b c h1 h2=>by
  rw [a6n] at *
  simp only [Bool.not_eq_true',decide_eq_false_iff_not] at *
  intro h3
  rcases a5A b c with h|h|h
  ·exact h1 (List.lt_trans h h3)
  ·subst h;exact h1 h3
  ·exact h2 h) (fun a b=>by
  rw [a6n,a6n]
  simp only [Bool.or_eq_true,Bool.not_eq_true',decide_eq_false_iff_not]
  by_cases h:b<a
  ·exact .inr fun h2=>a4a _ (List.lt_trans h h2)
  ·exact .inl h) _
 have h2:(a4f ss).Nodup:=hp.nodup_iff.2 hn
 refine ⟨hp,(h1.and h2).imp fun {a b} h=>?_⟩
 obtain ⟨h3,h4⟩:=h
 rw [a6n] at h3
 simp only [Bool.not_eq_true',decide_eq_false_iff_not] at h3
 rcases a5A a b with h|h|h
 ·exact h
 ·exact absurd h h4
 ·exact absurd h h3
theorem c1I(X:Nat->Prop)(H:Hp)(id:Nat)(ss:List Key)(ho:H[id]?=some (some (.arr (ss.map .str) 9)))(hlen:ss.length<=2097152) :
  a0b (E0 X) 198 [.own id 0 ss.length,.clo (.func 171) [] []] H (fun r H'=>r=.tup []/\H'=H.set id (some (.arr ((a4f ss).map .str) 9))):=by
 refine ⟨⟨Proofs.Tryz.f198,Proofs.Tryz.func198,rfl,by kernel_rfl⟩,fun m w vs hok hglob hargs hsim=>?_⟩
 obtain ⟨v,r,rfl,h1,h2⟩:=a0l.1 hargs
 obtain ⟨v2,r2,rfl,h3,h4⟩:=a0l.1 h2
 rw [a0W] at h4;subst h4
 simp only [Abs.Rel] at h1 h3
 obtain ⟨A,c,rfl,h5,h6,h7,h8,h9⟩:=h1
 obtain ⟨us0,ws0,rfl,h10,h11⟩:=h3
 rw [a0W] at h10 h11;subst h10 h11
 obtain ⟨x,hx,hob⟩:=hsim.live id _ ho
 have hret:(fun (e:Ending) w'=>e=.returned (.tuple #[])/\w'=w)=fun e w'=>e=.returned (.tuple #[])/\w'=w:=rfl
 cases x with
 | dead=>exact hob.elim
 | nil =>
  have hss:ss=[]:=by
   have:ss.map AV.str=[]:=hob
   simpa using this
  subst hss
  obtain ⟨rfl,rfl⟩:=h8 hx
  have hc:=AnyF.slices_SortFunc_none (P:=Proofs.Tryz.prog) (ρ:=Proofs.Tryz.ssortL_ren) { Proofs.Tryz.ssortL with } none 0 (.func (.func 171) #[] #[]) w
  refine Calls.mono hc ?_
  rintro e w' ⟨rfl,rfl⟩
  refine ⟨_,m,.tup [],_,rfl,Ext.refl _ _,by simp [Abs.Rel,Abs.RelL],hsim,rfl,?_⟩
  rw [show (a4f []).map AV.str=([]:List Key).map AV.str by simp [a4f],a7G ho]
 | blk b =>
  obtain ⟨us,ws,hb,hr,hsz,htk⟩:=hob
  have hws:ws=ss.map b1H:=a8v c2W hr
  subst hws
  rw [a4X (b4a ss),List.length_map] at htk
  have hbl:b<w.heap.size:=(Array.getElem?_eq_some_iff.1 hb).1
  have hul:ss.length<=us.size:=by
   have:=congrArg List.length htk
   simp at this
   omega
  have hA:A=some ⟨b,0,none⟩:=by
   obtain ⟨e',k,_,_,h12⟩:=h9 b hx
   have:=h12 (.inr rfl)
   simpa using this
  subst hA
  have hget:∀j,j<ss.length->us[j]?=some (b1H ss[j]!):=fun j hj=>by
   have h12:=congrArg (fun l:List Value=>l[j]?) htk
   simp only [List.getElem?_take,hj,if_true,List.getElem?_map,Array.getElem?_toList] at h12
   rw [h12,List.getElem?_eq_getElem hj,getElem!_pos ss j hj];rfl
  have hH:Holds b1H w b 0 ss.toArray:=fun j hj=>by
   have hj2:j<ss.length:=by simpa using hj
   refine ⟨?_,by simp [World.frozen?,hb]⟩
   simp only [World.cell?,hb,Nat.zero_add]
   rw [hget j hj2]
   simp
  have hcmp:CmpReads Proofs.Tryz.prog 171 #[] b1H b3u b 0 ss.toArray.size w:=fun m os dk _ x y=>by
   refine Calls.mono (b6l ⟨x.toArray⟩ ⟨y.toArray⟩ _) ?_
   rintro e w' ⟨rfl,rfl⟩
   refine ⟨by rw [show ByteArray.toList ⟨x.toArray⟩=x by simp [Lib.toList_data],show ByteArray.toList ⟨y.toArray⟩=y by simp [Lib.toList_data]],0,rfl⟩
  have hc:=Any.slices_SortFunc_total (P:=Proofs.Tryz.prog) (ρ:=Proofs.Tryz.ssortL_ren) Proofs.Tryz.ssortL b1H (fun _=>rfl) b3u c8W 171 #[] b 0 c ss.toArray w (enters_of Proofs.Tryz.func171 (by kernel_rfl) rfl) hcmp.lays hH hbl (by simp;omega) (fun x y h1 h2=>by
   rw [a6n,decide_eq_false_iff_not] at h1 h2
   rcases a5A x y with h|h|h
   ·exact absurd h h1
   ·exact h
   ·exact absurd h h2)
  simp only [List.size_toArray] at hc
  refine Calls.mono hc ?_
  rintro e w' ⟨rfl,n,os,rfl⟩
  have hsl:(a4f ss).length=ss.length:=(List.mergeSort_perm _ _).length_eq
  have hse:((ss.toArray.toList.mergeSort fun x y=>!ltOf b3u y x).toArray)=(a4f ss).toArray:=rfl
  rw [hse]
  obtain ⟨r1,r2,r3⟩:=a9m (enc:=b1H) (n:=n) (d:=(a4f ss).toArray) (os:=os) hb (by simp [hsl];exact hul)
  obtain ⟨g1,g2⟩:=a9h (w':=sortWorld b1H w b 0 n (a4f ss).toArray os) (ao:=.arr ((a4f ss).map .str) 9) hsim hx rfl rfl rfl r3 r2 (fun s hs=>by
   unfold World.shape? at hs ⊢
   rw [hb] at hs
   rw [r1]
   simpa [putCells] using hs) (fun he=>⟨_,(a4f ss).map b1H,r1,a6g c2W (a4f ss),fun u hu=>by
    obtain ⟨q,_,rfl⟩:=List.mem_map.1 hu;exact hsz _ (List.mem_map.2 ⟨q,(List.mergeSort_perm _ _).mem_iff.1 ‹_›,rfl⟩),by
    rw [a4X (b4a _),List.length_map]
    have:=a6e b1H (a4f ss).toArray us (by simp [hsl];exact hul)
    simpa using this⟩)
  exact ⟨_,m,.tup [],_,rfl,g1,by simp [Abs.Rel,Abs.RelL],g2,rfl,rfl⟩
open Go.Proofs Go.Maps Go.Sort Go.Shelf Go.RowKit
def b9D(_:Value):Option (DataW Unit × List MemPlace):=some (.nil,[])
theorem b5s{P:Program}{k:TypeId}(hk:P.underlying k=some .string){es:List MapEntry}{ns:List (List UInt8)}(h:es.map (·.key)=ns.map b1H)(hr:∀n∈ns,n.length<=maxLen) :
  (∀x∈es,∃y,Go.WideElems.rd P k b9D x=some y)/\(strKeys (.map ((es.map (Go.WideElems.rg P k b9D)).foldr DataW.insert []))).Perm ns:=by
 have hall:∀(es:List MapEntry) (ns:List (List UInt8)),es.map (·.key)=ns.map b1H->(∀n∈ns,n.length<=maxLen) ->
   (∀x∈es,∃y,Go.WideElems.rd P k b9D x=some y)/\(es.map (Go.WideElems.rg P k b9D)).map (fun p=>Go.strOf p.1)=ns:=by
  intro es
  induction es with
  | nil=>intro ns h _;cases ns with
   | nil=>exact ⟨by simp,rfl⟩
   | cons n ns=>simp at h
  | cons x es ih=>intro ns h hr;cases ns with
   | nil=>simp at h
   | cons n ns =>
    simp only [List.map_cons,List.cons.injEq] at h
    obtain ⟨h1,h2⟩:=ih ns h.2 (fun q hq=>hr q (List.mem_cons_of_mem _ hq))
    have h3:Go.WideElems.rd P k b9D x=some (.string n,.nil):=by
     have h4:keyOf P k (b1H n)=some (.string n):=by
      have:=hr n (by simp)
      have h5:(⟨n.toArray⟩:ByteArray).size<=maxLen:=this
      rw [keyOf_string hk]
      show mapKey P k (.string ⟨n.toArray⟩)=_
      simp only [mapKey,hk,h5,if_true]
     simp only [Go.WideElems.rd,h.1,h4,b9D,Option.bind_some,Option.map_some]
    refine ⟨fun y hy=>?_,?_⟩
    ·rcases List.mem_cons.1 hy with rfl|hy
     ·exact ⟨_,h3⟩
     ·exact h1 y hy
    ·simp only [List.map_cons]
     rw [h2,Go.WideElems.rg_of h3];rfl
 obtain ⟨h1,h2⟩:=hall es ns h hr
 refine ⟨h1,?_⟩
 have h3:=(Go.WideShapes.sorted_perm (es.map (Go.WideElems.rg P k b9D))).map (fun p=>Go.strOf p.1)
 rw [h2] at h3
 exact h3
theorem b2R(X:Nat->Prop)(H:Hp)(j id:Nat)(l:List Pr)(ho:H[id]?=some (some (mpE l)))(hb:H[j]?=some (some (.cells [.mp id] 248)))
  (hnd:(l.map (·.1)).Nodup) (hr:∀p∈l.map (·.1),p.length<=1000000) (hlen:l.length<=2097152) :
  a0b (E0 X) 197 [.clo (.func 199) [] [.ptr j 0]] H (fun r H'=>∃s:List Key,s.Perm (l.map (·.1))/\r=.own H.length 0 s.length/\H'=H++[some (.arr (s.map .str) 9)]):=by
 refine ⟨⟨Proofs.Tryz.f197,Proofs.Tryz.func197,rfl,by kernel_rfl⟩,fun m w vs hok hglob hargs hsim=>?_⟩
 obtain ⟨v,r,rfl,h1,h2⟩:=a0l.1 hargs
 rw [a0W] at h2;subst h2
 simp only [Abs.Rel] at h1
 obtain ⟨us,ws,rfl,h3,h4⟩:=h1
 rw [a0W] at h3;subst h3
 obtain ⟨u,q,rfl,h5,h6⟩:=a0l.1 h4
 rw [a0W] at h6;subst h6
 simp only [Abs.Rel] at h5
 obtain ⟨a,rfl,h7,h8⟩:=h5
 obtain ⟨x,hx,hob⟩:=hsim.live j _ hb
 cases x with
 | dead=>exact hob.elim
 | nil=>exact hob.elim
 | blk bj =>
  obtain ⟨us,hbl,hus⟩:=hob
  obtain ⟨u,q,hu1,hu2,hu3⟩:=a0l.1 hus
  rw [a0W] at hu3;subst hu3
  simp only [Abs.Rel] at hu2
  obtain ⟨rr,rfl,hm1,hm2⟩:=hu2
  have ha:a=⟨bj,0,none⟩:=h8 bj hx
  subst ha
  obtain ⟨bm,es,clock,hv0,hy,hmap,hborn,hbnd,hk1,hv⟩:=b0c (kk:=c2W) (f:=b5F) (l:=l) (v:=.map (some rr)) hsim ho (by simp only [Abs.Rel];exact ⟨rr,rfl,hm1,hm2⟩)
  cases hv0
  have hk1:es.toList.map (·.key)=(l.map (·.1)).map b1H:=by rw [hk1,List.map_map];rfl
  have hu3:Proofs.Tryz.prog.underlying 9=some .string:=Proofs.Tryz.underlying9
  obtain ⟨hrd,hperm⟩:=b5s hu3 hk1 (fun n hn=>Nat.le_trans (hr n hn) (show 1000000<=9223372036854775807 by omega))
  have hsz:es.size=l.length:=by
   have:=congrArg List.length hk1
   simpa using this
  have hinj:∀a b:List UInt8,b1H a=b1H b->a=b:=fun a b h=>by simpa [b1H] using h
  have hfit:Go.WideElems.Fit Proofs.Tryz.prog 9 b9D es clock:=⟨by rw [hsz];show _<=9223372036854775807;omega,⟨fun x hx=>hborn x (by simpa using hx),hbnd,by
   rw [hk1]
   exact List.pairwise_map.2 (hnd.imp fun h e=>h (hinj _ _ e))⟩,hrd⟩
  let D0:DataW Unit:=.map ((es.toList.map (Go.WideElems.rg Proofs.Tryz.prog 9 b9D)).foldr DataW.insert [])
  have hown:w.ownsMap Proofs.Tryz.prog 9 b9D rr es.size D0:=⟨es,clock,hmap,hfit,Nat.le_refl _,rfl⟩
  have hDs:Maps.size D0=l.length:=by
   show (List.foldr DataW.insert [] _).length=_
   rw [Go.length_sorted];simp [hsz]
  have hus':us=#[.map (some rr)]:=by
   apply Array.ext'
   simpa using hu1
  subst hus'
  have hseq:SeqGives Fence.wide 1 Proofs.Tryz.prog 199 #[.pointer (some ⟨bj,0,none⟩)] encStr (fun ss=>ss.Perm (strKeys D0)) (Maps.size D0) w :=
   AnyZ.keys_gives (ρ:=Proofs.Tryz.skeysL_ren) { Proofs.Tryz.skeysL with } Fence.wide _ trivial rfl (by omega) bj rr es.size D0 w (hsim.lt (List.mem_of_getElem? hx)) (by simp [World.cell?,hbl]) hown
  have cS:=AnyZ.collect_in Proofs.Tryz.collectL Fence.wide 3 trivial trivial rfl (by omega) 199 #[.pointer (some ⟨bj,0,none⟩)] trivial
   (enters_of Proofs.Tryz.func199 (by kernel_rfl) rfl) _ _ (by rw [hDs];show _<=9223372036854775807;omega) (by rw [hDs];omega) _ hseq
  change CallsIn _ _ Proofs.Tryz.prog 197 _ _ _ at cS
  refine ((callsIn_wide (n:=3)).1 cS).mono ?_
  rintro e w' ⟨v,ss,rfl,hS,hrow,hnil,hbelow⟩
  have hss:ss.Perm (l.map (·.1)):=hS.trans hperm
  obtain ⟨m',h10,h11,h12⟩:=c4p (E:=E0 X) (es:=ss.map .str) hsim hbelow hrow (by kernel_rfl) (fun u hu=>by
   obtain ⟨n,_,rfl⟩:=List.mem_map.1 hu;rfl) (fun cx m=>a6g c2W ss) (a2h (fun _=>rfl) _)
  exact ⟨v,m',_,_,rfl,h10,h11,h12,ss,hss,rfl,rfl⟩
attribute [local irreducible] a0B a1G AWp Nx awM
theorem c1E(X:Nat->Prop)(H:Hp)(j id:Nat)(l:List Pr)(ho:H[id]?=some (some (mpE l)))(hb:H[j]?=some (some (.cells [.mp id] 248)))(hnd:(l.map (·.1)).Nodup)(hlen:l.length<=2097152)(hkb:∀k∈l.map (·.1),k.length<=1000000) :
  a0b (E0 X) 169 [.clo (.func 199) [] [.ptr j 0],.clo (.func 171) [] []] H
   (fun r H'=>∃s:List Key,(s.Perm (l.map (·.1))/\s.Pairwise (· < ·))/\r=.own H.length 0 s.length/\H'=H++[some (.arr (s.map .str) 9)]):=by
 refine Z0 Proofs.Tryz.func169 rfl Proofs.Tryz.ntmps169 (by kernel_rfl) rfl ?_
 repeat' (first|refine Zs rfl ?_|refine Zc rfl ?_)
 refine Zx rfl rfl (b2R X H j id l ho hb hnd hkb hlen) rfl ?_
 intro s hs
 have hsl:s.length<=2097152:=by rw [hs.length_eq,List.length_map];exact hlen
 obtain ⟨g1,g2⟩:=b8Q (hs.nodup_iff.2 hnd)
 repeat' (first|refine Zs rfl ?_|refine Zc rfl ?_|refine Zt rfl ?_)
 have hc:a0b (E0 X) 198 [.own H.length 0 s.length,.clo (.func 171) [] []] (H++[some (.arr (s.map .str) 9)]) (fun r H'=>∃i:Unit,True/\r=.tup []/\H'=H++[some (.arr ((a4f s).map .str) 9)]):=by
  refine (c1I X (H++[some (.arr (s.map .str) 9)]) H.length s (by simp) hsl).mono ?_
  rintro r H' ⟨rfl,rfl⟩
  exact ⟨(),trivial,rfl,by simp⟩
 refine Zx rfl rfl hc rfl ?_
 intro _ _
 repeat' (first|refine Zc rfl ?_|refine Zt rfl ?_)
 refine a0c ⟨_,rfl,⟨a4f s,⟨g1.trans hs,g2⟩,?_,rfl⟩⟩
 rw [show (a4f s).length=s.length from g1.length_eq];rfl
theorem a2Q(t:Tb)(m:List Pr):HOk 4 (tbH t++[some (mpE m)]):=fun j o ho=>by
 match j,ho with
 | 0,ho=>cases ho;simp [a2u,a0e,a0g]
 | 1,ho=>cases ho;exact a0x (Nat.zero_le _) (a3n _)
 | 2,ho=>cases ho;exact a0x (Nat.zero_le _) (a3n _)
 | 3,ho=>cases ho;exact ⟨a0x (Nat.zero_le _) (b1d m).1,a0x (Nat.zero_le _) (b1d m).2⟩
def c9q(t:Tb):Nat->List Pr
 | 0=>[]
 | 1=>a1A [] t.now
 | _=>t.all
theorem a8o(p:Pr):a2N [prA p]:=fun y hy=>by
 rw [List.mem_singleton] at hy;subst hy;exact ⟨rfl,rfl⟩
def a4r(t:Tb)(k:Key):En:=(lkp t.all k).getD ⟨0,0,0,0,false⟩
theorem b0e{t:Tb}{k:Key}(h:k∈t.all.map (·.1)):lkp t.all k=some (a4r t k):=by
 unfold a4r
 cases hl:lkp t.all k with
 | none=>exact absurd h (a9R.1 hl)
 | some e=>rfl
theorem b9K(m:List Pr)(p:Pc):(b9J m p).length<=m.length+1:=by
 cases p with
 | used k e =>
  show (b9n m k e).length<=_
  unfold b9n
  split
  ·rw [List.length_set];omega
  ·simp
 | _=>exact Nat.le_succ _
theorem a8Q(m:List Pr):∀l:List Pc,(a1A m l).length<=m.length+l.length:=fun l=>by
 induction l generalizing m with
 | nil=>exact Nat.le_refl _
 | cons p l ih =>
  have h1:=ih (b9J m p)
  have h2:=b9K m p
  show (a1A (b9J m p) l).length<=m.length+(l.length+1)
  omega
theorem b1U(t:Tb):t.all.length<=t.now.length+t.old.length:=by
 have h1:=a8Q [] t.now
 have h2:=a8Q (a1A [] t.now) t.old
 have h3:([]:List Pr).length=0:=rfl
 unfold Tb.all
 omega
theorem c5U{t:Tb}(h:TOk t)(hb:KB t){k:Key}(hk:k∈t.all.map (·.1)):k.length<=1000000:=by
 obtain ⟨⟨q,e⟩,hp,rfl⟩:=List.mem_map.1 hk
 exact hb q e ((t.all_mem h q e).1 hp)
theorem b1g{t:Tb}(h:TOk t){s:List Key}(hp:s.Perm (t.all.map (·.1)))(hs:s.Pairwise (· < ·)):IsMap (s.map fun k=>(k,a4r t k)) t.look:=by
 refine ⟨List.pairwise_map.2 hs,fun k e=>?_⟩
 rw [<- t.all_mem h,List.mem_map,<- a9S t.all_nd]
 constructor
 ·rintro ⟨q,hq,he⟩
  cases he
  exact b0e (hp.mem_iff.1 hq)
 intro he
 have hm:k∈t.all.map (·.1):=List.mem_map_of_mem (f:=(·.1)) ((a9S t.all_nd).1 he)
 have:=b0e hm
 rw [he] at this
 exact ⟨k,hp.mem_iff.2 hm,by rw [<- Option.some.inj this]⟩
theorem c4s(X:Nat->Prop)(t:Tb)(h:TOk t)(hol:t.old.length<=1048576)(hkb:KB t):a0b (E0 X) 122 [.ptr 0 0] (tbH t) (fun r H'=>∃L,IsMap L t.look/\r=.sl 6 (L.map prA)/\H'=tbH t):=by
 have hlt:=h.lt
 refine a0b.frzH (e:=69) 6 ?_ (Nat.le_refl 3) (a2w t) rfl rfl a2b
 refine Z0 Proofs.Tryz.func122 rfl Proofs.Tryz.ntmps122 (by kernel_rfl) rfl ?_
 repeat' (first|refine Zs rfl ?_|refine Zh ?_|refine Ql ?_|refine Qo rfl ?_|refine Qm ?_|refine Qq rfl ?_)
 refine Qx rfl (by kernel_rfl) ?_
 repeat' (first|refine Zd rfl ?_|refine Zk ?_)
 refine a1r (I:=fun _:Unit=>True) (σ:=fun _=>⟨[(3,.mp 3)],tbH t++[some (mpE t.all)]⟩) ?_ ?_
 ·refine Zc rfl ?_
  refine a0q (fun n:Nat=>⟨[(0,.ptr 0 0),(3,.mp 3),(24,.sl 1 [.own 1 0 t.now.length,.own 2 0 t.old.length]),(25,.int .i64 2),(26,.int .i64 (n:Int))],tbH t++[some (mpE (c9q t n))]⟩) (fun n=>n<=2) (fun n=>2 - n) 0 (Nat.zero_le _) ?_ ?_
  ·exact kk 4 (a2Q t []) rfl (by simp [a0g,a0e])
  intro n hn
  have hn3:n=0\/n=1\/n=2:=by omega
  rcases hn3 with rfl|rfl|rfl
  ·repeat' (first|refine Zs rfl ?_|refine Zc rfl ?_)
   refine Qa rfl ?_
   refine a4g (j:=0) rfl rfl rfl rfl rfl rfl rfl rfl rfl rfl ?_
   refine nx rfl rfl ?_
   repeat' (first|refine Zs rfl ?_|refine Zc rfl ?_)
   refine a0q (fun i:Nat=>⟨[(0,.ptr 0 0),(3,.mp 3),(24,.sl 1 [.own 1 0 t.now.length,.own 2 0 t.old.length]),(25,.int .i64 2),(26,.int .i64 0),(30,.own 1 0 (t.now).length),(31,.int .i64 ((t.now).length:Int)),(32,.int .i64 (i:Int))],tbH t++[some (mpE (a1A ([]) ((t.now).take i)))]⟩)
    (fun i=>i<=(t.now).length) (fun i=>(t.now).length - i) 0 (Nat.zero_le _) ?_ ?_
   ·exact kk 4 (a2Q t _) rfl (by simp [a0g,a0e])
   intro i hi
   have hnd:((a1A ([]) ((t.now).take i)).map (·.1)).Nodup:=a3d (by first|exact a3d (by simp) _|simp) _
   repeat' (first|refine Zs rfl ?_|refine Zc rfl ?_)
   refine a0d rfl (fun h1=>?_) (fun h1=>?_)
   ·have hil:i<(t.now).length:=by omega
    obtain ⟨p,hp,hpa⟩:=c2K hil
    have hst:=a7L ([]) (t.now) hp
    repeat' (refine Zc rfl ?_)
    refine Qa rfl ?_
    refine a1Y (j:=i) rfl hil (Nat.zero_add _) rfl rfl rfl rfl rfl rfl rfl rfl ?_
    refine nx rfl rfl ?_
    skip
    refine Qa rfl ?_
    refine a2a rfl rfl hpa rfl rfl rfl ?_
    refine nx rfl rfl ?_
    repeat' (first|refine Zs rfl ?_|refine Zc rfl ?_)
    refine a0d rfl (fun h2=>?_) (fun h2=>?_)
    ·obtain ⟨q,f,rfl⟩:∃q f,p=.used q f:=by cases p<;>first|exact ⟨_,_,rfl⟩|cases h2
     repeat' (first|refine Zs rfl ?_|refine Zc rfl ?_)
     refine Qb rfl ?_
     refine c2V (kk:=c2W) (f:=b5F) (l:=(a1A ([]) ((t.now).take i))) (k:=q) (a:=f) rfl rfl rfl rfl rfl rfl rfl rfl (hnd) ?_
     refine nx rfl rfl ?_
     repeat' (first|refine Zs rfl ?_|refine Zc rfl ?_|refine Qh ?_)
     refine ⟨i+1,hil,by show (t.now).length - (i+1)<(t.now).length - i;omega,?_⟩
     rw [hst]
     refine a0i 4 (Nat.le_succ 3) (a2Q t _) rfl (Nat.le_succ 4) ?_
     repeat' (first|exact a0k|refine a0a ⟨?_,?_⟩ ?_)
     all_goals (try first|exact rfl|exact trivial|(simp [a0g,a0e];done)|(refine congrArg (AV.int .i64) (a0u ?_ ?_ ?_)<;>(first|omega|(simp;omega))))
    repeat' (first|refine Zs rfl ?_|refine Zc rfl ?_)
    refine ⟨i+1,hil,by show (t.now).length - (i+1)<(t.now).length - i;omega,?_⟩
    rw [hst,show b9J (a1A ([]) ((t.now).take i)) p=a1A ([]) ((t.now).take i) by cases p<;>first|rfl|exact absurd rfl h2]
    refine a0i 4 (Nat.le_succ 3) (a2Q t _) rfl (Nat.le_succ 4) ?_
    repeat' (first|exact a0k|refine a0a ⟨?_,?_⟩ ?_)
    all_goals (try first|exact rfl|exact trivial|(simp [a0g,a0e];done)|(refine congrArg (AV.int .i64) (a0u ?_ ?_ ?_)<;>(first|omega|(simp;omega))))
   have hi2:i=(t.now).length:=by omega
   subst hi2
   rw [List.take_length]
   repeat' (first|refine Zs rfl ?_|refine Zc rfl ?_)
   refine ⟨0+1,by omega,by omega,?_⟩
   exact kk 4 (a2Q t _) rfl (by simp [a0g,a0e])
  ·repeat' (first|refine Zs rfl ?_|refine Zc rfl ?_)
   refine Qa rfl ?_
   refine a4g (j:=1) rfl rfl rfl rfl rfl rfl rfl rfl rfl rfl ?_
   refine nx rfl rfl ?_
   repeat' (first|refine Zs rfl ?_|refine Zc rfl ?_)
   refine a0q (fun i:Nat=>⟨[(0,.ptr 0 0),(3,.mp 3),(24,.sl 1 [.own 1 0 t.now.length,.own 2 0 t.old.length]),(25,.int .i64 2),(26,.int .i64 1),(30,.own 2 0 (t.old).length),(31,.int .i64 ((t.old).length:Int)),(32,.int .i64 (i:Int))],tbH t++[some (mpE (a1A (a1A [] t.now) ((t.old).take i)))]⟩)
    (fun i=>i<=(t.old).length) (fun i=>(t.old).length - i) 0 (Nat.zero_le _) ?_ ?_
   ·exact kk 4 (a2Q t _) rfl (by simp [a0g,a0e])
   intro i hi
   have hnd:((a1A (a1A [] t.now) ((t.old).take i)).map (·.1)).Nodup:=a3d (by first|exact a3d (by simp) _|simp) _
   repeat' (first|refine Zs rfl ?_|refine Zc rfl ?_)
   refine a0d rfl (fun h1=>?_) (fun h1=>?_)
   ·have hil:i<(t.old).length:=by omega
    obtain ⟨p,hp,hpa⟩:=c2K hil
    have hst:=a7L (a1A [] t.now) (t.old) hp
    repeat' (refine Zc rfl ?_)
    refine Qa rfl ?_
    refine a1Y (j:=i) rfl hil (Nat.zero_add _) rfl rfl rfl rfl rfl rfl rfl rfl ?_
    refine nx rfl rfl ?_
    skip
    refine Qa rfl ?_
    refine a2a rfl rfl hpa rfl rfl rfl ?_
    refine nx rfl rfl ?_
    repeat' (first|refine Zs rfl ?_|refine Zc rfl ?_)
    refine a0d rfl (fun h2=>?_) (fun h2=>?_)
    ·obtain ⟨q,f,rfl⟩:∃q f,p=.used q f:=by cases p<;>first|exact ⟨_,_,rfl⟩|cases h2
     repeat' (first|refine Zs rfl ?_|refine Zc rfl ?_)
     refine Qb rfl ?_
     refine c2V (kk:=c2W) (f:=b5F) (l:=(a1A (a1A [] t.now) ((t.old).take i))) (k:=q) (a:=f) rfl rfl rfl rfl rfl rfl rfl rfl (hnd) ?_
     refine nx rfl rfl ?_
     repeat' (first|refine Zs rfl ?_|refine Zc rfl ?_|refine Qh ?_)
     refine ⟨i+1,hil,by show (t.old).length - (i+1)<(t.old).length - i;omega,?_⟩
     rw [hst]
     refine a0i 4 (Nat.le_succ 3) (a2Q t _) rfl (Nat.le_succ 4) ?_
     repeat' (first|exact a0k|refine a0a ⟨?_,?_⟩ ?_)
     all_goals (try first|exact rfl|exact trivial|(simp [a0g,a0e];done)|(refine congrArg (AV.int .i64) (a0u ?_ ?_ ?_)<;>(first|omega|(simp;omega))))
    repeat' (first|refine Zs rfl ?_|refine Zc rfl ?_)
    refine ⟨i+1,hil,by show (t.old).length - (i+1)<(t.old).length - i;omega,?_⟩
    rw [hst,show b9J (a1A (a1A [] t.now) ((t.old).take i)) p=a1A (a1A [] t.now) ((t.old).take i) by cases p<;>first|rfl|exact absurd rfl h2]
    refine a0i 4 (Nat.le_succ 3) (a2Q t _) rfl (Nat.le_succ 4) ?_
    repeat' (first|exact a0k|refine a0a ⟨?_,?_⟩ ?_)
    all_goals (try first|exact rfl|exact trivial|(simp [a0g,a0e];done)|(refine congrArg (AV.int .i64) (a0u ?_ ?_ ?_)<;>(first|omega|(simp;omega))))
   have hi2:i=(t.old).length:=by omega
   subst hi2
   rw [List.take_length]
   repeat' (first|refine Zs rfl ?_|refine Zc rfl ?_)
   refine ⟨1+1,by omega,by omega,?_⟩
   exact kk 4 (a2Q t _) rfl (by simp [a0g,a0e])
  repeat' (first|refine Zs rfl ?_|refine Zc rfl ?_)
  refine ⟨rfl,(),trivial,?_⟩
  refine a0i 4 (Nat.le_succ 3) (a2Q t _) rfl (Nat.le_refl 4) ?_
  repeat' (first|exact a0k|refine a0a ⟨?_,?_⟩ ?_)
  all_goals (try first|exact rfl|(simp [a0g,a0e];done))
 rintro _ _
 repeat' (first|refine Zs rfl ?_|refine Zh ?_|refine Ql ?_|refine Qo rfl ?_)
 refine Zf rfl rfl (c1G X _ 3 t.all rfl) rfl rfl rfl ?_
 skip
 refine Zx rfl rfl (c1E X _ 4 3 t.all rfl rfl t.all_nd (by have:=b1U t;omega) (fun k hk=>c5U h hkb hk)) rfl ?_
 rintro s ⟨hsp,hsa⟩
 have hsl:s.length<=2097152:=by
  have h1:=hsp.length_eq
  rw [List.length_map] at h1
  have:=b1U t
  omega
 have hes:∀k∈s,lkp t.all k=some (a4r t k):=fun k hk=>b0e (hsp.mem_iff.1 hk)
 repeat' (first|refine Zs rfl ?_|refine Zc rfl ?_)
 refine a0q (fun i:Nat=>⟨[(3,.mp 3),(8,.own 4 0 i),(48,.sl 1 (s.map .str)),(49,.int .i64 (s.length:Int)),(50,.int .i64 (i:Int))],tbH t++[some (mpE t.all),some (.arr (((s.take i).map fun k=>(k,a4r t k)).map prA) 69)]⟩)
  (fun i=>i<=s.length) (fun i=>s.length - i) 0 (Nat.zero_le _) ?_ ?_
 ·refine (a0M (id:=5) (k:=1) (es:=s.map .str) (e:=9) rfl rfl rfl).trans ((imp_nil 8 69 rfl).trans (a0L 4 [6] (H':=tbH t++[some (mpE t.all),some (.arr (((s.take 0).map fun k=>(k,a4r t k)).map prA) 69)])
   (os:=[.arr [] 69]) (Nat.le_succ 3) (by simp [tbH]) (by simp) (by simp) (a2Q t t.all) rfl rfl ?_ (a0v rfl (a0A 4 a1V trivial) a0N)))
  refine a0a (b8b rfl) (a0a (a0D rfl) (a0a ?_ (a0a (a0F rfl trivial) (a0a (a0F rfl trivial) a0k))))
  show Ren _ (frz 5 1 (s.map .str) (.own 5 0 s.length)) _
  rw [a3h (List.length_map _).symm]
  exact a0F rfl (a0h fun _=>trivial)
 intro i hi
 repeat' (first|refine Zs rfl ?_|refine Zc rfl ?_)
 refine a0d rfl (fun h1=>?_) (fun h1=>?_)
 ·have hil:i<s.length:=by omega
  have hk:s[i]?=some s[i]:=List.getElem?_eq_getElem hil
  have hke:=hes s[i] (List.getElem_mem hil)
  repeat' (refine Zc rfl ?_)
  refine Qa rfl ?_
  refine a0y hk rfl rfl rfl rfl rfl rfl rfl (by first|rfl|omega) rfl ?_
  refine nx rfl rfl ?_
  repeat' (first|refine Zs rfl ?_|refine Zc rfl ?_)
  refine Qa rfl ?_
  refine c5r (kk:=c2W) (f:=b5F) (l:=t.all) (k:=s[i]) hke rfl rfl rfl rfl rfl rfl rfl (t.all_nd) ?_
  refine nx rfl rfl ?_
  repeat' (refine Zs rfl ?_)
  have hl1:i=(((s.take i).map fun k=>(k,a4r t k)).map prA).length:=by rw [List.length_map,List.length_map,List.length_take];omega
  have hl2:(((s.take i).map fun k=>(k,a4r t k)).map prA).length+1=i+1:=by rw [<- hl1]
  have hl3:((s.take i).map fun k=>(k,a4r t k)).map prA++[prA (s[i],a4r t s[i])]=((s.take (i+1)).map fun k=>(k,a4r t k)).map prA:=by rw [List.take_add_one,hk,List.map_append,List.map_append];rfl
  refine Qa rfl ?_
  refine a0V (oid:=some 4) (es:=((s.take i).map fun k=>(k,a4r t k)).map prA) (out:=((s.take (i+1)).map fun k=>(k,a4r t k)).map prA) (n:=i+1) (a0J rfl hl1) (rfl) (a8o (s[i],a4r t s[i])) (hl3) (hl2) (by show _<=9223372036854775807;omega) (by show _*56<=_;omega) rfl rfl rfl rfl rfl rfl rfl rfl ?_
  refine nx rfl rfl ?_
  repeat' (first|refine Zs rfl ?_|refine Zc rfl ?_)
  refine ⟨i+1,hil,by show s.length - (i+1)<s.length - i;omega,?_⟩
  refine a0L 4 [5] (H':=tbH t++[some (mpE t.all),some (.arr (((s.take (i+1)).map fun k=>(k,a4r t k)).map prA) 69)])
   (os:=[.arr (((s.take (i+1)).map fun k=>(k,a4r t k)).map prA) 69]) (Nat.le_succ 3) (by simp [tbH]) (by simp) (by simp) (a2Q t t.all) rfl rfl ?_ (a0v rfl (a0A 4 a1V (a0x (Nat.zero_le _) (a2b _))) a0N)
  exact a0a (b8b rfl) (a0a (a0D rfl) (a0a (a0F rfl (a0h fun _=>trivial)) (a0a (a0F rfl trivial) (a0a (a0F (congrArg (AV.int .i64) (a0u rfl (by omega) (by omega))) trivial) a0k))))
 repeat' (first|refine Zs rfl ?_|refine Zc rfl ?_)
 have hi2:i=s.length:=by omega
 subst hi2
 exact a0c ⟨_,rfl,_,b1g h hsp hsa,4,_,rfl,by simp,Nat.le_succ 3,by rw [List.take_length];rfl,rfl⟩
theorem c1v(X:Nat->Prop)(r:Rec)(hk:r.key.length<=maxLen)(hv:r.val.length<=maxLen):a0b (E0 X) 37 [a6Z r] [] (fun q H'=>q=a6Z r.short/\H'=[]):=by
 refine a0b.cut0 ?_ a2F
 have t1:r.key.take (min r.key.length 260)=r.key.take 260:=by
  rcases Nat.le_total r.key.length 260 with h|h
  ·rw [Nat.min_eq_left h,List.take_of_length_le (Nat.le_refl _),List.take_of_length_le h]
  ·rw [Nat.min_eq_right h]
 have t2:r.val.take (min r.val.length 200)=r.val.take 200:=by
  rcases Nat.le_total r.val.length 200 with h|h
  ·rw [Nat.min_eq_left h,List.take_of_length_le (Nat.le_refl _),List.take_of_length_le h]
  ·rw [Nat.min_eq_right h]
 show a0b (E0 X) 37 [.agg [.int .i64 r.kind,.sl 1 (r.key.map u8A),.sl 1 (r.val.map u8A),.int .i64 r.exp]] [] _
 refine Z0 Proofs.Tryz.func37 rfl Proofs.Tryz.ntmps37 (by kernel_rfl) rfl ?_
 repeat' (first|refine Zs rfl ?_|refine Zc rfl ?_)
 refine a0o [15,17] [0,2,4,5,6,7,9,11,12,13,14,16] (by exact rfl) ?_
 refine a0C (fuel:=0) [0,2,7,9,1,3,4,5,6,8,10,11,12,13,14,15,16,17] (by exact rfl) (by kernel_rfl) (by kernel_rfl) ?_
 repeat' ((first|apply Qd rfl rfl rfl rfl|(apply Qe rfl rfl rfl rfl;intro H9));(first|refine Q3 rfl rfl rfl ?_|refine Q4 rfl rfl rfl rfl rfl ?_|refine Q7 rfl rfl rfl ?_|refine QE rfl rfl ?_);(first|exact QX rfl rfl ⟨rfl,rfl⟩|exact QY rfl ⟨rfl,rfl⟩))
 apply a0Q rfl rfl rfl rfl
 ·intro H9
  refine a1m (l:=0) (h:=min r.key.length 260) (ys:=r.key.take 260) (a1t) (a0r rfl (by rw [List.length_map];omega)) (by omega) (by omega) (by rw [List.drop_zero,t1]) rfl rfl rfl rfl rfl ?_
  exact nx0 ⟨rfl,rfl⟩
 repeat' ((first|apply Qd rfl rfl rfl rfl|(apply Qe rfl rfl rfl rfl;intro H9));(first|refine Q3 rfl rfl rfl ?_|refine Q7 rfl rfl rfl ?_|refine QE rfl rfl ?_);(first|exact QX rfl rfl ⟨rfl,rfl⟩|exact QY rfl ⟨rfl,rfl⟩))
 apply a0Q rfl rfl rfl rfl
 ·intro H9
  refine a1m (l:=0) (h:=min r.val.length 200) (ys:=r.val.take 200) (a1t) (a0r rfl (by rw [List.length_map];omega)) (by omega) (by omega) (by rw [List.drop_zero,t2]) rfl rfl rfl rfl rfl ?_
  exact nx0 ⟨rfl,rfl⟩
 repeat' (first|((apply Qe rfl rfl rfl rfl;intro H9);(refine Q4 rfl rfl rfl rfl rfl ?_);(exact QY rfl ⟨rfl,rfl⟩))|(refine Qf rfl rfl rfl ?_;refine QS rfl rfl rfl rfl rfl rfl rfl ?_;(refine QX rfl rfl ?_))|refine Qk ?_|refine Qw (by kernel_rfl) ?_)
 repeat' (first|refine Zs rfl ?_|refine Zc rfl ?_|refine Zh ?_|refine Qs ?_)
 exact a0c ⟨_,rfl,rfl⟩
def iN(n:Nat):AV:=.int .i64 (n:Int)
theorem a9P(l:List Nat){n:Nat}:a0e n (l.map iN):=a0h fun _=>trivial
def pfN(ns ws:List Nat):Nat->List UInt8
 | 0=>[]
 | i+1=>a1b (pfN ns ws i) (ns.getD i 0) (ws.getD i 0)
theorem b7O{ns ws:List Nat}(hw:∀w∈ws,1<=w/\w<=8):∀i,i<=ws.length->(pfN ns ws i).length<=8*i
 | 0,_=>Nat.le_refl _
 | i+1,h=>by
  have h1:=b7O (ns:=ns) hw i (by omega)
  have h2:ws.getD i 0<=8:=by
   rw [List.getD_eq_getElem?_getD,List.getElem?_eq_getElem (by omega)]
   exact (hw _ (List.getElem_mem _)).2
  simp only [pfN,a0E]
  omega
theorem c6x(l:List UInt8):HOk 1 [some (.arr (l.map u8A) 5)]:=a9L l
theorem a9G(X:Nat->Prop)(ns ws:List Nat)(hn:∀n∈ns,n<9223372036854775808)(hw:∀w∈ws,1<=w/\w<=8)(hlen:ns.length=ws.length)(hl:ns.length<=10) :
  a0b (E0 X) 187 [.nils,.sl 1 (ns.map iN),.sl 1 (ws.map iN)] [] (fun r H'=>r=.sl 1 ((pfN ns ws ns.length).map u8A)/\H'=[]):=by
 refine a0b.frz0 (e:=5) 1 ?_ rfl rfl (a0h fun _=>a0n)
 have hml:(ns.map iN).length=ns.length:=List.length_map _
 refine Z0 Proofs.Tryz.func187 rfl Proofs.Tryz.ntmps187 (by kernel_rfl) rfl ?_
 repeat' (first|refine Zs rfl ?_|refine Zc rfl ?_)
 rw [hml]
 refine a0q (fun i:Nat=>⟨[(0,.own 0 0 (pfN ns ws i).length),(2,.sl 1 (ws.map iN)),(9,.sl 1 (ns.map iN)),(10,.int .i64 (ns.length:Int)),(11,.int .i64 (i:Int))],[some (.arr ((pfN ns ws i).map u8A) 5)]⟩) (fun i=>i<=ns.length) (fun i=>ns.length - i) 0 (Nat.zero_le _) ?_ ?_
 ·refine Imp.trans (imp_nil 0 5 rfl) (a0i 1 (Nat.zero_le _) (c6x []) rfl (by simp) ?_)
  repeat' (first|exact a0k|refine a0a ⟨?_,?_⟩ ?_)
  all_goals (try first|exact rfl|exact trivial|(simp [a0g,a0e];done))
  all_goals exact a9P _
 rintro i hi
 have hpl:=b7O (ns:=ns) hw i (by omega)
 repeat' (first|refine Zs rfl ?_|refine Zc rfl ?_)
 refine a0d rfl (fun h3=>?_) (fun h3=>?_)
 ·have hi2:i<ns.length:=by omega
  obtain ⟨a,ha⟩:∃a,ns[i]?=some a:=⟨_,List.getElem?_eq_getElem hi2⟩
  obtain ⟨b,hb⟩:∃b,ws[i]?=some b:=⟨_,List.getElem?_eq_getElem (hlen ▸ hi2)⟩
  have han:=hn a (List.mem_of_getElem? ha)
  have hbw:=hw b (List.mem_of_getElem? hb)
  have hs:pfN ns ws (i+1)=a1b (pfN ns ws i) a b:=by
   simp only [pfN,List.getD_eq_getElem?_getD,ha,hb,Option.getD_some]
  have hpu:=fun H x hx=>a4n X H x (pfN ns ws i) a b hbw.1 hbw.2 (by omega) hx
  rw [<- hs] at hpu
  have hs2:(pfN ns ws (i+1)).length=(pfN ns ws i).length+b:=by rw [hs,a0E]
  generalize pfN ns ws i=p0 at *
  generalize hp1:pfN ns ws (i+1)=p1 at *
  repeat' (first|refine Zs rfl ?_|refine Zc rfl ?_|refine Qa rfl ?_)
  refine a0y ha rfl rfl rfl rfl rfl rfl rfl (by first|rfl|omega) rfl ?_
  refine nx rfl rfl ?_
  repeat' (first|refine Zs rfl ?_|refine Zc rfl ?_|refine Qa rfl ?_)
  refine a0y hb rfl rfl rfl rfl rfl rfl rfl (by first|rfl|omega) rfl ?_
  refine nx rfl rfl ?_
  repeat' (first|refine Zs rfl ?_|refine Qa rfl ?_)
  rw [wrap64 (by omega)]
  refine Cn rfl (hpu _ _ (a0z rfl rfl rfl (by omega) (by rw [List.drop_zero,List.take_of_length_le (by omega)]))) rfl rfl ?_
  repeat' (first|refine Zs rfl ?_|refine Zc rfl ?_|refine Zh ?_|refine Qs ?_)
  refine ⟨i+1,by omega,by omega,?_⟩
  rw [hp1,hs2]
  refine a0L 0 [1] (H':=[some (.arr (p1.map u8A) 5)]) (os:=[.arr (p1.map u8A) 5]) (Nat.le_refl _) (Nat.zero_le _) (by simp) (by simp) (by simp [HOk]) rfl rfl ?_ ?_
  ·refine a0a (a0D rfl) (a0a (a0s rfl (a9P _)) (a0a (a0s rfl (a9P _)) (a0a (a0s rfl trivial) (a0a (a0s ?_ trivial) a0k))))
   exact congrArg (AV.int .i64) (a0u (by omega) (by omega) (by omega))
  ·exact a0v rfl (a0A 0 (fun i h=>absurd h (Nat.not_lt_zero i)) (a0h fun _=>a0n)) a0N
 have hii:i=ns.length:=by omega
 repeat' (first|refine Zs rfl ?_|refine Zc rfl ?_|refine Zh ?_|refine Qs ?_)
 refine a0c ⟨_,rfl,0,_,rfl,?_,?_⟩
 ·rw [<- hii,List.length_map]
 ·rw [<- hii];rfl
def a9K(ver:Int)(k kl vl e:Nat):List UInt8:=if ver=1 then pfN [161,k,kl,0,vl,e] [1,1,1,1,4,4] 6 else pfN [162,kl,16*k,vl,0,e] [1,1,1,3,1,5] 6
theorem a5X(ver:Int)(k kl vl e:Nat):(a9K ver k kl vl e).length=12:=by
 unfold a9K
 split<;>simp [pfN,a0E]
def a3x(ver:Int)(r:Rec):List UInt8:=a9K ver r.kind.toNat r.key.length r.val.length r.exp.toNat
structure c5R(ver:Int)(r:Rec):Prop where
 vers:ver=1\/ver=2
 kind:1<=r.kind/\r.kind<=3
 plain:r.kind≠1->r.val.length=0/\r.exp=0
 flush:r.kind=3->r.key.length=0
 key:r.kind≠3->1<=r.key.length
 keyle:r.key.length<=255
 val:r.val.length<=65536
 exp:0<=r.exp/\r.exp<=b9A ver
theorem b2p(ver:Int):b9A ver<=1099511627775:=by unfold b9A;split<;>omega
theorem a8u{ver:Int}{r:Rec}(h:a3U ver r=0):c5R ver r:=by
 unfold a3U at h
 split at h
 ·omega
 split at h
 ·omega
 split at h
 ·omega
 split at h
 ·omega
 split at h
 ·omega
 exact ⟨by omega,by omega,fun _=>by omega,fun _=>by omega,fun _=>by omega,by omega,by omega,by omega⟩
theorem c6s(X:Nat->Prop)(ver:Int)(r:Rec)(h:c5R ver r):a0b (E0 X) 184 [.int .i64 ver,a6Z r] [] (fun q H'=>q=.sl 1 ((a3x ver r).map u8A)/\H'=[]):=by
 refine a0b.cut0 ?_ (a0h fun _=>a0n)
 obtain ⟨_,⟨k1,k2⟩,_,_,_,hk,hv,⟨e1,e2⟩⟩:=h
 have hla:=b2p ver
 obtain ⟨kind,key,val,exp⟩:=r
 simp only at k1 k2 hk hv e1 e2
 obtain ⟨kind,rfl⟩:=Int.eq_ofNat_of_zero_le (show 0<=kind by omega)
 obtain ⟨exp,rfl⟩:=Int.eq_ofNat_of_zero_le e1
 have w16:IntKind.i64.wrap (16*(kind:Int))=((16*kind:Nat):Int):=a0u (by omega) (by omega) (by omega)
 show a0b (E0 X) 184 [.int .i64 ver,.agg [.int .i64 (kind:Int),.sl 1 (key.map u8A),.sl 1 (val.map u8A),.int .i64 (exp:Int)]] [] _
 have hkl:(key.map u8A).length=key.length:=List.length_map _
 have hvl:(val.map u8A).length=val.length:=List.length_map _
 refine Z0 Proofs.Tryz.func184 rfl Proofs.Tryz.ntmps184 (by kernel_rfl) rfl ?_
 repeat' (first|refine Zs rfl ?_|refine Zc rfl ?_|refine Zh ?_|refine Qs ?_)
 refine a0d rfl (fun h1=>?_) (fun h1=>?_)
 ·have e:a3x ver ⟨(kind:Int),key,val,(exp:Int)⟩=pfN [161,kind,key.length,0,val.length,exp] [1,1,1,1,4,4] 6:=if_pos h1
  have hf:=fun X=>a9G X [161,kind,key.length,0,val.length,exp] [1,1,1,1,4,4] (by simp;omega) (by decide) rfl (by simp)
  rw [e]
  repeat' (first|refine Zs rfl ?_|refine Zc rfl ?_|refine Qa rfl ?_)
  rw [hkl,hvl]
  refine Cn rfl (a0f (E:=E0 X) (fun X=>hf X) ⟨trivial,a9P _,a9P _,trivial⟩ _) rfl rfl ?_
  repeat' (first|refine Zs rfl ?_|refine Zh ?_|refine Qs ?_)
  exact a0c ⟨_,rfl,rfl⟩
 have e:a3x ver ⟨(kind:Int),key,val,(exp:Int)⟩=pfN [162,key.length,16*kind,val.length,0,exp] [1,1,1,3,1,5] 6:=if_neg h1
 have hf:=fun X=>a9G X [162,key.length,16*kind,val.length,0,exp] [1,1,1,3,1,5] (by simp;omega) (by decide) rfl (by simp)
 rw [e]
 repeat' (first|refine Zs rfl ?_|refine Zc rfl ?_|refine Qa rfl ?_)
 rw [hkl,hvl,w16]
 refine Cn rfl (a0f (E:=E0 X) (fun X=>hf X) ⟨trivial,a9P _,a9P _,trivial⟩ _) rfl rfl ?_
 repeat' (first|refine Zs rfl ?_|refine Zh ?_|refine Qs ?_)
 exact a0c ⟨_,rfl,rfl⟩
def c0Y(seq off:Nat):List UInt8:=pfN [seq,off] [8,4] 2
theorem b4g(seq off:Nat):(c0Y seq off).length=12:=by simp [c0Y,pfN,a0E]
def c5t(ver:Int)(seq off:Nat)(r:Rec):Nat:=a5J 0 (c0Y seq off++(a3x ver r++(r.key++r.val)))
def a2d(ver:Int)(seq off:Nat)(r:Rec):List UInt8:=a1b (a3x ver r) (c5t ver seq off r) 4++(r.key++r.val)
theorem a2E(ver:Int)(seq off:Nat)(r:Rec):(a2d ver seq off r).length=a1K r:=by
 simp only [a2d,List.length_append,a0E,a3x,a5X,a1K];omega
theorem c7k(X:Nat->Prop)(ver:Int)(seq off:Nat)(r:Rec)(hc:a3U ver r=0)(hs:seq<9223372036854775808)(ho:off<=2147483647) :
  a0b (E0 X) 147 [.int .i64 ver,.int .i64 (seq:Int),.int .i64 (off:Int),a6Z r] [] (fun q H'=>q=.tup [.sl 1 ((a2d ver seq off r).map u8A),.int .i64 0]/\H'=[]):=by
 refine a0b.cut0 ?_ ⟨a0h fun _=>a0n,trivial,trivial⟩
 have hck:=fun X=>b6e X ver r
 rw [hc] at hck
 have hok:=a8u hc
 have hhd:=fun X=>c6s X ver r hok
 have hhl:(a3x ver r).length=12:=a5X _ _ _ _ _
 have hkl:=hok.keyle
 have hvl:=hok.val
 have hfi:=fun X=>a9G X [seq,off] [8,4] (by simp;omega) (by decide) rfl (by simp)
 have hpl:=b4g seq off
 have hp:pfN [seq,off] [8,4] [seq,off].length=c0Y seq off:=rfl
 rw [hp] at hfi
 have hen:a2d ver seq off r=a1b (a3x ver r) (a5J 0 (c0Y seq off++(a3x ver r++(r.key++r.val)))) 4++(r.key++r.val):=rfl
 rw [hen]
 obtain ⟨kind,key,val,exp⟩:=r
 simp only at hkl hvl
 generalize a3x ver ⟨kind,key,val,exp⟩=hd at *
 generalize c0Y seq off=pl at *
 have c1:=fun X=>a9D X [pl,hd,key,val] (by simp;omega) (by simp;omega) (by simp)
 have ef:[pl,hd,key,val].flatten=pl++(hd++(key++val)):=by simp
 rw [ef] at c1
 have hsu:=fun X=>b3v X (pl++(hd++(key++val))) (by simp;omega)
 dsimp only
 clear hen hp ef
 generalize pl++(hd++(key++val))=all at *
 have hlt:=a6L (c:=0) (by decide) all
 have hpu:=fun X=>c1a X hd (a5J 0 all) 4 (by decide) (by decide) (by omega)
 have hpul:(a1b hd (a5J 0 all) 4).length=16:=by rw [a0E,hhl]
 have c2:=fun X=>a9D X [a1b hd (a5J 0 all) 4,key,val] (by simp;omega) (by simp;omega) (by simp)
 have ef2:[a1b hd (a5J 0 all) 4,key,val].flatten=a1b hd (a5J 0 all) 4++(key++val):=by simp
 rw [ef2] at c2
 generalize a1b hd (a5J 0 all) 4=hd16 at *
 have ns1:¬ (seq:Int)<0:=by omega
 have ns2:¬ (off:Int)<0:=by omega
 have ns3:¬ (2147483647:Int)<(off:Int):=by omega
 show a0b (E0 X) 147 [.int .i64 ver,.int .i64 (seq:Int),.int .i64 (off:Int),.agg [.int .i64 kind,.sl 1 (key.map u8A),.sl 1 (val.map u8A),.int .i64 exp]] [] _
 refine Z0 Proofs.Tryz.func147 rfl Proofs.Tryz.ntmps147 (by kernel_rfl) rfl ?_
 repeat' (first|refine Zs rfl ?_|refine Zc rfl ?_|refine Qa rfl ?_)
 refine Cn rfl (a0f (E:=E0 X) (fun X=>hck X) (by simp [a0e,a0g]) _) rfl rfl ?_
 repeat' (first|refine Zs rfl ?_|refine Zc rfl ?_|refine Zh ?_|refine Qs ?_)
 rw [decide_eq_false ns1]
 skip
 rw [decide_eq_false ns2]
 skip
 rw [decide_eq_false ns3]
 repeat' (first|refine Zs rfl ?_|refine Zc rfl ?_|refine Qa rfl ?_)
 refine Cn rfl (a0f (E:=E0 X) (fun X=>hhd X) (by simp [a0e,a0g]) _) rfl rfl ?_
 repeat' (first|refine Zs rfl ?_|refine Zc rfl ?_)
 refine a0m [] [] (by exact rfl) (by kernel_rfl) ?_
 repeat' (refine Zd rfl ?_)
 apply ds rfl rfl rfl rfl
 ·refine Ck (fun _=>rfl) rfl (a0f (E:=E0 X) (fun X=>hfi X) ⟨trivial,a9P _,a9P _,trivial⟩ _) ?_
  exact nx rfl rfl ⟨rfl,rfl⟩
 repeat' (refine Zd rfl ?_)
 apply ds rfl rfl rfl rfl
 ·refine Ck (fun _=>rfl) rfl (a0f (E:=E0 X) (fun X=>c1 X) (by simp [a0e,a0g]) _) ?_
  exact nx rfl rfl ⟨rfl,rfl⟩
 skip
 apply ds rfl rfl rfl rfl
 ·refine Ck (fun _=>rfl) rfl (a0f (E:=E0 X) (fun X=>hsu X) (by simp [a0e,a0g]) _) ?_
  exact nx rfl rfl ⟨rfl,rfl⟩
 repeat' (first|refine Zd rfl ?_|refine Zc rfl ?_)
 refine a0m [] [] (by exact rfl) (by kernel_rfl) ?_
 repeat' (refine Zd rfl ?_)
 rw [wrap64 (by omega)]
 apply ds rfl rfl rfl rfl
 ·refine Ck (fun _=>rfl) rfl (a0f (E:=E0 X) (fun X=>hpu X) (by simp [a0e,a0g]) _) ?_
  exact nx rfl rfl ⟨rfl,rfl⟩
 repeat' (refine Zd rfl ?_)
 apply ds rfl rfl rfl rfl
 ·refine Ck (fun _=>rfl) rfl (a0f (E:=E0 X) (fun X=>c2 X) (by simp [a0e,a0g]) _) ?_
  exact nx rfl rfl ⟨rfl,rfl⟩
 repeat' (first|refine Zd rfl ?_|refine Zk ?_|refine Qs ?_)
 exact a0c ⟨_,rfl,rfl⟩
theorem b8c(X:Nat->Prop)(ver seq off:Int)(r:Rec)(hc:a3U ver r≠0) :
  a0b (E0 X) 147 [.int .i64 ver,.int .i64 seq,.int .i64 off,a6Z r] [] (fun q H'=>q=.tup [.nils,.int .i64 (a3U ver r)]/\H'=[]):=by
 refine a0b.cut0 ?_ ⟨trivial,trivial,trivial⟩
 have hck:=fun X=>b6e X ver r
 generalize a3U ver r=e at *
 refine Z0 Proofs.Tryz.func147 rfl Proofs.Tryz.ntmps147 (by kernel_rfl) rfl ?_
 repeat' (first|refine Zs rfl ?_|refine Zc rfl ?_|refine Qa rfl ?_)
 refine Cn rfl (a0f (E:=E0 X) (fun X=>hck X) (by simp [a0e,a0g]) _) rfl rfl ?_
 repeat' (first|refine Zs rfl ?_|refine Zc rfl ?_|refine Zh ?_|refine Qs ?_)
 rw [decide_eq_true hc]
 repeat' (first|refine Zs rfl ?_|refine Zc rfl ?_|refine Zh ?_|refine Qs ?_)
 exact a0c ⟨_,rfl,rfl⟩
theorem c2M(b:List UInt8)(n:Nat):a1b b n 1=b++[UInt8.ofNat (n%256)]:=by
 have h:a0j n 0=UInt8.ofNat (n%256):=by simp [a0j]
 show b++[a0j n 0]=_
 rw [h]
theorem c6q(k kl vl e:Nat):a1b (a1b [UInt8.ofNat (161%256),UInt8.ofNat (k%256),UInt8.ofNat (kl%256),UInt8.ofNat (0%256)] vl 4) e 4=a9K 1 k kl vl e:=by
 show _=a1b (a1b (a1b (a1b (a1b (a1b [] 161 1) k 1) kl 1) 0 1) vl 4) e 4
 rw [c2M,c2M,c2M,c2M];rfl
theorem c6r{ver:Int}(h:¬ ver=1)(k kl vl e:Nat):a1b (a1b [UInt8.ofNat (162%256),UInt8.ofNat (kl%256),UInt8.ofNat (16*k%256)] vl 3++[0]) e 5=a9K ver k kl vl e:=by
 have e1:a9K ver k kl vl e=a1b (a1b (a1b (a1b (a1b (a1b [] 162 1) kl 1) (16*k) 1) vl 3) 0 1) e 5:=if_neg h
 rw [e1,c2M [] 162,c2M _ kl,c2M _ (16*k),c2M _ 0];rfl
theorem b8s(X:Nat->Prop)(ver:Int)(seq off:Nat)(r:Rec)(hc:a3U ver r=0)(hs:seq<9223372036854775808)(ho:off<=2147483647) :
  a0b (E0 X) 77 [.int .i64 ver,.int .i64 (seq:Int),.int .i64 (off:Int),a6Z r] [] (fun q H'=>q=.sl 1 ((a2d ver seq off r).map u8A)/\H'=[]):=by
 refine a0b.frz0 (e:=5) 1 ?_ rfl rfl (a0h fun _=>a0n)
 obtain ⟨hver,⟨k1,k2⟩,_,_,_,hkl,hvl,⟨e1,e2⟩⟩:=a8u hc
 have hla:=b2p ver
 have hen:a2d ver seq off r=a1b (a3x ver r) (a5J 0 (c0Y seq off++(a3x ver r++(r.key++r.val)))) 4++(r.key++r.val):=rfl
 have hhl:(a3x ver r).length=12:=a5X _ _ _ _ _
 have hh:a3x ver r=a9K ver r.kind.toNat r.key.length r.val.length r.exp.toNat:=rfl
 rw [hen]
 clear hen
 obtain ⟨kind,key,val,exp⟩:=r
 simp only at k1 k2 hkl hvl e1 e2 hh
 obtain ⟨kind,rfl⟩:=Int.eq_ofNat_of_zero_le (show 0<=kind by omega)
 obtain ⟨exp,rfl⟩:=Int.eq_ofNat_of_zero_le e1
 simp only [Int.toNat_natCast] at hh
 generalize a3x ver ⟨(kind:Int),key,val,(exp:Int)⟩=hd at *
 dsimp only
 have w16:IntKind.i64.wrap (16*(kind:Int))=((16*kind:Nat):Int):=a0u (by omega) (by omega) (by omega)
 have hkm:(key.map u8A).length=key.length:=List.length_map _
 have hvm:(val.map u8A).length=val.length:=List.length_map _
 have hpl:=b4g seq off
 have hpp:c0Y seq off=a1b (a1b [] seq 8) off 4:=rfl
 generalize c0Y seq off=pl at *
 show a0b (E0 X) 77 [.int .i64 ver,.int .i64 (seq:Int),.int .i64 (off:Int),.agg [.int .i64 (kind:Int),.sl 1 (key.map u8A),.sl 1 (val.map u8A),.int .i64 (exp:Int)]] [] _
 refine Z0 Proofs.Tryz.func77 rfl Proofs.Tryz.ntmps77 (by kernel_rfl) rfl ?_
 repeat' (first|refine Zs rfl ?_|refine Zc rfl ?_|refine Zh ?_|refine Qs ?_)
 refine a0t (Imp.trans (a0X (id:=0) (cs:=[.int .i64 (kind:Int),.sl 1 (key.map u8A),.sl 1 (val.map u8A),.int .i64 (exp:Int)]) rfl) (a0i 0 (Nat.zero_le _) a0T rfl (by simp) (sl':=[(0,.int .i64 ver),(1,.int .i64 (seq:Int)),(2,.int .i64 (off:Int)),(7,.fp [.int .i64 (kind:Int),.sl 1 (key.map u8A),.sl 1 (val.map u8A),.int .i64 (exp:Int)]),(13,.bool (decide (ver=1)))]) ?_)) ?_
 ·repeat' (first|exact a0k|refine a0a ⟨?_,?_⟩ ?_)
  all_goals (try first|exact rfl|exact trivial)
  exact ⟨trivial,a0h fun _=>a0n,a0h fun _=>a0n,trivial,trivial⟩
 refine a3f (s1:=⟨[(1,.int .i64 (seq:Int)),(2,.int .i64 (off:Int)),(7,.fp [.int .i64 (kind:Int),.sl 1 (key.map u8A),.sl 1 (val.map u8A),.int .i64 (exp:Int)]),(9,.own 0 0 12)],[some (.arr (hd.map u8A) 5)]⟩) ?_ ?_
 ·refine a0d rfl (fun h1=>?_) (fun h1=>?_)
  ·subst h1
   have hd1:=c6q kind key.length val.length exp
   rw [<- hh] at hd1
   repeat' (first|refine Zs rfl ?_|refine Zc rfl ?_|refine Qa rfl ?_)
   rw [a1s,hkm,a1s,hvm,wrap64 (by omega)]
   refine Cn rfl (a1C X _ _ [UInt8.ofNat (161%256),UInt8.ofNat (kind%256),UInt8.ofNat (key.length%256),UInt8.ofNat (0%256)] val.length 4 (by decide) (by decide) (by simp) rfl) rfl rfl ?_
   have l8:(a1b [UInt8.ofNat (161%256),UInt8.ofNat (kind%256),UInt8.ofNat (key.length%256),UInt8.ofNat (0%256)] val.length 4).length=8:=by rw [a0E];rfl
   have l4:[UInt8.ofNat (161%256),UInt8.ofNat (kind%256),UInt8.ofNat (key.length%256),UInt8.ofNat (0%256)].length=4:=rfl
   generalize a1b [UInt8.ofNat (161%256),UInt8.ofNat (kind%256),UInt8.ofNat (key.length%256),UInt8.ofNat (0%256)] val.length 4=b8 at *
   repeat' (first|refine Zs rfl ?_|refine Zc rfl ?_|refine Qa rfl ?_)
   rw [wrap64 (by omega)]
   refine Cn rfl (a1C X _ _ b8 exp 4 (by decide) (by decide) (by omega) (a0z rfl rfl rfl (by omega) (by rw [List.drop_zero,List.take_of_length_le (by omega)]))) rfl rfl ?_
   rw [hd1]
   repeat' (first|refine Zs rfl ?_|refine Zh ?_)
   rw [l8]
   refine ⟨rfl,a0L 0 [1] (os:=[.arr (hd.map u8A) 5]) (Nat.le_refl _) (Nat.zero_le _) (by simp) (by simp) (by simp [HOk]) rfl rfl ?_ ?_⟩
   ·exact a0a (a0s rfl trivial) (a0a (a0s rfl trivial) (a0a (a0s rfl ⟨trivial,a0h fun _=>a0n,a0h fun _=>a0n,trivial,trivial⟩) (a0a (a0D rfl) a0k)))
   ·exact a0v rfl (a0A 0 (fun i h=>absurd h (Nat.not_lt_zero i)) (a0h fun _=>a0n)) a0N
  have hd1:=c6r h1 kind key.length val.length exp
  rw [<- hh] at hd1
  repeat' (first|refine Zs rfl ?_|refine Zc rfl ?_|refine Qa rfl ?_)
  rw [hkm,a1s,w16,a1s,hvm,wrap64 (by omega)]
  have l3:[UInt8.ofNat (162%256),UInt8.ofNat (key.length%256),UInt8.ofNat (16*kind%256)].length=3:=rfl
  refine Cn rfl (a1C X _ _ [UInt8.ofNat (162%256),UInt8.ofNat (key.length%256),UInt8.ofNat (16*kind%256)] val.length 3 (by decide) (by decide) (by simp) rfl) rfl rfl ?_
  have l6:(a1b [UInt8.ofNat (162%256),UInt8.ofNat (key.length%256),UInt8.ofNat (16*kind%256)] val.length 3).length=6:=by rw [a0E];rfl
  rw [l3]
  generalize a1b [UInt8.ofNat (162%256),UInt8.ofNat (key.length%256),UInt8.ofNat (16*kind%256)] val.length 3=b6 at *
  have l7:(b6++[(0:UInt8)]).length=7:=by simp [l6]
  repeat' (first|refine Zs rfl ?_|refine Zh ?_|refine Qs ?_)
  refine a0o [2,6] [0,1,3,4,5,7] (by exact rfl) ?_
  refine a0C (fuel:=0) [0,1,3,4,5,2,6,7] (by exact rfl) (by kernel_rfl) (by kernel_rfl) ?_
  repeat' ((first|refine Qc rfl rfl rfl ?_|(apply Qe rfl rfl rfl rfl;intro H9));(first|refine Q0 ?_|refine Q3 rfl rfl rfl ?_|refine Q4 rfl rfl rfl rfl rfl ?_|refine QG rfl rfl rfl rfl ?_|refine QR rfl rfl rfl rfl rfl rfl rfl rfl rfl rfl rfl rfl ?_);(exact QY rfl ⟨rfl,rfl⟩))
  rw [wrap64 (by omega)]
  refine a1D rfl rfl rfl ?_
  refine a0V (oid:=some 0) (es:=b6.map u8A) (out:=(b6++[(0:UInt8)]).map u8A) (n:=7) (a0J rfl (by rw [List.length_map,l6])) (rfl) (a0P [(0:UInt8)]) (by rw [List.map_append];rfl) (by rw [List.length_map,l6];rfl) (by show _<=9223372036854775807;omega) (by show _*1<=_;omega) rfl rfl rfl rfl rfl rfl rfl rfl ?_
  refine nx rfl rfl ?_
  generalize b6++[(0:UInt8)]=b7 at *
  skip
  refine a1D rfl rfl rfl ?_
  refine Cn rfl (a1C X _ _ b7 exp 5 (by decide) (by decide) (by omega) (a0z rfl rfl rfl (by omega) (by rw [List.drop_zero,List.take_of_length_le (by omega)]))) rfl rfl ?_
  rw [hd1,l7]
  repeat' (first|((apply Qe rfl rfl rfl rfl;intro H9);(refine Q1 ?_);(exact QY rfl ⟨rfl,rfl⟩))|refine Qk ?_|refine Qw (by kernel_rfl) ?_)
  refine ⟨rfl,a0L 0 [2] (os:=[.arr (hd.map u8A) 5]) (Nat.le_refl _) (Nat.zero_le _) (by simp) (by simp) (by simp [HOk]) rfl rfl ?_ ?_⟩
  ·exact a0a (a0s rfl trivial) (a0a (a0s rfl trivial) (a0a (a0s rfl ⟨trivial,a0h fun _=>a0n,a0h fun _=>a0n,trivial,trivial⟩) (a0a (a0D rfl) a0k)))
  ·exact a0v rfl (a0A 0 (fun i h=>absurd h (Nat.not_lt_zero i)) (a0h fun _=>a0n)) a0N
 repeat' (refine Zc rfl ?_)
 refine a0o [2,5] [0,1,3,4,6] (by exact rfl) ?_
 refine a0C (fuel:=0) [0,1,3,4,2,5,6] (by exact rfl) (by kernel_rfl) (by kernel_rfl) ?_
 repeat' ((first|refine Qc rfl rfl rfl ?_|(apply Qe rfl rfl rfl rfl;intro H9));(first|refine Q3 rfl rfl rfl ?_|refine Q4 rfl rfl rfl rfl rfl ?_);(exact QY rfl ⟨rfl,rfl⟩))
 refine a1D rfl rfl rfl ?_
 refine a0V (oid:=none) (es:=[]) (out:=key.map u8A) (n:=key.length) (rfl) (rfl) (a0P _) (rfl) (by simp) (by show _<=9223372036854775807;omega) (by show _*1<=_;omega) rfl rfl rfl rfl rfl rfl rfl rfl ?_
 refine nx rfl rfl ?_
 skip
 refine a1D rfl rfl rfl ?_
 refine a0V (oid:=some 1) (es:=key.map u8A) (out:=(key++val).map u8A) (n:=key.length+val.length) (a0J rfl (List.length_map _).symm) (rfl) (a0P _) (by rw [List.map_append]) (by rw [List.length_map,List.length_map]) (by show _<=9223372036854775807;omega) (by show _*1<=_;omega) rfl rfl rfl rfl rfl rfl rfl rfl ?_
 refine nx rfl rfl ?_
 have hbl:(key++val).length=key.length+val.length:=by simp
 have hall:(pl++(hd++(key++val))).length<=1073741824:=by simp;omega
 rw [<- hbl]
 generalize key++val=bd at *
 repeat' (first|((apply Qe rfl rfl rfl rfl;intro H9);(refine Q1 ?_);(exact QY rfl ⟨rfl,rfl⟩))|refine Qk ?_|refine Qw (by kernel_rfl) ?_)
 repeat' (first|refine Zs rfl ?_|refine Zc rfl ?_|refine Qa rfl ?_)
 rw [wrap64 (by omega)]
 refine Cn rfl (a1C X _ _ [] seq 8 (by decide) (by decide) (by simp) rfl) rfl rfl ?_
 have l8:(a1b [] seq 8).length=8:=by rw [a0E];rfl
 have l8':([]:List UInt8).length+8=8:=rfl
 rw [l8']
 repeat' (first|refine Zs rfl ?_|refine Qa rfl ?_)
 rw [wrap64 (by omega)]
 refine Cn rfl (a1C X _ _ (a1b [] seq 8) off 4 (by decide) (by decide) (by omega) (a0z rfl rfl rfl (by omega) (by rw [List.drop_zero,List.take_of_length_le (by omega)]))) rfl rfl ?_
 rw [<- hpp,l8]
 repeat' (first|refine Zs rfl ?_|refine Zc rfl ?_|refine Qa rfl ?_)
 refine a0V (oid:=some 4) (es:=pl.map u8A) (out:=(pl++hd).map u8A) (n:=24) (a0J rfl (by rw [List.length_map,hpl])) ((a0z rfl rfl rfl (by omega) (by rw [List.drop_zero,List.take_of_length_le (by omega)]))) (a0P _) (by rw [List.map_append]) (by rw [List.length_map,List.length_map,hpl,hhl]) (by show _<=9223372036854775807;omega) (by show _*1<=_;omega) rfl rfl rfl rfl rfl rfl rfl rfl ?_
 refine nx rfl rfl ?_
 repeat' (first|refine Zs rfl ?_|refine Qa rfl ?_)
 refine a0V (oid:=some 5) (es:=(pl++hd).map u8A) (out:=(pl++(hd++bd)).map u8A) (n:=24+bd.length) (a0J rfl (by rw [List.length_map,List.length_append,hpl,hhl])) ((a0z rfl rfl rfl (by omega) (by rw [List.drop_zero,List.take_of_length_le (by omega)]))) (a0P _) (by simp) (by rw [List.length_map,List.length_map,List.length_append,hpl,hhl]) (by show _<=9223372036854775807;omega) (by show _*1<=_;omega) rfl rfl rfl rfl rfl rfl rfl rfl ?_
 refine nx rfl rfl ?_
 have hal:(pl++(hd++bd)).length=24+bd.length:=by simp;omega
 generalize pl++(hd++bd)=all at *
 have hlt:=a6L (c:=0) (by decide) all
 repeat' (first|refine Zs rfl ?_|refine Zc rfl ?_|refine Qa rfl ?_)
 refine Cn rfl (a1z (E:=E0 X) (fun X=>c2Q X all hall) rfl (Bor.sl (a2c _) (a0z rfl rfl rfl (by omega) (by rw [List.drop_zero,List.take_of_length_le (by omega)])) .nil)) rfl rfl ?_
 repeat' (first|refine Zs rfl ?_|refine Qa rfl ?_)
 rw [wrap64 (by omega)]
 refine Cn rfl (a1C X _ _ hd (a5J 0 all) 4 (by decide) (by decide) (by omega) (a0z rfl rfl rfl (by omega) (by rw [List.drop_zero,List.take_of_length_le (by omega)]))) rfl rfl ?_
 have l16:(a1b hd (a5J 0 all) 4).length=16:=by rw [a0E,hhl]
 rw [hhl]
 generalize a1b hd (a5J 0 all) 4=h16 at *
 repeat' (first|refine Zs rfl ?_|refine Qa rfl ?_)
 refine a0V (oid:=some 7) (es:=h16.map u8A) (out:=(h16++bd).map u8A) (n:=16+bd.length) (a0J rfl (by rw [List.length_map,l16])) ((a0z rfl rfl rfl (by omega) (by rw [List.drop_zero,List.take_of_length_le (by omega)]))) (a0P _) (by rw [List.map_append]) (by rw [List.length_map,List.length_map,l16]) (by show _<=9223372036854775807;omega) (by show _*1<=_;omega) rfl rfl rfl rfl rfl rfl rfl rfl ?_
 refine nx rfl rfl ?_
 repeat' (first|refine Zs rfl ?_|refine Zh ?_|refine Qs ?_)
 refine a0c ⟨_,rfl,8,_,rfl,?_,rfl⟩
 rw [List.length_map,List.length_append,l16]
deriving instance DecidableEq for Rec
theorem b4O{b:List UInt8}{k:Nat}(h:b.length≠64):a7V b k=none:=by
 have e:a2M 1 0 k b=none:=by
  unfold a2M
  rw [if_neg fun hh=>h hh.1]
 unfold a7V
 rw [e]
theorem c1y{L:Nat}{v:Dv}(hv:Lv L v)(l:La)(slot:Int):a3s v l slot=a2O v.image l slot:=by
 have hc:=fun i=>a4S hv.inv i
 have h64:=hv.inv.load.1
 unfold a3s a2O
 by_cases hs:a1f l=true/\0<=slot/\slot<l.regs
 ·have hm:=a2Z hs.1 hs.2.1 hs.2.2
  have e1:a1e l slot=74+slot*l.rs:=if_pos hs
  rw [e1,if_pos hs,hc,hv.dead]
  simp only [Bool.false_eq_true,if_false]
  obtain ⟨K,hK⟩:=Int.eq_ofNat_of_zero_le (show 0<=74+slot*l.rs by omega)
  rw [hK,Int.toNat_natCast]
  by_cases hin:K*64+64<=v.image.length
  ·rw [if_neg (show ¬ ((K:Int)<0\/((v.image.length / 64:Nat):Int)<=(K:Int)) by omega)]
   simp only [ne_eq,not_true_eq_false,if_false]
   have e2:a5c v.image (K:Int)=(v.image.drop (K*64)).take 64:=by
    unfold a5c
    rw [if_neg (by omega),Int.toNat_natCast]
   rw [e2]
  rw [if_pos (show ((K:Int)<0\/((v.image.length / 64:Nat):Int)<=(K:Int)) by omega)]
  have e2:a5c v.image (K:Int)=[]:=by
   unfold a5c
   rw [if_pos (by omega)]
  rw [if_pos (by decide),e2,b4O (by decide)]
  rfl
 have e1:a1e l slot=-1:=if_neg hs
 rw [e1,if_neg hs,hc,hv.dead]
 simp only [Bool.false_eq_true,if_false]
 rw [if_pos (show ((-1:Int)<0\/_) from .inl (by decide)),if_pos (by decide)]
end Go.Abs
