/- LogSector: the walk. Joined texts, each with what its own name promises; no condition beyond those stated. -/
import Derived.Test.YtkmmdlicifiknaaGreatDoorWE
import Derived.Test.YtkmmdlicifiknaaGreatDoorWC
import Derived.Test.YtkmmdlicifiknaaGreatDoorWF
import Derived.KernelRfl
import Derived.Lib.AppendZerosOnto
set_option maxHeartbeats 0
set_option maxRecDepth 100000
set_option linter.unusedVariables false
set_option linter.unusedSimpArgs false
namespace Go.Abs
theorem b8v{mig idx:Int}(h1:1<=mig)(h2:mig<=9223372036854775807)(h3:0<=idx)(h4:idx<36) :
  IntKind.i64.wrap (IntKind.i64.wrap (2+IntKind.i64.wrap (IntKind.i64.wrap (1 - mig.tmod 2)*36))+idx)=2+(mig+1)%2*36+idx:=by
 have h5:mig.tmod 2=mig%2:=Int.tmod_eq_emod_of_nonneg (by omega)
 have h6:IntKind.i64.wrap (1 - mig%2)=(mig+1)%2:=by rw [a0p (by omega) (by omega)];omega
 have h7:0<=(mig+1)%2/\(mig+1)%2<2:=by omega
 rw [h5,h6]
 generalize (mig+1)%2=z at *
 have h8:IntKind.i64.wrap (z*36)=z*36:=a0p (by omega) (by omega)
 rw [h8]
 have h9:IntKind.i64.wrap (2+z*36)=2+z*36:=a0p (by omega) (by omega)
 rw [h9]
 exact a0p (by omega) (by omega)
attribute [local irreducible] a0B a1G AWp Nx awM
theorem b1t(X:Nat->Prop)(mig idx:Int)(hm:mig<=9223372036854775807):a0b (E0 X) 40 [.int .i64 mig,.int .i64 idx] [] (fun r H'=>r=.int .i64 (a7q mig idx)/\H'=[]):=by
 refine Z0 Proofs.Tryz.func40 rfl Proofs.Tryz.ntmps40 (by kernel_rfl) rfl ?_
 repeat' (first|refine Zs rfl ?_|refine Zc rfl ?_|refine Zh ?_|refine Qs ?_|((fail_if_success refine QV rfl ?_);refine Qy rfl rfl (fun _=>?_) (fun _=>?_)))
 ·rename_i h1
  refine a0c ⟨_,rfl,?_,?_⟩
  ·simp [a7q,h1]<;>rfl
  ·rfl
 ·rename_i h1 h2
  refine a0c ⟨_,rfl,?_,?_⟩
  ·simp [a7q,h2]<;>rfl
  ·rfl
 rename_i h1 h2
 refine a0d rfl (fun h3=>?_) (fun h3=>?_)
 ·repeat' (first|refine Zs rfl ?_|refine Zc rfl ?_|refine Zh ?_|refine Qs ?_)
  refine a0c ⟨_,rfl,?_,?_⟩
  ·simp [a7q,h3]<;>rfl
  ·rfl
 skip
 repeat' (first|refine Zs rfl ?_|refine Zc rfl ?_|refine Zh ?_|refine Qs ?_)
 refine a0c ⟨_,rfl,?_,?_⟩
 ·refine congrArg (AV.int .i64) ?_
  rw [a7q,if_neg (by omega)]
  exact b8v (by omega) hm (by omega) (by omega)
 ·rfl
deriving instance DecidableEq for La
deriving instance DecidableEq for Pl
structure En where
 seq:Int
 off:Int
 len:Int
 exp:Int
 hit:Bool
inductive Pc where
 | empty
 | used (k:List UInt8) (e:En)
 | gone
abbrev Key:=List UInt8
section
variable(hm:Key->Nat)
def b5H:Option Pc->Bool
 | some .empty=>false
 | some _=>true
 | none=>false
structure a6o(l:List Pc):Prop where
 uniq:∀(i j:Nat) (k:Key) (e e':En),l[i]?=some (.used k e)->l[j]?=some (.used k e')->i=j
 rch:∀(i:Nat) (k:Key) (e:En),l[i]?=some (.used k e)->∃d,d<l.length/\(hm k+d)%l.length=i/\∀d',d'<d->b5H l[(hm k+d')%l.length]?=true
def look(l:List Pc)(k:Key):Option En:=l.findSome? fun
 | .used k' e=>if k'=k then some e else none
 | _=>none
theorem a1W{l:List Pc}{k:Key}:look l k=none ↔ ∀(i:Nat) (e:En),l[i]?≠some (.used k e):=by
 unfold look
 rw [List.findSome?_eq_none_iff]
 constructor
 ·intro h i e hi
  have:=h _ (List.mem_of_getElem? hi)
  simp at this
 intro h x hx
 obtain ⟨i,hi,rfl⟩:=List.getElem_of_mem hx
 split
 ·rename_i k' e' he
  split
  ·rename_i hk
   subst hk
   exact absurd (by rw [List.getElem?_eq_getElem hi,he]) (h i e')
  ·rfl
 ·rfl
variable{hm}
theorem a1L{l:List Pc}(h:a6o hm l){k:Key}{e:En}:look l k=some e ↔ ∃i:Nat,l[i]?=some (.used k e):=by
 constructor
 ·intro hl
  unfold look at hl
  obtain ⟨x,hx,he⟩:=List.exists_of_findSome?_eq_some hl
  obtain ⟨i,hi,rfl⟩:=List.getElem_of_mem hx
  split at he
  ·rename_i k' e' hg
   split at he
   ·rename_i hk
    cases he
    subst hk
    exact ⟨i,by rw [List.getElem?_eq_getElem hi,hg]⟩
   ·cases he
  ·cases he
 rintro ⟨i,hi⟩
 cases hl:look l k with
 | none=>exact absurd hi (a1W.1 hl i e)
 | some e' =>
  unfold look at hl
  obtain ⟨x,hx,he⟩:=List.exists_of_findSome?_eq_some hl
  obtain ⟨j,hj,rfl⟩:=List.getElem_of_mem hx
  split at he
  ·rename_i k' e2 hg
   split at he
   ·rename_i hk
    cases he
    subst hk
    have hj2:l[j]?=some (.used k' e'):=by rw [List.getElem?_eq_getElem hj,hg]
    have:=h.uniq i j k' e e' hi hj2
    subst this
    rw [hi] at hj2
    cases hj2
    rfl
   ·cases he
  ·cases he
structure b1L(l:List Pc)(k:Key)(d:Nat):Prop where
 ne:∀d',d'<d->b5H l[(hm k+d')%l.length]?=true
 no:∀d',d'<d->∀e,l[(hm k+d')%l.length]?≠some (.used k e)
theorem b1L.zero{l:List Pc}{k:Key}:b1L (hm:=hm) l k 0:=⟨fun _ h=>absurd h (Nat.not_lt_zero _),fun _ h=>absurd h (Nat.not_lt_zero _)⟩
theorem b1L.succ{l:List Pc}{k:Key}{d:Nat}(h:b1L (hm:=hm) l k d)(h1:b5H l[(hm k+d)%l.length]?=true)(h2:∀e,l[(hm k+d)%l.length]?≠some (.used k e)):b1L (hm:=hm) l k (d+1) :=
 ⟨fun d' hd=>by
  rcases Nat.lt_succ_iff_lt_or_eq.1 hd with h3|rfl
  ·exact h.ne d' h3
  ·exact h1,fun d' hd=>by
  rcases Nat.lt_succ_iff_lt_or_eq.1 hd with h3|rfl
  ·exact h.no d' h3
  ·exact h2⟩
theorem a7J(a:Nat){i n:Nat}(h:i<n):(a+(i+n - a%n)%n)%n=i:=by
 have h1:=Nat.mod_lt a (show 0<n by omega)
 have h2:=Nat.mod_add_div a n
 rw [Nat.add_mod_mod]
 have h3:a+(i+n - a%n)=i+n*(a / n+1):=by rw [Nat.mul_succ];omega
 rw [h3,Nat.add_mul_mod_self_left,Nat.mod_eq_of_lt h]
theorem b1L.bound{l:List Pc}{k:Key}{d i:Nat}(h:b1L (hm:=hm) l k d)(hi:l[i]?=some .empty):d<l.length:=by
 have hil:i<l.length:=(List.getElem?_eq_some_iff.1 hi).1
 refine Classical.byContradiction fun hd=>?_
 have hn:0<l.length:=by omega
 have key:=a7J (hm k) hil
 have h2:=h.ne ((i+l.length - hm k%l.length)%l.length) (by have:=Nat.mod_lt (i+l.length - hm k%l.length) hn;omega)
 rw [key,hi] at h2
 cases h2
theorem b1L.absent{l:List Pc}{k:Key}{d:Nat}(h:b1L (hm:=hm) l k d)(ho:a6o hm l)(he:l[(hm k+d)%l.length]?=some .empty)(hd:d<l.length):look l k=none:=by
 rw [a1W]
 intro i e hi
 obtain ⟨dd,h1,h2,h3⟩:=ho.rch i k e hi
 rcases Nat.lt_trichotomy dd d with h4|h4|h4
 ·exact h.no dd h4 e (by rw [h2];exact hi)
 ·subst h4;rw [h2,hi] at he;cases he
 have:=h3 d h4
 rw [he] at this
 cases this
theorem a1y{l:List Pc}{i j:Nat}{x y:Pc}(h:(l.set i x)[j]?=some y):(i=j/\i<l.length/\x=y)\/(i≠j/\l[j]?=some y):=by
 by_cases hij:i=j
 ·subst hij
  by_cases hl:i<l.length
  ·rw [List.getElem?_set_self hl] at h
   exact .inl ⟨rfl,hl,Option.some.inj h⟩
  ·rw [List.getElem?_eq_none (by rw [List.length_set];omega)] at h
   cases h
 ·rw [List.getElem?_set_ne hij] at h
  exact .inr ⟨hij,h⟩
theorem a6a{l:List Pc}{i j:Nat}{x:Pc}(hx:b5H (some x)=true)(h:b5H l[j]?=true):b5H (l.set i x)[j]?=true:=by
 by_cases hij:i=j
 ·subst hij
  by_cases hl:i<l.length
  ·rw [List.getElem?_set_self hl];exact hx
  ·rw [List.getElem?_eq_none (by omega)] at h;cases h
 ·rw [List.getElem?_set_ne hij];exact h
theorem a9X{l:List Pc}(ho:a6o hm l){i:Nat}{x:Pc}(hok:a6o hm (l.set i x)){k':Key}(hx:∀e,x≠.used k' e)(hi:∀e,l[i]?≠some (.used k' e)):look (l.set i x) k'=look l k':=by
 cases hl:look l k' with
 | none =>
  rw [a1W] at hl ⊢
  intro j ej hj
  rcases a1y hj with ⟨_,_,h3⟩|⟨_,h3⟩
  ·exact hx ej h3
  ·exact hl j ej h3
 | some f =>
  obtain ⟨j,hj⟩:=(a1L ho).1 hl
  refine (a1L hok).2 ⟨j,?_⟩
  rw [List.getElem?_set_ne]
  ·exact hj
  ·intro hij;subst hij;exact hi f hj
theorem c4E{l:List Pc}(ho:a6o hm l){i:Nat}{k:Key}{e e':En}(hi:l[i]?=some (.used k e)):a6o hm (l.set i (.used k e'))/\∀k',look (l.set i (.used k e')) k'=if k'=k then some e' else look l k':=by
 have hil:i<l.length:=(List.getElem?_eq_some_iff.1 hi).1
 have g:∀a q e1,(l.set i (Pc.used k e'))[a]?=some (Pc.used q e1)->∃e2,l[a]?=some (Pc.used q e2):=fun a q e1 h=>by
  rcases a1y h with ⟨rfl,_,h3⟩|⟨_,h3⟩
  ·cases h3;exact ⟨e,hi⟩
  ·exact ⟨e1,h3⟩
 have hok:a6o hm (l.set i (.used k e')):=by
  refine ⟨fun a b q e1 e2 h1 h2=>?_,fun a q e1 h1=>?_⟩
  ·obtain ⟨f1,g1⟩:=g a q e1 h1
   obtain ⟨f2,g2⟩:=g b q e2 h2
   exact ho.uniq a b q f1 f2 g1 g2
  obtain ⟨e2,h2⟩:=g a q e1 h1
  obtain ⟨d,d1,d2,d3⟩:=ho.rch a q e2 h2
  rw [List.length_set]
  exact ⟨d,d1,d2,fun d' hd=>a6a rfl (d3 d' hd)⟩
 refine ⟨hok,fun k'=>?_⟩
 split
 ·rename_i hk
  subst hk
  exact (a1L hok).2 ⟨i,by rw [List.getElem?_set_self hil]⟩
 ·rename_i hk
  exact a9X ho hok (fun f hf=>by cases hf;exact hk rfl) (fun f hf=>by rw [hi] at hf;cases hf;exact hk rfl)
theorem c4D{l:List Pc}(ho:a6o hm l){k:Key}{d:Nat}{e':En}(hs:b1L (hm:=hm) l k d)(hd:d<l.length)(hi:l[(hm k+d)%l.length]?=some .empty) :
  a6o hm (l.set ((hm k+d)%l.length) (.used k e'))/\∀k',look (l.set ((hm k+d)%l.length) (.used k e')) k'=if k'=k then some e' else look l k':=by
 have habs:=hs.absent ho hi hd
 have hil:(hm k+d)%l.length<l.length:=(List.getElem?_eq_some_iff.1 hi).1
 generalize hI:(hm k+d)%l.length=i at *
 have hok:a6o hm (l.set i (.used k e')):=by
  refine ⟨fun a b q e1 e2 h1 h2=>?_,fun a q e1 h1=>?_⟩
  ·rcases a1y h1 with ⟨ha,_,h3⟩|⟨_,h3⟩
   ·cases h3
    rcases a1y h2 with ⟨hb,_,_⟩|⟨_,h5⟩
    ·exact ha.symm.trans hb
    ·exact absurd h5 (a1W.1 habs b e2)
   rcases a1y h2 with ⟨_,_,h5⟩|⟨_,h5⟩
   ·cases h5;exact absurd h3 (a1W.1 habs a e1)
   ·exact ho.uniq a b q e1 e2 h3 h5
  rw [List.length_set]
  rcases a1y h1 with ⟨ha,_,h3⟩|⟨_,h3⟩
  ·cases h3
   exact ⟨d,hd,by rw [hI];exact ha,fun d' hd'=>a6a rfl (hs.ne d' hd')⟩
  ·obtain ⟨dd,d1,d2,d3⟩:=ho.rch a q e1 h3
   exact ⟨dd,d1,d2,fun d' hd'=>a6a rfl (d3 d' hd')⟩
 refine ⟨hok,fun k'=>?_⟩
 split
 ·rename_i hk
  subst hk
  exact (a1L hok).2 ⟨i,by rw [List.getElem?_set_self hil]⟩
 ·rename_i hk
  exact a9X ho hok (fun f hf=>by cases hf;exact hk rfl) (fun f hf=>by rw [hi] at hf;cases hf)
theorem b7q{l:List Pc}(ho:a6o hm l){i:Nat}{k:Key}{e:En}(hi:l[i]?=some (.used k e)):a6o hm (l.set i .gone)/\∀k',look (l.set i .gone) k'=if k'=k then none else look l k':=by
 have g:∀a q e1,(l.set i Pc.gone)[a]?=some (Pc.used q e1)->a≠i/\l[a]?=some (Pc.used q e1):=fun a q e1 h=>by
  rcases a1y h with ⟨_,_,h3⟩|⟨h2,h3⟩
  ·cases h3
  ·exact ⟨fun e=>h2 e.symm,h3⟩
 have hok:a6o hm (l.set i .gone):=by
  refine ⟨fun a b q e1 e2 h1 h2=>ho.uniq a b q e1 e2 (g a q e1 h1).2 (g b q e2 h2).2,fun a q e1 h1=>?_⟩
  obtain ⟨d,d1,d2,d3⟩:=ho.rch a q e1 (g a q e1 h1).2
  rw [List.length_set]
  exact ⟨d,d1,d2,fun d' hd=>a6a rfl (d3 d' hd)⟩
 refine ⟨hok,fun k'=>?_⟩
 split
 ·rename_i hk
  subst hk
  rw [a1W]
  intro a e1 h1
  obtain ⟨h2,h3⟩:=g a k' e1 h1
  exact h2 (ho.uniq a i k' e1 e h3 hi)
 ·rename_i hk
  exact a9X ho hok (fun f hf=>by cases hf) (fun f hf=>by rw [hi] at hf;cases hf;exact hk rfl)
end
theorem a1x{a x y n:Nat}(hx:x<n)(hy:y<n)(h:(a+x)%n=(a+y)%n):x=y:=by
 have h1:=Nat.mod_add_div (a+x) n
 have h2:=Nat.mod_add_div (a+y) n
 rw [h] at h1
 have h3:(a+x) / n=(a+y) / n\/(a+x) / n<(a+y) / n\/(a+y) / n<(a+x) / n:=by omega
 rcases h3 with h3|h3|h3
 ·rw [h3] at h1;omega
 ·have h4:n*((a+x) / n+1)<=n*((a+y) / n):=Nat.mul_le_mul_left n h3
  rw [Nat.mul_succ] at h4
  omega
 have h4:n*((a+y) / n+1)<=n*((a+x) / n):=Nat.mul_le_mul_left n h3
 rw [Nat.mul_succ] at h4
 omega
section
variable{hm:Key->Nat}
structure Hol(hm:Key->Nat)(l:List Pc)(i j:Nat)(M:Key->Option En):Prop where
 il:i<l.length
 j0:0<j
 jn:j<l.length
 nei:b5H l[i]?=true
 run:∀t,t<j->b5H l[(i+t)%l.length]?=true
 uniq:∀(a b:Nat) (k:Key) (e e':En),a≠i->b≠i->l[a]?=some (.used k e)->l[b]?=some (.used k e')->a=b
 rch:∀(a:Nat) (k:Key) (e:En),a≠i->l[a]?=some (.used k e)->∃d,d<l.length/\(hm k+d)%l.length=a/\(∀d',d'<d->b5H l[(hm k+d')%l.length]?=true) /\
  ∀d',d'<d->(hm k+d')%l.length=i->∃t,j<=t/\t<l.length/\(i+t)%l.length=a
 map:∀k,(∀e,M k=some e ↔ ∃a,a≠i/\l[a]?=some (.used k e))
theorem c2I{i a n:Nat}(hi:i<n)(ha:a<n)(h:a≠i):∃t,1<=t/\t<n/\(i+t)%n=a:=by
 refine ⟨(a+n - i%n)%n,?_,Nat.mod_lt _ (by omega),a7J i ha⟩
 refine Classical.byContradiction fun h0=>?_
 have h1:(a+n - i%n)%n=0:=by omega
 have h2:=a7J i ha
 rw [h1,Nat.add_zero,Nat.mod_eq_of_lt hi] at h2
 exact h h2.symm
theorem Hol.start{l:List Pc}(ho:a6o hm l){i z:Nat}{k:Key}{e:En}(hi:l[i]?=some (.used k e))(hz:l[z]?=some .empty):Hol hm l i 1 (fun k'=>if k'=k then none else look l k'):=by
 have hil:i<l.length:=(List.getElem?_eq_some_iff.1 hi).1
 have hzl:z<l.length:=(List.getElem?_eq_some_iff.1 hz).1
 have hiz:i≠z:=fun h=>by subst h;rw [hi] at hz;cases hz
 refine ⟨hil,Nat.one_pos,by omega,by rw [hi];rfl,fun t ht=>?_,fun a b q e1 e2 _ _ h1 h2=>ho.uniq a b q e1 e2 h1 h2,fun a q e1 ha h1=>?_,fun q e1=>?_⟩
 ·have:t=0:=by omega
  subst this
  rw [Nat.add_zero,Nat.mod_eq_of_lt hil,hi];rfl
 ·obtain ⟨d,d1,d2,d3⟩:=ho.rch a q e1 h1
  exact ⟨d,d1,d2,d3,fun _ _ _=>c2I hil (List.getElem?_eq_some_iff.1 h1).1 ha⟩
 constructor
 ·intro h
  split at h
  ·cases h
  rename_i hq
  obtain ⟨a,ha⟩:=(a1L ho).1 h
  exact ⟨a,fun e=>by subst e;rw [hi] at ha;cases ha;exact hq rfl,ha⟩
 rintro ⟨a,ha,h1⟩
 rw [if_neg (fun e=>by subst e;exact ha (ho.uniq a i q e1 _ h1 hi))]
 exact (a1L ho).2 ⟨a,h1⟩
theorem Hol.keep{l:List Pc}{i j z:Nat}{M:Key->Option En}(h:Hol hm l i j M)(hz:l[z]?=some .empty){q:Key}{e:En}(hq:l[(i+j)%l.length]?=some (.used q e)){d:Nat}(hd:d<l.length)(hdk:(hm q+d)%l.length=(i+j)%l.length)(hlt:d<j):Hol hm l i (j+1) M:=by
 have hzl:z<l.length:=(List.getElem?_eq_some_iff.1 hz).1
 have hjn:=h.jn
 have hij:(i+j)%l.length≠i:=fun e=>by
  have:(i+j)%l.length=(i+0)%l.length:=by rw [e,Nat.add_zero,Nat.mod_eq_of_lt h.il]
  have:=a1x hjn (by omega) this
  have:=h.j0
  omega
 have hrun:∀t,t<j+1->b5H l[(i+t)%l.length]?=true:=fun t ht=>by
  rcases Nat.lt_succ_iff_lt_or_eq.1 ht with h1|rfl
  ·exact h.run t h1
  ·rw [hq];rfl
 have hj1:j+1<l.length:=by
  refine Classical.byContradiction fun hge=>?_
  have hjl:j+1=l.length:=by omega
  have h2:=hrun ((z+l.length - i%l.length)%l.length) (by rw [hjl];exact Nat.mod_lt _ (by omega))
  rw [a7J i hzl,hz] at h2
  cases h2
 refine ⟨h.il,Nat.succ_pos j,hj1,h.nei,hrun,h.uniq,fun a k e1 ha h1=>?_,h.map⟩
 obtain ⟨dd,d1,d2,d3,d4⟩:=h.rch a k e1 ha h1
 refine ⟨dd,d1,d2,d3,fun d' hd' hi'=>?_⟩
 obtain ⟨t,t1,t2,t3⟩:=d4 d' hd' hi'
 refine ⟨t,?_,t2,t3⟩
 refine Classical.byContradiction fun hlt2=>?_
 have htj:t=j:=by omega
 subst htj
 have hqa:k=q:=by rw [<- t3,hq] at h1;cases h1;rfl
 subst hqa
 have hdd:dd=d:=a1x d1 hd (by rw [d2,hdk,t3])
 subst hdd
 -- from the hole to this place there are t steps, and the whole way has fewer
 have h5:(hm k+(d'+(dd - d')))%l.length=(i+(dd - d'))%l.length:=by
  rw [<- Nat.add_assoc,Nat.add_mod,hi',<- Nat.mod_eq_of_lt h.il,<- Nat.add_mod,Nat.mod_eq_of_lt h.il]
 have h6:d'+(dd - d')=dd:=by omega
 rw [h6,hdk] at h5
 have:=a1x (by omega) (by omega) h5
 omega
theorem c2F{a b x n:Nat}(h:a%n=b):(a+x)%n=(b+x)%n:=by
 subst h
 rw [Nat.add_mod,<- Nat.add_mod,Nat.mod_add_mod]
theorem Hol.move{l:List Pc}{i j z:Nat}{M:Key->Option En}(h:Hol hm l i j M)(hz:l[z]?=some .empty){q:Key}{e:En}(hq:l[(i+j)%l.length]?=some (.used q e)){d:Nat}(hd:d<l.length)(hdk:(hm q+d)%l.length=(i+j)%l.length)(hge:j<=d):Hol hm (l.set i (.used q e)) ((i+j)%l.length) 1 M:=by
 have hzl:z<l.length:=(List.getElem?_eq_some_iff.1 hz).1
 have hjn:=h.jn
 have hil:=h.il
 have hkl:(i+j)%l.length<l.length:=Nat.mod_lt _ (by omega)
 have hij:(i+j)%l.length≠i:=fun e=>by
  have h1:(i+j)%l.length=(i+0)%l.length:=by rw [e,Nat.add_zero,Nat.mod_eq_of_lt hil]
  have:=a1x hjn (by omega) h1
  have:=h.j0
  omega
 have hkz:(i+j)%l.length≠z:=fun e=>by rw [e,hz] at hq;cases hq
 -- the way of q goes over the hole
 have hback:(hm q+(d - j))%l.length=i:=by
  have h1:(hm q+(d - j)+j)%l.length=(i+j)%l.length:=by
   rw [Nat.add_assoc,Nat.sub_add_cancel hge];exact hdk
  have h2:((hm q+(d - j))%l.length+j)%l.length=(i+j)%l.length:=by
   rw [Nat.mod_add_mod];exact h1
  have h3:=Nat.mod_lt (hm q+(d - j)) (show 0<l.length by omega)
  rw [Nat.add_comm _ j,Nat.add_comm i j] at h2
  exact a1x h3 hil h2
 have hne:∀p,b5H l[p]?=true->b5H (l.set i (.used q e))[p]?=true:=fun p hp=>a6a rfl hp
 have g:∀a k e1,a≠(i+j)%l.length->(l.set i (.used q e))[a]?=some (.used k e1)->(a=i/\k=q/\e1=e)\/(a≠i/\l[a]?=some (.used k e1)):=fun a k e1 ha h1=>by
  rcases a1y h1 with ⟨h2,_,h3⟩|⟨h2,h3⟩
  ·cases h3;exact .inl ⟨h2.symm,rfl,rfl⟩
  ·exact .inr ⟨fun e=>h2 e.symm,h3⟩
 refine ⟨by rw [List.length_set];exact hkl,Nat.one_pos,by rw [List.length_set];omega,?_,fun t ht=>?_,fun a b k e1 e2 ha hb h1 h2=>?_,fun a k e1 ha h1=>?_,fun k e1=>?_⟩
 ·exact hne _ (by rw [hq];rfl)
 ·have:t=0:=by omega
  subst this
  rw [List.length_set,Nat.add_zero,Nat.mod_mod]
  exact hne _ (by rw [hq];rfl)
 ·rcases g a k e1 ha h1 with ⟨a1,a2,_⟩|⟨a1,a2⟩<;>rcases g b k e2 hb h2 with ⟨b1,b2,_⟩|⟨b1,b2⟩
  ·rw [a1,b1]
  ·subst a2;exact absurd (h.uniq b _ k e2 e b1 hij b2 hq) hb
  ·subst b2;exact absurd (h.uniq a _ k e1 e a1 hij a2 hq) ha
  ·exact h.uniq a b k e1 e2 a1 b1 a2 b2
 ·rw [List.length_set]
  have hal:a<l.length:=by have:=(List.getElem?_eq_some_iff.1 h1).1;rwa [List.length_set] at this
  rcases g a k e1 ha h1 with ⟨a1,a2,a3⟩|⟨a1,a2⟩
  ·subst a1 a2 a3
   obtain ⟨dd,d1,d2,d3,_⟩:=h.rch _ k e1 hij hq
   have hdd:dd=d:=a1x d1 hd (by rw [d2,hdk])
   subst hdd
   refine ⟨dd - j,by omega,hback,fun d' hd'=>hne _ (d3 d' (by omega)),fun d' hd' hi'=>?_⟩
   have:=a1x (by omega) hd (hi'.trans hdk.symm)
   omega
  ·obtain ⟨dd,d1,d2,d3,_⟩:=h.rch a k e1 a1 a2
   exact ⟨dd,d1,d2,fun d' hd'=>hne _ (d3 d' hd'),fun _ _ _=>c2I hkl hal ha⟩
 rw [h.map k e1]
 constructor
 ·rintro ⟨a,ha,h1⟩
  by_cases hak:a=(i+j)%l.length
  ·subst hak
   rw [hq] at h1
   cases h1
   exact ⟨i,fun e=>hij e.symm,by rw [List.getElem?_set_self hil]⟩
  ·exact ⟨a,hak,by rw [List.getElem?_set_ne (fun e=>ha e.symm)];exact h1⟩
 rintro ⟨a,ha,h1⟩
 rcases g a k e1 ha h1 with ⟨a1,a2,a3⟩|⟨a1,a2⟩
 ·subst a2 a3
  exact ⟨_,hij,hq⟩
 ·exact ⟨a,a1,a2⟩
theorem Hol.done{l:List Pc}{i j:Nat}{M:Key->Option En}(h:Hol hm l i j M)(hk:l[(i+j)%l.length]?=some .empty):a6o hm (l.set i .empty)/\∀k,look (l.set i .empty) k=M k:=by
 have hjn:=h.jn
 have hil:=h.il
 have hij:(i+j)%l.length≠i:=fun e=>by
  have h1:(i+j)%l.length=(i+0)%l.length:=by rw [e,Nat.add_zero,Nat.mod_eq_of_lt hil]
  have:=a1x hjn (by omega) h1
  have:=h.j0
  omega
 have g:∀a k e1,(l.set i Pc.empty)[a]?=some (Pc.used k e1)->a≠i/\l[a]?=some (Pc.used k e1):=fun a k e1 h1=>by
  rcases a1y h1 with ⟨_,_,h3⟩|⟨h2,h3⟩
  ·cases h3
  ·exact ⟨fun e=>h2 e.symm,h3⟩
 have hok:a6o hm (l.set i .empty):=by
  refine ⟨fun a b k e1 e2 h1 h2=>?_,fun a k e1 h1=>?_⟩
  ·obtain ⟨a1,a2⟩:=g a k e1 h1
   obtain ⟨b1,b2⟩:=g b k e2 h2
   exact h.uniq a b k e1 e2 a1 b1 a2 b2
  obtain ⟨a1,a2⟩:=g a k e1 h1
  obtain ⟨d,d1,d2,d3,d4⟩:=h.rch a k e1 a1 a2
  rw [List.length_set]
  refine ⟨d,d1,d2,fun d' hd'=>?_⟩
  by_cases hi':(hm k+d')%l.length=i
  ·exfalso
   obtain ⟨t,t1,t2,t3⟩:=d4 d' hd' hi'
   have h5:(i+(d - d'))%l.length=(i+t)%l.length:=by
    rw [t3,<- d2,<- c2F (x:=d - d') hi',Nat.add_assoc]
    congr 2
    omega
   have h6:=a1x (by omega) t2 h5
   rcases Nat.lt_or_ge j t with h7|h7
   ·have h8:=d3 (d'+j) (by omega)
    rw [<- Nat.add_assoc,c2F hi',hk] at h8
    cases h8
   have:t=j:=by omega
   subst this
   rw [t3,a2] at hk
   cases hk
  ·rw [List.getElem?_set_ne (fun e=>hi' e.symm)]
   exact d3 d' hd'
 refine ⟨hok,fun k=>?_⟩
 cases hM:M k with
 | none =>
  rw [a1W]
  intro a e1 h1
  obtain ⟨a1,a2⟩:=g a k e1 h1
  rw [(h.map k e1).2 ⟨a,a1,a2⟩] at hM
  cases hM
 | some e1 =>
  obtain ⟨a,a1,a2⟩:=(h.map k e1).1 hM
  exact (a1L hok).2 ⟨a,by rw [List.getElem?_set_ne (fun e=>a1 e.symm)];exact a2⟩
end
def isU:Pc->Bool
 | .used _ _=>true
 | _=>false
def a5t(l:List Pc):Nat:=l.countP isU
theorem a5R{l:List Pc}{i:Nat}{x y:Pc}(h:l[i]?=some y):a5t (l.set i x)+(if isU y then 1 else 0)=a5t l+(if isU x then 1 else 0):=by
 unfold a5t
 induction l generalizing i with
 | nil=>simp at h
 | cons a l ih =>
  cases i with
  | zero =>
   simp at h
   subst h
   simp only [List.set_cons_zero,List.countP_cons]
   omega
  | succ i =>
   have:=ih (i:=i) (by simpa using h)
   simp only [List.set_cons_succ,List.countP_cons]
   omega
theorem a5S{l:List Pc}(h:a5t l=0)(k:Key):look l k=none:=by
 rw [a1W]
 intro i e hi
 unfold a5t at h
 have:=List.countP_eq_zero.1 h _ (List.mem_of_getElem? hi)
 exact this rfl
theorem c0f{l:List Pc}(h:0<a5t l):∃(i:Nat) (k:Key) (e:En),l[i]?=some (Pc.used k e):=by
 obtain ⟨x,hx,hu⟩:=List.countP_pos_iff.1 h
 obtain ⟨i,hi,rfl⟩:=List.getElem_of_mem hx
 cases hg:l[i] with
 | used k e=>exact ⟨i,k,e,by rw [List.getElem?_eq_getElem hi,hg]⟩
 | empty=>rw [hg] at hu;cases hu
 | gone=>rw [hg] at hu;cases hu
theorem b6O{l:List Pc}(h:a5t l<l.length)(hg:∀i:Nat,l[i]?≠some .gone):∃z:Nat,l[z]?=some .empty:=by
 refine Classical.byContradiction fun hn=>?_
 have hall:l.countP isU=l.length:=List.countP_eq_length.2 fun x hx=>by
  obtain ⟨i,hi,rfl⟩:=List.getElem_of_mem hx
  cases hx2:l[i] with
  | used k e=>rfl
  | empty=>exact absurd ⟨i,by rw [List.getElem?_eq_getElem hi,hx2]⟩ hn
  | gone=>exact absurd (by rw [List.getElem?_eq_getElem hi,hx2]) (hg i)
 unfold a5t at h
 omega
theorem b6v{l:List Pc}{i:Nat}{y x:Pc}(hi:l[i]?=some y)(hy:y≠.empty)(hz:∃z:Nat,l[z]?=some .empty):∃z:Nat,(l.set i x)[z]?=some .empty:=by
 obtain ⟨z,h⟩:=hz
 exact ⟨z,by rw [List.getElem?_set_ne (fun e=>by subst e;rw [hi] at h;cases h;exact hy rfl)];exact h⟩
structure Tb where
 bn:Nat
 now:List Pc
 bo:Nat
 old:List Pc
 pos:Nat
 oldLen:Nat
 nowLen:Nat
 work:Nat
def Tb.look(t:Tb)(k:Key):Option En:=match Abs.look t.now k with
 | some e=>some e
 | none=>Abs.look t.old k
structure a7K(hb:Nat->Key->Nat)(t:Tb):Prop where
 b3:3<=t.bn
 nl:t.now.length=2 ^ t.bn
 nok:a6o (hb t.bn) t.now
 ng:∀i:Nat,t.now[i]?≠some .gone
 nc:t.nowLen=a5t t.now
 oc:t.oldLen=a5t t.old
 ook:0<t.oldLen->a6o (hb t.bo) t.old/\t.old.length=2 ^ t.bo/\3<=t.bo/\t.bo<=t.bn/\∃z:Nat,t.old[z]?=some .empty
 ps:∀(i:Nat) k e,t.old[i]?=some (.used k e)->t.pos<=i
 dj:∀k e,Abs.look t.now k=some e->Abs.look t.old k=none
 ld:4*t.oldLen+32*(t.nowLen+t.oldLen)<=24*t.now.length
section
variable{hb:Nat->Key->Nat}{t:Tb}
theorem a7K.n8(h:a7K hb t):8<=t.now.length:=by
 rw [h.nl]
 exact Nat.pow_le_pow_right (n:=2) (Nat.succ_pos 1) h.b3
theorem a7K.free(h:a7K hb t):∃z:Nat,t.now[z]?=some .empty:=by
 have:=h.ld
 have:=h.n8
 have:=h.nc
 exact b6O (by omega) h.ng
theorem Tb.look_old(k:Key)(ho:Abs.look t.old k=none):t.look k=Abs.look t.now k:=by
 unfold Tb.look
 cases Abs.look t.now k with
 | some e=>rfl
 | none=>exact ho
theorem a7K.put(h:a7K hb t){i:Nat}{k:Key}{e:En}(hno:Abs.look t.old k=none)(hp:a6o (hb t.bn) (t.now.set i (.used k e))/\∀k',Abs.look (t.now.set i (.used k e)) k'=if k'=k then some e else Abs.look t.now k')
  {n:Nat} (hn:n=a5t (t.now.set i (.used k e))) (hld:4*t.oldLen+32*(n+t.oldLen)<=24*t.now.length):a7K hb { t with now:=t.now.set i (.used k e),nowLen:=n }/\∀k',Tb.look { t with now:=t.now.set i (.used k e),nowLen:=n } k'=if k'=k then some e else t.look k':=by
 refine ⟨⟨h.b3,by show (t.now.set i _).length=_;rw [List.length_set];exact h.nl,hp.1,fun j hj=>?_,hn,h.oc,h.ook,h.ps,fun k' e' hk=>?_,by show _<=24*(t.now.set i _).length;rw [List.length_set];exact hld⟩,fun k'=>?_⟩
 ·rcases a1y hj with ⟨_,_,h3⟩|⟨_,h3⟩
  ·cases h3
  ·exact h.ng j h3
 ·have hk2:Abs.look (t.now.set i (.used k e)) k'=some e':=hk
  rw [hp.2] at hk2
  split at hk2
  ·rename_i hkk;subst hkk;exact hno
  ·exact h.dj k' e' hk2
 show (match Abs.look (t.now.set i (.used k e)) k' with
  | some e=>some e
  | none=>Abs.look t.old k')=_
 rw [hp.2]
 by_cases hk:k'=k
 ·rw [if_pos hk,if_pos hk]
 ·rw [if_neg hk,if_neg hk];rfl
theorem a7K.forget(h:a7K hb t){i:Nat}{k:Key}{e:En}(hi:t.old[i]?=some (.used k e)):a7K hb { t with old:=t.old.set i .gone,oldLen:=t.oldLen - 1 }/\Abs.look (t.old.set i .gone) k=none /\
  (∀k',Tb.look { t with old:=t.old.set i .gone,oldLen:=t.oldLen - 1 } k'=if k'=k then none else t.look k')/\Abs.look t.now k=none:=by
 have hc:=a5R (x:=.gone) hi
 have hpos:0<t.oldLen:=by
  rw [h.oc]
  unfold a5t
  exact List.countP_pos_iff.2 ⟨_,List.mem_of_getElem? hi,rfl⟩
 obtain ⟨h1,h2,h3,h3b,h4⟩:=h.ook hpos
 obtain ⟨g1,g2⟩:=b7q h1 hi
 have hnow:Abs.look t.now k=none:=by
  cases hk:Abs.look t.now k with
  | none=>rfl
  | some e1=>exact absurd hi (a1W.1 (h.dj k e1 hk) i e)
 have hoc:=h.oc
 have hcc:a5t (t.old.set i .gone)=t.oldLen - 1:=by
  have e1:isU (.used k e)=true:=rfl
  have e2:isU .gone=false:=rfl
  rw [e1,e2] at hc
  simp at hc
  omega
 have hld:=h.ld
 refine ⟨⟨h.b3,h.nl,h.nok,h.ng,h.nc,hcc.symm,fun _=>⟨g1,by show (t.old.set i _).length=_;rw [List.length_set];exact h2,h3,h3b,b6v hi (fun e=>by cases e) h4⟩,fun j q f hj=>?_,fun k' e' hk=>?_,?_⟩,?_,fun k'=>?_,hnow⟩
 ·rcases a1y hj with ⟨_,_,h5⟩|⟨_,h5⟩
  ·cases h5
  ·exact h.ps j q f h5
 ·show Abs.look (t.old.set i .gone) k'=none
  rw [g2]
  split
  ·rfl
  ·exact h.dj k' e' hk
 ·show 4*(t.oldLen - 1)+32*(t.nowLen+(t.oldLen - 1))<=24*t.now.length
  omega
 ·rw [g2,if_pos rfl]
 show (match Abs.look t.now k' with
  | some e=>some e
  | none=>Abs.look (t.old.set i .gone) k')=_
 rw [g2]
 by_cases hk:k'=k
 ·subst hk;rw [hnow,if_pos rfl];simp
 ·rw [if_neg hk,if_neg hk];rfl
theorem a7K.moved(h:a7K hb t){j i:Nat}{k:Key}{e:En}(hj:t.old[j]?=some (.used k e))(hp:a6o (hb t.bn) (t.now.set i (.used k e))/\∀k',Abs.look (t.now.set i (.used k e)) k'=if k'=k then some e else Abs.look t.now k')
  (hi:t.now[i]?=some .empty) (w:Nat) (hps:∀(i:Nat) k e,(t.old.set j .gone)[i]?=some (.used k e)->j+1<=i) :
  a7K hb { t with now:=t.now.set i (.used k e),nowLen:=t.nowLen+1,old:=t.old.set j .gone,oldLen:=t.oldLen - 1,pos:=j+1,work:=w } /\
   ∀k',Tb.look { t with now:=t.now.set i (.used k e),nowLen:=t.nowLen+1,old:=t.old.set j .gone,oldLen:=t.oldLen - 1,pos:=j+1,work:=w } k'=t.look k':=by
 obtain ⟨f1,f2,f3,f4⟩:=h.forget hj
 have hol:0<t.oldLen:=by
  rw [h.oc]
  unfold a5t
  exact List.countP_pos_iff.2 ⟨_,List.mem_of_getElem? hj,rfl⟩
 have hc:=a5R (x:=.used k e) hi
 have e1:isU (.used k e)=true:=rfl
 have e2:isU .empty=false:=rfl
 rw [e1,e2] at hc
 simp at hc
 have hld:=h.ld
 have hnc:=h.nc
 obtain ⟨g1,g2⟩:=f1.put (i:=i) (k:=k) (e:=e) f2 hp (n:=t.nowLen+1) (by show t.nowLen+1=a5t (t.now.set i (.used k e));omega) (by
  show 4*(t.oldLen - 1)+32*(t.nowLen+1+(t.oldLen - 1))<=24*t.now.length
  omega)
 refine ⟨⟨g1.b3,g1.nl,g1.nok,g1.ng,g1.nc,g1.oc,g1.ook,hps,g1.dj,g1.ld⟩,fun k'=>(g2 k').trans ?_⟩
 rw [f3]
 by_cases hk:k'=k
 ·subst hk
  rw [if_pos rfl]
  unfold Tb.look
  rw [f4]
  obtain ⟨h1,_⟩:=h.ook hol
  exact ((a1L h1).2 ⟨j,hj⟩).symm
 ·rw [if_neg hk,if_neg hk]
theorem a7K.grown(h:a7K hb t)(h0:t.oldLen=0) :
  a7K hb { bn:=t.bn+1,now:=List.replicate (2 ^ (t.bn+1)) .empty,bo:=t.bn,old:=t.now,pos:=0,oldLen:=t.nowLen,nowLen:=0,work:=t.work } /\
   (∀k',Tb.look { bn:=t.bn+1,now:=List.replicate (2 ^ (t.bn+1)) .empty,bo:=t.bn,old:=t.now,pos:=0,oldLen:=t.nowLen,nowLen:=0,work:=t.work } k'=t.look k') /\
   4*t.nowLen+32*(t.nowLen+1)<=24*(List.replicate (2 ^ (t.bn+1)) Pc.empty).length:=by
 have hrep:∀(n i:Nat) (x:Pc),(List.replicate n Pc.empty)[i]?=some x->x=.empty:=fun n i x hx=>by
  have:=List.mem_of_getElem? hx
  exact (List.mem_replicate.1 this).2
 have hl0:∀n k',Abs.look (List.replicate n Pc.empty) k'=none:=fun n k'=>by
  rw [a1W]
  intro i e hi
  cases hrep n i _ hi
 have hc0:∀n,a5t (List.replicate n Pc.empty)=0:=fun n=>by
  unfold a5t
  rw [List.countP_eq_zero]
  intro x hx
  rw [(List.mem_replicate.1 hx).2]
  decide
 have hold:∀k',Abs.look t.old k'=none:=fun k'=>a5S (by rw [<- h.oc];exact h0) k'
 have hld:=h.ld
 have hn8:=h.n8
 have hnl:=h.nl
 have hlen:(List.replicate (2 ^ (t.bn+1)) Pc.empty).length=2*t.now.length:=by
  rw [List.length_replicate,Nat.pow_succ,hnl,Nat.mul_comm]
 refine ⟨⟨?_,?_,⟨fun i j k e e' hi=>?_,fun i k e hi=>?_⟩,fun i hi=>?_,(hc0 _).symm,h.nc,fun _=>⟨h.nok,h.nl,h.b3,Nat.le_succ _,h.free⟩,fun i k e _=>Nat.zero_le _,fun k e hk=>?_,?_⟩,fun k'=>?_,?_⟩
 ·show 3<=t.bn+1;have:=h.b3;omega
 ·show (List.replicate (2 ^ (t.bn+1)) Pc.empty).length=_;rw [List.length_replicate]
 ·cases hrep _ _ _ hi
 ·cases hrep _ _ _ hi
 ·cases hrep _ _ _ hi
 ·have hk2:Abs.look (List.replicate (2 ^ (t.bn+1)) Pc.empty) k=some e:=hk
  rw [hl0] at hk2
  cases hk2
 ·show 4*t.nowLen+32*(0+t.nowLen)<=24*(List.replicate (2 ^ (t.bn+1)) Pc.empty).length
  omega
 ·show (match Abs.look (List.replicate (2 ^ (t.bn+1)) Pc.empty) k' with
   | some e=>some e
   | none=>Abs.look t.now k')=_
  rw [hl0,Tb.look_old k' (hold k')]
 ·omega
theorem a7K.removed(h:a7K hb t){k:Key}{e:En}(hk:Abs.look t.now k=some e){l:List Pc}(hl:l.length=t.now.length)(ho:a6o (hb t.bn) l)(hm:∀k',Abs.look l k'=if k'=k then none else Abs.look t.now k')(hg:∀i:Nat,l[i]?≠some .gone)(hc:a5t l+1=t.nowLen) :
  a7K hb { t with now:=l,nowLen:=t.nowLen - 1 }/\∀k',Tb.look { t with now:=l,nowLen:=t.nowLen - 1 } k'=if k'=k then none else t.look k':=by
 have hld:=h.ld
 have hdj:=h.dj k e hk
 refine ⟨⟨h.b3,hl.trans h.nl,ho,hg,by show t.nowLen - 1=a5t l;omega,h.oc,h.ook,h.ps,fun k' e' hk'=>?_,?_⟩,fun k'=>?_⟩
 ·have h2:Abs.look l k'=some e':=hk'
  rw [hm] at h2
  split at h2
  ·cases h2
  ·exact h.dj k' e' h2
 ·show 4*t.oldLen+32*(t.nowLen - 1+t.oldLen)<=24*l.length
  omega
 show (match Abs.look l k' with
  | some e=>some e
  | none=>Abs.look t.old k')=_
 rw [hm]
 by_cases hkk:k'=k
 ·subst hkk;rw [if_pos rfl,if_pos rfl];exact hdj
 ·rw [if_neg hkk,if_neg hkk];rfl
end
def c6v(h:Int)(x:UInt8):Int:=IntKind.u64.wrap (a2g .xor .u64 h (IntKind.u64.wrap x.toNat)*1099511628211)
def hsh(h:Int):Int:=a2g .xor .u64 h (h.fdiv (2 ^ (min (33:Int).toNat IntKind.u64.bits)))
def b0Z(k:List UInt8):Int:=hsh (IntKind.u64.wrap (hsh (IntKind.u64.wrap (hsh (k.foldl c6v 14695981039346656037)*18397679294719823053))*14181476777654086739))
theorem c7T(n:Int):0<=IntKind.u64.wrap n/\IntKind.u64.wrap n<18446744073709551616:=by
 simp [IntKind.wrap,IntKind.signed,IntKind.bits]
 omega
theorem b3I(k:List UInt8):0<=b0Z k/\b0Z k<18446744073709551616:=c7T _
def a1q(b:Nat)(k:List UInt8):Nat:=if b<1\/30<b then 0 else (b0Z k).toNat / 2 ^ (64 - b)
theorem a9N{b:Nat}(k:List UInt8):a1q b k<2 ^ b:=by
 unfold a1q
 split
 ·exact Nat.two_pow_pos b
 have h1:=b3I k
 rw [Nat.div_lt_iff_lt_mul (Nat.two_pow_pos _),<- Nat.pow_add,show b+(64 - b)=64 by omega]
 omega
theorem c6l(X:Nat->Prop)(l:List UInt8)(hl:l.length<=1073741824):a0b (E0 X) 228 [.sl 1 (l.map u8A)] [] (fun r H'=>r=.int .u64 (b0Z l)/\H'=[]):=by
 refine Z0 Proofs.Tryz.func228 rfl Proofs.Tryz.ntmps228 (by kernel_rfl) rfl ?_
 repeat' (first|refine Zs rfl ?_|refine Zc rfl ?_)
 refine a0q (fun i:Nat=>⟨[(3,.int .u64 ((l.take i).foldl c6v 14695981039346656037)),(6,.sl 1 (l.map u8A)),(7,.int .i64 (l.length:Int)),(8,.int .i64 (i:Int))],[]⟩) (fun i=>i<=l.length) (fun i=>l.length - i) 0 (Nat.zero_le _) ?_ ?_
 ·refine a0i 0 (Nat.zero_le _) a0T rfl (by simp) ?_
  repeat' (first|exact a0k|refine a0a ⟨?_,?_⟩ ?_)
  all_goals (try first|exact rfl|exact trivial|(simp [a0g,a0e];done)|(simp [a0R];done))
 rintro i hi
 repeat' (first|refine Zs rfl ?_|refine Zc rfl ?_)
 refine a0d rfl (fun h3=>?_) (fun h3=>?_)
 ·have hi3:i<l.length:=by omega
  obtain ⟨q,hq⟩:∃q,l[i]?=some q:=⟨_,List.getElem?_eq_getElem hi3⟩
  have hn:(l.take (i+1)).foldl c6v 14695981039346656037=c6v ((l.take i).foldl c6v 14695981039346656037) q:=by
   rw [List.take_add_one,hq,List.foldl_append];rfl
  repeat' (refine Zc rfl ?_)
  refine Qa rfl ?_
  refine a0y hq rfl rfl rfl rfl rfl rfl rfl (by first|rfl|omega) rfl ?_
  refine nx rfl rfl ?_
  repeat' (first|refine Zs rfl ?_|refine Zc rfl ?_)
  refine ⟨i+1,by omega,by omega,a0i 0 (Nat.zero_le _) a0T rfl (by simp) ?_⟩
  rw [hn]
  repeat' (first|exact a0k|refine a0a ⟨?_,?_⟩ ?_)
  all_goals (try first|exact rfl|exact trivial|(simp [a0g,a0e];done)|(refine congrArg (AV.int .i64) (a0u ?_ ?_ ?_)<;>(first|omega|(simp;omega))))
 have hi3:i=l.length:=by omega
 subst hi3
 rw [List.take_length]
 repeat' (first|refine Zs rfl ?_|refine Zc rfl ?_)
 refine Qa rfl ?_
 refine a4K rfl rfl (by decide) ?_
 refine nx rfl rfl ?_
 repeat' (first|refine Zs rfl ?_|refine Zc rfl ?_)
 refine Qa rfl ?_
 refine a4K rfl rfl (by decide) ?_
 refine nx rfl rfl ?_
 repeat' (first|refine Zs rfl ?_|refine Zc rfl ?_)
 refine Qa rfl ?_
 refine a4K rfl rfl (by decide) ?_
 refine nx rfl rfl ?_
 repeat' (refine Zs rfl ?_)
 refine a0c ⟨_,rfl,?_,?_⟩
 ·rfl
 ·rfl
theorem c3Q(X:Nat->Prop)(k:List UInt8)(b:Nat)(hb:b<100):a0b (E0 X) 227 [.int .u64 (b0Z k),.int .i64 (b:Int)] [] (fun r H'=>r=.int .i64 (a1q b k:Int)/\H'=[]):=by
 have hw:IntKind.i64.wrap (64 - (b:Int))=64 - (b:Int):=a0p (by omega) (by omega)
 refine Z0 Proofs.Tryz.func227 rfl Proofs.Tryz.ntmps227 (by kernel_rfl) rfl ?_
 repeat' (first|refine Zs rfl ?_|refine Zc rfl ?_)
 refine Qy rfl rfl (fun h=>?_) (fun h=>?_)
 ·repeat' (first|refine Zs rfl ?_|refine Zc rfl ?_)
  refine a0c ⟨_,rfl,?_,?_⟩
  ·unfold a1q;rw [if_pos (.inl (by omega))];rfl
  ·rfl
 repeat' (refine Zs rfl ?_)
 refine a0d rfl (fun h2=>?_) (fun h2=>?_)
 ·repeat' (first|refine Zs rfl ?_|refine Zc rfl ?_)
  refine a0c ⟨_,rfl,?_,?_⟩
  ·unfold a1q;rw [if_pos (.inr (by omega))];rfl
  ·rfl
 repeat' (first|refine Zs rfl ?_|refine Zc rfl ?_)
 rw [hw]
 refine Qa rfl ?_
 refine a4K rfl rfl (by omega) ?_
 refine nx rfl rfl ?_
 repeat' (refine Zs rfl ?_)
 refine a0c ⟨_,rfl,?_,?_⟩
 ·have h1:=b3I k
  have h3:=a9N (b:=b) k
  have h4:min (64 - (b:Int)).toNat IntKind.u64.bits=64 - b:=by
   show min (64 - (b:Int)).toNat 64=_
   omega
  have h5:(b0Z k).fdiv (2 ^ (64 - b))=(a1q b k:Int):=by
   unfold a1q
   rw [if_neg (by omega),Int.natCast_ediv,Int.toNat_of_nonneg h1.1,Int.fdiv_eq_ediv_of_nonneg _ (by exact Int.pow_nonneg (by decide))]
   simp
  rw [h4,h5]
  have h6:(2:Nat) ^ b<=2 ^ 30:=Nat.pow_le_pow_right (by decide) (by omega)
  have h7:(2:Nat) ^ 30=1073741824:=by decide
  exact congrArg (AV.int .i64) (a0p (by omega) (by omega))
 ·rfl
theorem c6m(l:List UInt8)(hl:l.length<=1073741824)(X:Nat->Prop):Pur (E0 X) 228 [.sl 1 (l.map u8A)] (.int .u64 (b0Z l)):=Zi (fun X=>c6l X l hl) ⟨a2c _,trivial⟩
theorem c3R(k:List UInt8)(b:Nat)(hb:b<100)(X:Nat->Prop):Pur (E0 X) 227 [.int .u64 (b0Z k),.int .i64 (b:Int)] (.int .i64 (a1q b k:Int)):=Zi (fun X=>c3Q X k b hb) ⟨trivial,trivial,trivial⟩
def pcA:Pc->AV
 | .empty=>.agg [.int .i64 0,.str [],.int .i64 0,.int .i64 0,.int .i64 0,.int .i64 0,.bool false]
 | .used k e=>.agg [.int .i64 1,.str k,.int .i64 e.seq,.int .i64 e.off,.int .i64 e.len,.int .i64 e.exp,.bool e.hit]
 | .gone=>.agg [.int .i64 2,.str [],.int .i64 0,.int .i64 0,.int .i64 0,.int .i64 0,.bool false]
def pcS:Pc->Int
 | .empty=>0
 | .used _ _=>1
 | .gone=>2
def pcK:Pc->List UInt8
 | .used k _=>k
 | _=>[]
def pcE:Pc->En
 | .used _ e=>e
 | _=>⟨0,0,0,0,false⟩
theorem c6Y(p:Pc):pcA p=.agg [.int .i64 (pcS p),.str (pcK p),.int .i64 (pcE p).seq,.int .i64 (pcE p).off,.int .i64 (pcE p).len,.int .i64 (pcE p).exp,.bool (pcE p).hit]:=by cases p<;>rfl
theorem a3n(l:List Pc):a0e 0 (l.map pcA):=a0h fun p=>by cases p<;>simp [pcA,a0g,a0e]
theorem Zj{k:FuncId}{xs:List AV}{r:AV}(ha:a0e 0 xs)(hr:a0g 0 r)(h:∀X,a0b (E0 X) k xs [] fun r' _=>r'=r)(X:Nat->Prop):Pur (E0 X) k xs r:=⟨ha,fun Y=>a0b.cut0 (h Y) hr⟩
theorem c8x{a b:Nat}(ha:a<9223372036854775808)(hb:b<9223372036854775808):a2g .and .i64 (a:Int) (b:Int)=((a &&& b:Nat):Int):=by
 have h1:a2g .and .i64 (a:Int) (b:Int)=IntKind.i64.wrap (((BitVec.ofInt 64 (a:Int) &&& BitVec.ofInt 64 (b:Int)).toNat:Nat):Int):=rfl
 rw [h1,BitVec.toNat_and]
 have h2:∀n:Nat,n<9223372036854775808->(BitVec.ofInt 64 (n:Int)).toNat=n:=fun n h=>by
  rw [BitVec.ofInt_natCast,BitVec.toNat_ofNat];exact Nat.mod_eq_of_lt (by omega)
 have h3:a &&& b<=a:=Nat.and_le_left
 rw [h2 a ha,h2 b hb,a0p (by omega) (by omega)]
theorem b5T{a n b:Nat}(hn:n=2 ^ b)(hb:b<=40)(ha:a<9223372036854775808):a2g .and .i64 (a:Int) (IntKind.i64.wrap ((n:Int) - 1))=((a%n:Nat):Int):=by
 have h1:(2:Nat) ^ b<=2 ^ 40:=Nat.pow_le_pow_right (by decide) hb
 have h2:(2:Nat) ^ 40=1099511627776:=by decide
 have h3:=Nat.two_pow_pos b
 rw [a0p (by omega) (by omega),show ((n:Int) - 1)=((n - 1:Nat):Int) by omega,c8x ha (by omega),hn,Nat.and_two_pow_sub_one_eq_mod]
theorem b1T(b:Nat)(l:List Pc)(i:Nat)(hl:l.length=2 ^ b)(hb:b<=40)(hi:i<l.length):∀X,Pur (E0 X) 195 [.agg [.int .i64 (b:Int),.sl 7 (l.map pcA)],.int .i64 (i:Int)] (.int .i64 (((i+1)%l.length:Nat):Int)):=by
 have h1:(2:Nat) ^ b<=2 ^ 40:=Nat.pow_le_pow_right (by decide) hb
 have h2:(2:Nat) ^ 40=1099511627776:=by decide
 have h3:IntKind.i64.wrap ((i:Int)+1)=((i+1:Nat):Int):=a0p (by omega) (by omega)
 refine Zj ⟨⟨trivial,a3n l,trivial⟩,trivial,trivial⟩ trivial fun X=>?_
 refine Z0 Proofs.Tryz.func195 rfl Proofs.Tryz.ntmps195 (by kernel_rfl) rfl ?_
 repeat' (first|refine Zs rfl ?_|refine Zc rfl ?_)
 refine a0c ⟨_,rfl,?_⟩
 rw [List.length_map,h3]
 exact congrArg (AV.int .i64) (b5T hl hb (by omega))
theorem c2z(b:Nat)(l:List Pc)(k:List UInt8)(hb:b<100)(hk:k.length<=1000000):∀X,Pur (E0 X) 194 [.agg [.int .i64 (b:Int),.sl 7 (l.map pcA)],.str k] (.int .i64 (a1q b k:Int)):=by
 refine Zj ⟨⟨trivial,a3n l,trivial⟩,trivial,trivial⟩ trivial fun X=>?_
 refine Z0 Proofs.Tryz.func194 rfl Proofs.Tryz.ntmps194 (by kernel_rfl) rfl ?_
 repeat' (first|refine Zs rfl ?_|refine Zc rfl ?_)
 refine a0m [] [] (by exact rfl) (by kernel_rfl) ?_
 repeat' (refine Zd rfl ?_)
 apply Qd rfl rfl rfl rfl
 ·refine b0y rfl rfl rfl rfl rfl rfl rfl (by simp [maxLen];omega) ?_
  exact QX rfl rfl ⟨rfl,rfl⟩
 skip
 refine Zq rfl rfl rfl rfl (c6m k (by omega) X) rfl ?_
 repeat' (refine Zd rfl ?_)
 refine Zq rfl rfl rfl rfl (c3R k b hb X) rfl ?_
 repeat' (first|refine Zd rfl ?_|refine Zk ?_)
 refine a0c ⟨_,rfl,rfl⟩
def a8a(l:List Pc)(k:Key):Nat->Nat->Nat × Bool
 | 0,i=>(i,false)
 | f+1,i=>match l[i]? with
  | some (.used k' _)=>if k'=k then (i,true) else a8a l k f ((i+1)%l.length)
  | some .gone=>a8a l k f ((i+1)%l.length)
  | _=>(i,false)
def a1E(b:Nat)(l:List Pc)(k:Key):Nat × Bool:=a8a l k l.length (a1q b k%l.length)
theorem a7I(a d n:Nat):((a+d)%n+1)%n=(a+(d+1))%n:=by
 rw [Nat.mod_add_mod,Nat.add_assoc]
theorem a6t{l:List Pc}{k:Key}{b d:Nat}(hd:d<l.length)(h:a8a l k (l.length - d) ((a1q b k+d)%l.length)=a1E b l k){p:Pc}(hp:l[(a1q b k+d)%l.length]?=some p)(h1:p≠.empty)(h2:∀e,p≠.used k e) :
  a8a l k (l.length - (d+1)) ((a1q b k+(d+1))%l.length)=a1E b l k:=by
 rw [<- h,show l.length - d=(l.length - (d+1))+1 by omega,a8a,hp]
 cases p with
 | empty=>exact absurd rfl h1
 | used k' e =>
  have:k'≠k:=fun hk=>h2 e (by rw [hk])
  simp only [if_neg this,a7I]
 | gone=>simp only [a7I]
theorem b0T{l:List Pc}{k:Key}{b d:Nat}(hd:d<l.length)(h:a8a l k (l.length - d) ((a1q b k+d)%l.length)=a1E b l k) :
  (l[(a1q b k+d)%l.length]?=some .empty->a1E b l k=((a1q b k+d)%l.length,false))/\(∀e,l[(a1q b k+d)%l.length]?=some (.used k e)->a1E b l k=((a1q b k+d)%l.length,true)):=by
 rw [<- h,show l.length - d=(l.length - (d+1))+1 by omega]
 exact ⟨fun hp=>by rw [a8a,hp],fun e hp=>by rw [a8a,hp];simp⟩
theorem find_spec{l:List Pc}{k:Key}{b:Nat}(hz:∃z:Nat,l[z]?=some .empty) :
  ∃d,d<l.length/\b1L (hm:=a1q b) l k d/\((l[(a1q b k+d)%l.length]?=some .empty/\a1E b l k=((a1q b k+d)%l.length,false))\/∃e,l[(a1q b k+d)%l.length]?=some (.used k e)/\a1E b l k=((a1q b k+d)%l.length,true)):=by
 obtain ⟨z,hz⟩:=hz
 have key:∀n d,l.length - d=n->b1L (hm:=a1q b) l k d->a8a l k (l.length - d) ((a1q b k+d)%l.length)=a1E b l k ->
   ∃d,d<l.length/\b1L (hm:=a1q b) l k d/\((l[(a1q b k+d)%l.length]?=some .empty/\a1E b l k=((a1q b k+d)%l.length,false))\/∃e,l[(a1q b k+d)%l.length]?=some (.used k e)/\a1E b l k=((a1q b k+d)%l.length,true)):=by
  intro n
  induction n with
  | zero=>intro d hd hs _;have:=hs.bound hz;omega
  | succ n ih =>
   intro d hd hs hf
   have hdl:=hs.bound hz
   have hil:=Nat.mod_lt (a1q b k+d) (show 0<l.length by omega)
   obtain ⟨f1,f2⟩:=b0T hdl hf
   cases hp:l[(a1q b k+d)%l.length]? with
   | none=>rw [List.getElem?_eq_none_iff] at hp;omega
   | some p =>
    by_cases h1:p=.empty
    ·subst h1;exact ⟨d,hdl,hs,.inl ⟨hp,f1 hp⟩⟩
    by_cases h2:∃e,p=.used k e
    ·obtain ⟨e,rfl⟩:=h2;exact ⟨d,hdl,hs,.inr ⟨e,hp,f2 e hp⟩⟩
    ·have h3:∀e,p≠.used k e:=fun e he=>h2 ⟨e,he⟩
     exact ih (d+1) (by omega) (hs.succ (by rw [hp];cases p<;>first|rfl|exact absurd rfl h1) (fun e he=>h3 e (by rw [hp] at he;exact Option.some.inj he))) (a6t hdl hf hp h1 h3)
 exact key _ 0 rfl b1L.zero (by rw [Nat.sub_zero,Nat.add_zero];rfl)
theorem c6d(b:Nat)(l:List Pc)(k:Key)(hl:l.length=2 ^ b)(hb:b<=20)(hk:k.length<=1000000)(hz:∃z:Nat,l[z]?=some .empty) :
  ∀X,Pur (E0 X) 165 [.agg [.int .i64 (b:Int),.sl 7 (l.map pcA)],.str k] (.tup [.int .i64 ((a1E b l k).1:Int),.bool (a1E b l k).2]):=by
 have h1:(2:Nat) ^ b<=2 ^ 20:=Nat.pow_le_pow_right (by decide) hb
 have h2:(2:Nat) ^ 20=1048576:=by decide
 have hn:=Nat.two_pow_pos b
 obtain ⟨z,hz⟩:=hz
 have hok:HOk 1 [some (.cells [.int .i64 (b:Int),.sl 7 (l.map pcA)] 241)]:=by
  intro id o ho
  match id,ho with
  | 0,ho=>cases ho;exact ⟨trivial,a0x (Nat.zero_le 1) (a3n l),trivial⟩
 refine Zj ⟨⟨trivial,a3n l,trivial⟩,trivial,trivial⟩ ⟨trivial,trivial,trivial⟩ fun X=>?_
 refine Z0 Proofs.Tryz.func165 rfl Proofs.Tryz.ntmps165 (by kernel_rfl) rfl ?_
 repeat' (first|refine Zs rfl ?_|refine Zc rfl ?_)
 refine Zp rfl rfl (c2z b l k (by omega) hk X) rfl ?_
 repeat' (first|refine Zs rfl ?_|refine Zc rfl ?_)
 refine a0q (fun d:Nat=>⟨[(1,.str k),(2,.ptr 0 0),(6,.int .i64 (((a1q b k+d)%l.length:Nat):Int))],[some (.cells [.int .i64 (b:Int),.sl 7 (l.map pcA)] 241)]⟩)
  (fun d=>b1L (hm:=a1q b) l k d/\a8a l k (l.length - d) ((a1q b k+d)%l.length)=a1E b l k) (fun d=>l.length - d) 0 ⟨b1L.zero,by rw [Nat.sub_zero,Nat.add_zero];rfl⟩ ?_ ?_
 ·have h3:a1q b k=(a1q b k+0)%l.length:=by rw [Nat.add_zero,hl,Nat.mod_eq_of_lt (a9N k)]
  rw [<- h3]
  exact kk 1 hok rfl (by simp [a0g,a0e])
 rintro d ⟨hs,hf⟩
 have hdl:=hs.bound hz
 have hil:=Nat.mod_lt (a1q b k+d) (show 0<l.length by omega)
 obtain ⟨f1,f2⟩:=b0T hdl hf
 obtain ⟨p,hp⟩:∃p,l[(a1q b k+d)%l.length]?=some p:=⟨_,List.getElem?_eq_getElem hil⟩
 repeat' (first|refine Zs rfl ?_|refine Zc rfl ?_)
 refine Qa rfl ?_
 cases p with
 | empty =>
  refine a0y hp rfl rfl rfl rfl rfl rfl rfl (by first|rfl|omega) rfl ?_
  refine nx rfl rfl ?_
  repeat' (first|refine Zs rfl ?_|refine Zc rfl ?_)
  rw [f1 hp]
  refine a0c ⟨_,rfl,rfl⟩
 | gone =>
  refine a0y hp rfl rfl rfl rfl rfl rfl rfl (by first|rfl|omega) rfl ?_
  refine nx rfl rfl ?_
  repeat' (first|refine Zs rfl ?_|refine Zc rfl ?_)
  refine Qa rfl ?_
  refine a0y hp rfl rfl rfl rfl rfl rfl rfl (by first|rfl|omega) rfl ?_
  refine nx rfl rfl ?_
  repeat' (first|refine Zs rfl ?_|refine Zc rfl ?_)
  refine Zp rfl rfl (b1T b l _ hl (by omega) hil X) rfl ?_
  repeat' (refine Zs rfl ?_)
  refine ⟨d+1,⟨hs.succ (by rw [hp];rfl) (fun e he=>by rw [hp] at he;cases he),a6t hdl hf hp (fun h=>by cases h) (fun e h=>by cases h)⟩,by omega,?_⟩
  rw [<- a7I (a1q b k) d l.length]
  exact kk 1 hok rfl (by simp [a0g,a0e])
 | used k' e =>
  refine a0y hp rfl rfl rfl rfl rfl rfl rfl (by first|rfl|omega) rfl ?_
  refine nx rfl rfl ?_
  repeat' (first|refine Zs rfl ?_|refine Zc rfl ?_)
  refine Qa rfl ?_
  refine a0y hp rfl rfl rfl rfl rfl rfl rfl (by first|rfl|omega) rfl ?_
  refine nx rfl rfl ?_
  repeat' (refine Zs rfl ?_)
  refine Qa rfl ?_
  refine a0y hp rfl rfl rfl rfl rfl rfl rfl (by first|rfl|omega) rfl ?_
  refine nx rfl rfl ?_
  repeat' (refine Zs rfl ?_)
  refine a0d rfl (fun hk2=>?_) (fun hk2=>?_)
  ·subst hk2
   rw [f2 e hp]
   repeat' (first|refine Zs rfl ?_|refine Zc rfl ?_)
   refine a0c ⟨_,rfl,rfl⟩
  repeat' (first|refine Zs rfl ?_|refine Zc rfl ?_)
  refine Zp rfl rfl (b1T b l _ hl (by omega) hil X) rfl ?_
  repeat' (refine Zs rfl ?_)
  refine ⟨d+1,⟨hs.succ (by rw [hp];rfl) (fun f he=>by rw [hp] at he;cases he;exact hk2 rfl),a6t hdl hf hp (fun h=>by cases h) (fun e h=>by cases h;exact hk2 rfl)⟩,by omega,?_⟩
  rw [<- a7I (a1q b k) d l.length]
  exact kk 1 hok rfl (by simp [a0g,a0e])
theorem b0z{α:Type}{f:α->AV}{l:List α}{p:α}{E:Env}{H:Hp}{K:AV->Hp->Prop}{ρ:Operand->AV}{d:Option Nat}{ty:TypeId}{pos:String}{after:Array Edge}{g:Option (Nat × Bool)}
  {t:TypeId} {q x:Operand} {id i off:Nat} {e:TypeId} {y:AV} (ht:Nat.blt t E.n=true) (hte:Nat.blt e E.n=true) (hp:ρ q=.pe id i off) (ho:H[id]?=some (some (.arr (l.map f) e)))
  (hy:(l.map f)[i]?=some y) (hky:known y=true) (hz:c8s off (ρ x) y=some (f p)) (hl:Nat.beq (a1d (ρ x)).length (E.ti t).sz=true) (hone:(a1d (ρ x)).all a6W=true) (hkn:known (ρ x)=true)
  (h:K (.tup []) (H.set id (some (.arr ((l.set i p).map f) e)))):a0B E ⟨d,.store t q x,ty,pos,after,g⟩ ρ H K :=
 a3t ht hte hp ho hy hky hz hl hone hkn (by rw [<- List.map_set];exact h)
def tbH(t:Tb):Hp:=[some (.cells [.int .i64 (t.bn:Int),.own 1 0 t.now.length,.int .i64 (t.bo:Int),.own 2 0 t.old.length,.int .i64 (t.pos:Int),.int .i64 (t.oldLen:Int),.int .i64 (t.nowLen:Int),.int .i64 (t.work:Int)] 244),some (.arr (t.now.map pcA) 251),some (.arr (t.old.map pcA) 251)]
abbrev TOk(t:Tb):Prop:=a7K a1q t/\t.bn<=20
theorem TOk.lt{t:Tb}(h:TOk t):t.now.length<=1048576/\t.oldLen+t.nowLen<=1048576:=by
 have h1:=h.1.nl
 have h2:(2:Nat) ^ t.bn<=2 ^ 20:=Nat.pow_le_pow_right (by decide) h.2
 have h3:=h.1.ld
 have h4:(2:Nat) ^ 20=1048576:=by decide
 omega
theorem c0t(b:Nat)(l:List Pc)(k:Key)(hl:l.length=2 ^ b)(hb:b<=20)(hk:k.length<=1000000)(hz:∃z:Nat,l[z]?=some .empty)(X:Nat->Prop){H:Hp}{id:Nat}(ho:H[id]?=some (some (.arr (l.map pcA) 251))) :
  a0b (E0 X) 165 [.agg [.int .i64 (b:Int),.own id 0 l.length],.str k] H (fun r H'=>r=.tup [.int .i64 ((a1E b l k).1:Int),.bool (a1E b l k).2]/\H'=H) :=
 a1z (c6d b l k hl hb hk hz X).2 rfl (.agg (.same trivial (.sl (a3n l) (a0z ho rfl rfl (by omega) (by rw [List.drop_zero,List.take_of_length_le (by omega)])) .nil)) (.same trivial .nil))
theorem c2K{l:List Pc}{i:Nat}(hi:i<l.length):∃p,l[i]?=some p/\(l.map pcA)[i]?=some (.agg [.int .i64 (pcS p),.str (pcK p),.int .i64 (pcE p).seq,.int .i64 (pcE p).off,.int .i64 (pcE p).len,.int .i64 (pcE p).exp,.bool (pcE p).hit]) :=
 ⟨_,List.getElem?_eq_getElem hi,by rw [List.getElem?_map,List.getElem?_eq_getElem hi,Option.map_some,c6Y]⟩
theorem a7w{b:Nat}{l:List Pc}{k:Key}(hz:∃z:Nat,l[z]?=some .empty):(a1E b l k).1<l.length:=by
 obtain ⟨d,h1,_,h2⟩:=find_spec (b:=b) (k:=k) hz
 have h3:=Nat.mod_lt (a1q b k+d) (show 0<l.length by omega)
 rcases h2 with ⟨_,h⟩|⟨e,_,h⟩<;>rw [h]<;>exact h3
def Tb.forg(t:Tb)(k:Key):Tb × Bool :=
 if t.oldLen=0 then (t,false) else if (a1E t.bo t.old k).2 then ({ t with old:=t.old.set (a1E t.bo t.old k).1 .gone,oldLen:=t.oldLen - 1 },true) else (t,false)
theorem c0v(X:Nat->Prop)(t:Tb)(k:Key)(h:TOk t)(hk:k.length<=1000000):a0b (E0 X) 164 [.ptr 0 0,.str k] (tbH t) (fun r H'=>r=.bool (t.forg k).2/\H'=tbH (t.forg k).1):=by
 have hlt:=h.lt
 refine Z0 Proofs.Tryz.func164 rfl Proofs.Tryz.ntmps164 (by kernel_rfl) rfl ?_
 repeat' (first|refine Zs rfl ?_|refine Zc rfl ?_)
 refine a0d rfl (fun h0=>?_) (fun h0=>?_)
 ·repeat' (first|refine Zs rfl ?_|refine Zc rfl ?_)
  have h1:t.oldLen=0:=by omega
  refine a0c ⟨_,rfl,?_⟩
  unfold Tb.forg
  rw [if_pos h1]
  exact ⟨rfl,rfl⟩
 have h1:t.oldLen≠0:=by omega
 obtain ⟨g1,g2,g3,g4,g5⟩:=h.1.ook (by omega)
 obtain ⟨p,hp,hpa⟩:=c2K (a7w (b:=t.bo) (k:=k) g5)
 repeat' (first|refine Zs rfl ?_|refine Zc rfl ?_)
 refine Zf rfl rfl (c0t t.bo t.old k g2 (by have:=h.2;omega) hk g5 X (H:=tbH t) (id:=2) rfl) rfl rfl rfl ?_
 repeat' (first|refine Zs rfl ?_|refine Zc rfl ?_)
 refine a0H rfl (fun h2=>?_) (fun h2=>?_)
 ·repeat' (first|refine Zs rfl ?_|refine Zc rfl ?_)
  refine Qa rfl ?_
  refine a1Y (j:=(a1E t.bo t.old k).1) rfl (a7w g5) (Nat.zero_add _) rfl rfl rfl rfl rfl rfl rfl rfl ?_
  refine nx rfl rfl ?_
  skip
  refine Qb rfl ?_
  refine b0z (p:=Pc.gone) rfl rfl rfl rfl hpa rfl rfl rfl rfl rfl ?_
  refine nx rfl rfl ?_
  repeat' (first|refine Zs rfl ?_|refine Zc rfl ?_|refine Qh ?_)
  refine a0c ⟨_,rfl,?_⟩
  unfold Tb.forg
  rw [if_neg h1,if_pos h2]
  have h3:IntKind.i64.wrap ((t.oldLen:Int) - 1)=((t.oldLen - 1:Nat):Int):=by rw [a0p (by omega) (by omega)];omega
  exact ⟨congrArg AV.bool h2,by rw [h3];simp [tbH]⟩
 repeat' (first|refine Zs rfl ?_|refine Zc rfl ?_)
 refine a0c ⟨_,rfl,?_⟩
 unfold Tb.forg
 rw [if_neg h1,if_neg (by rw [h2];decide),h2]
 exact ⟨rfl,rfl⟩
def b5F(e:En):AV:=.agg [.int .i64 e.seq,.int .i64 e.off,.int .i64 e.len,.int .i64 e.exp,.bool e.hit]
def Tb.putE(t:Tb)(k:Key)(e:En):Tb:={ t with now:=t.now.set (a1E t.bn t.now k).1 (.used k e),nowLen:=if (a1E t.bn t.now k).2 then t.nowLen else t.nowLen+1 }
theorem a0b.cutH{E:Env}{f:FuncId}{args:List AV}{H H1:Hp}{r0:AV}(h:a0b E f args H (fun r H'=>r=r0/\H'.take H1.length=H1))(hl:H.length<=H1.length)(hok:HOk H1.length H1)(hr:a0g H1.length r0):a0b E f args H (fun r H'=>r=r0/\H'=H1) :=
 h.imp fun r H' ⟨h1,h2⟩=>by
  subst h1
  refine ⟨_,_,⟨rfl,rfl⟩,a0i H1.length hl hok h2 ?_ (a0a ⟨rfl,hr⟩ a0k)⟩
  have:=congrArg List.length h2
  rw [List.length_take] at this
  omega
theorem a2w(t:Tb):HOk 3 (tbH t):=by
 intro id o ho
 match id,ho with
 | 0,ho=>cases ho;simp [a2u,a0e,a0g]
 | 1,ho=>cases ho;exact a0x (Nat.zero_le 3) (a3n _)
 | 2,ho=>cases ho;exact a0x (Nat.zero_le 3) (a3n _)
theorem c3b(X:Nat->Prop)(t:Tb)(k:Key)(e:En)(h:TOk t)(hk:k.length<=1000000):a0b (E0 X) 167 [.ptr 0 0,.str k,b5F e] (tbH t) (fun r H'=>r=.tup []/\H'=tbH (t.putE k e)):=by
 have hlt:=h.lt
 have hz:=h.1.free
 obtain ⟨p,hp,hpa⟩:=c2K (a7w (b:=t.bn) (k:=k) hz)
 refine a0b.cutH ?_ (Nat.le_refl 3) (a2w _) trivial
 refine Z0 Proofs.Tryz.func167 rfl Proofs.Tryz.ntmps167 (by kernel_rfl) rfl ?_
 repeat' (first|refine Zs rfl ?_|refine Zc rfl ?_)
 refine Zf rfl rfl (c0t t.bn t.now k h.1.nl h.2 hk hz X (id:=1) rfl) rfl rfl rfl ?_
 repeat' (first|refine Zs rfl ?_|refine Zc rfl ?_)
 refine a0H rfl (fun h2=>?_) (fun h2=>?_)
 all_goals
  repeat' (first|refine Zs rfl ?_|refine Zc rfl ?_)
  refine Qx rfl (by kernel_rfl) ?_
  repeat' (refine Zd rfl ?_)
  apply Qd rfl rfl rfl rfl
  ·refine a1Y (j:=(a1E t.bn t.now k).1) rfl (a7w hz) (Nat.zero_add _) rfl rfl rfl rfl rfl rfl rfl rfl ?_
   exact QX rfl rfl ⟨rfl,rfl⟩
  skip
  refine Qf rfl rfl rfl ?_
  refine b0z (p:=Pc.used k e) rfl rfl rfl rfl hpa rfl rfl rfl rfl rfl ?_
  refine nx rfl rfl ?_
  repeat' (refine Qk ?_)
 all_goals
  refine ⟨_,rfl,rfl,?_⟩
  simp only [Bool.not_eq_true',Bool.not_eq_false'] at h2
  simp [tbH,Tb.putE,h2,a0p (n:=(t.nowLen:Int)+1) (by omega) (by omega)]
theorem c9x{b:Nat}(hb:b<=40):IntKind.i64.wrap (1*2 ^ (min (b:Int).toNat IntKind.i64.bits))=((2 ^ b:Nat):Int):=by
 have h1:(2:Nat) ^ b<=2 ^ 40:=Nat.pow_le_pow_right (by decide) hb
 have h2:(2:Nat) ^ 40=1099511627776:=by decide
 have h3:min (b:Int).toNat IntKind.i64.bits=b:=by
  show min (b:Int).toNat 64=b
  omega
 have h4:(1:Int)*2 ^ b=((2 ^ b:Nat):Int):=by simp
 rw [h3,h4]
 generalize (2:Nat) ^ b=q at *
 exact a0p (by omega) (by omega)
theorem a8m(X:Nat->Prop)(b:Nat)(hb:b<=21):a0b (E0 X) 162 [.int .i64 (b:Int)] [] (fun r H'=>r=.agg [.int .i64 (b:Int),.own 1 0 (2 ^ b)]/\H'=[some (.cells [.int .i64 (b:Int),.own 1 0 (2 ^ b)] 241),some (.arr ((List.replicate (2 ^ b) Pc.empty).map pcA) 251)]):=by
 have h1:(2:Nat) ^ b<=2 ^ 21:=Nat.pow_le_pow_right (by decide) hb
 have h2:(2:Nat) ^ 21=2097152:=by decide
 refine Z0 Proofs.Tryz.func162 rfl Proofs.Tryz.ntmps162 (by kernel_rfl) rfl ?_
 repeat' (first|refine Zs rfl ?_|refine Zc rfl ?_)
 refine Qa rfl ?_
 refine a9s rfl rfl (by omega) ?_
 refine nx rfl rfl ?_
 rw [c9x (by omega)]
 skip
 refine Qa rfl ?_
 refine b1C (n:=2 ^ b) (el:=pcA .empty) rfl (rfl) (rfl) ?_ ?_ rfl rfl rfl rfl rfl rfl (.inl rfl) (.inl rfl) rfl rfl ?_
 ·show 64 * _<=281474976710656
  omega
 ·show _<=9223372036854775807
  omega
 refine nx rfl rfl ?_
 repeat' (refine Zs rfl ?_)
 exact a0c ⟨_,rfl,rfl,by simp⟩
theorem c7Q(X:Nat->Prop)(t:Tb)(h:TOk t):a0b (E0 X) 196 [.ptr 0 0] (tbH t) (fun r H'=>r=.int .i64 ((t.nowLen+t.oldLen:Nat):Int)/\H'=tbH t):=by
 have hlt:=h.lt
 refine Z0 Proofs.Tryz.func196 rfl Proofs.Tryz.ntmps196 (by kernel_rfl) rfl ?_
 repeat' (first|refine Zs rfl ?_|refine Zc rfl ?_)
 refine Qx rfl (by kernel_rfl) ?_
 repeat' (first|refine Zd rfl ?_|refine Zk ?_)
 exact a0c ⟨_,rfl,congrArg (AV.int .i64) (a0p (n:=(t.nowLen:Int)+t.oldLen) (by omega) (by omega)),rfl⟩
end Go.Abs
namespace Go.Abs
def c8Z(id k:Nat)(es:List AV):AO->AO
 | .cells cs e=>.cells (cs.map (frz id k es)) e
 | o=>o
section
variable{E:Env}{m:Mu}{w:World}{H:Hp}{id k:Nat}{es:List AV}{e:TypeId}
theorem b6J(hok:E.Ok)(hsim:E.Sim m w H)(ho:H[id]?=some (some (.arr es e)))(he:Nat.blt e E.n=true)(hk:Nat.beq (E.ti e).sz k=true){v:AV}{u:Value}(hj:E.Rel m w v u) :
  Abs.Rel E.cx (m.set id .dead) w (frz id k es v) u:=by
 have hkk:=Nat.eq_of_beq_eq_true hk
 have hsz2:E.cx.sz e=(E.ti e).sz:=by obtain ⟨_,_,_,_,_,_,_,_,_,h⟩:=a0U hok he;exact h
 have hid:id<H.length:=(List.getElem?_eq_some_iff.1 ho).1
 have hidm:id<m.length:=by rw [hsim.len];exact hid
 have hget:∀(i:Nat) (x:MS),x≠.dead->(m.set id .dead)[i]?=some x->m[i]?=some x/\i≠id:=fun i x hx h=>by
  by_cases hi:id=i
  ·subst hi;rw [List.getElem?_set_self hidm] at h;cases h;exact absurd rfl hx
  ·rw [List.getElem?_set_ne hi] at h;exact ⟨h,Ne.symm hi⟩
 have hsub:∀b,MS.blk b∈m.set id .dead->MS.blk b∈m:=fun b hb=>by
  obtain ⟨i,hi,he⟩:=List.getElem_of_mem hb
  exact List.mem_of_getElem? (hget i _ (by simp) (by rw [List.getElem?_eq_getElem hi,he])).1
 have hc:Cmp some E.cx E.cx m (m.set id .dead):=⟨rfl,fun i j hij hi=>by
  cases hij
  exact ⟨by simpa using hi,fun x hx h=>(hget _ x hx h).1⟩,fun b h=>h.imp (hsub b) (fun h=>h)⟩
 obtain ⟨q,hq,hob⟩:=hsim.live id _ ho
 cases v with
 | own i lo n =>
  simp only [frz]
  split
  ·rename_i hcond
   obtain ⟨rfl,hle⟩:=hcond
   simp only [Env.Rel,Abs.Rel] at hj ⊢
   obtain ⟨A,c,h1,h2,h3,h4,h5,h6⟩:=hj
   have hlen:((es.drop lo).take n).length=n:=by simp;omega
   cases q with
   | dead=>exact hob.elim
   | nil =>
    subst hob
    simp at hle
    obtain ⟨rfl,rfl⟩:=hle
    exact ⟨A,c,[],by simpa using h1,by simp,h3,by simp [Abs.RelL],by simp,by simp [Fz,flat]⟩
   | blk b =>
    obtain ⟨us,vs,h7,h8,h9,h10⟩:=hob
    obtain ⟨e2,k2,h11,h12,h13⟩:=h6 b hq
    have hee:e2=e:=by
     unfold World.shape? at h11
     rw [h7] at h11
     simp at h11
     exact h11.1.symm
    subst hee
    have hk9:∀u∈(vs.drop lo).take n,u.cells.size=k:=fun u hu=>by
     rw [h9 u (List.mem_of_mem_drop (List.mem_of_mem_take hu)),hsz2,hkk]
    have hr8:=(h8.drop lo).take n
    refine ⟨A,c,(vs.drop lo).take n,by rw [hlen];exact h1,by omega,h3,RelL.cmp hc (n:=m.length) (fun _ _=>rfl) _ (RelL.ids _ hr8) hr8,hk9,fun hne=>?_⟩
    have hn0:0<n:=by
     rcases Nat.eq_zero_or_pos n with h0|h0
     ·subst h0;simp [flat] at hne
     ·exact h0
    have hA:=h13 (.inl (by omega))
    refine ⟨_,hA,(Array.getElem?_eq_some_iff.1 h7).1,fun hm=>?_,hsim.disj b (List.mem_of_getElem? hq),fun j u hu=>?_⟩
    ·obtain ⟨i2,hi2,he2⟩:=List.getElem_of_mem hm
     obtain ⟨h14,h15⟩:=hget i2 (.blk b) (by simp) (by rw [List.getElem?_eq_getElem hi2,he2])
     exact h15 (hsim.inj i2 i b h14 hq)
    have hadd:(⟨b,lo*E.cx.sz e2,none⟩:Addr).add j=⟨b,lo*E.cx.sz e2+j,none⟩:=by unfold Addr.add;split<;>simp_all
    rw [hadd,cell_of_row w b _ us e2 (0,0) h7]
    have h9d:∀u∈vs.drop lo,u.cells.size=E.cx.sz e2:=fun u hu=>h9 u (List.mem_of_mem_drop hu)
    rw [a2o h9d,a3J h9,List.getElem?_take,List.getElem?_drop] at hu
    split at hu
    ·rw [<- h10,List.getElem?_take] at hu
     split at hu
     ·simpa using hu
     ·cases hu
    ·cases hu
  ·exact Rel.cmp_all hc hj
 | _=>exact Rel.cmp_all hc hj
theorem b3G(hok:E.Ok)(hsim:E.Sim m w H)(ho:H[id]?=some (some (.arr es e)))(he:Nat.blt e E.n=true)(hk:Nat.beq (E.ti e).sz k=true):∀{vs:List AV} {us:List Value},RelL E.cx m w vs us->RelL E.cx (m.set id .dead) w (vs.map (frz id k es)) us
 | [],us,h=>by simpa [RelL] using h
 | v::vs,us,h=>by
  obtain ⟨u,r,rfl,h1,h2⟩:=a0l.1 h
  exact RelL.cons (b6J hok hsim ho he hk h1) (b3G hok hsim ho he hk h2)
end
section
variable{E:Env}{N n0:Nat}{s:St}
theorem a5z{id k:Nat}{es:List AV}{e:TypeId}(ho:s.hp[id]?=some (some (.arr es e)))(he:Nat.blt e E.n=true)(hk:Nat.beq (E.ti e).sz k=true) :
  Imp E N n0 s ⟨s.sl.map fun p=>(p.1,frz id k es p.2),(s.hp.map (Option.map (c8Z id k es))).set id none⟩:=by
 intro m0 w0 hn m w a hext hs
 have hid:id<s.hp.length:=(List.getElem?_eq_some_iff.1 ho).1
 have hidm:id<m.length:=by rw [hs.sim.len];exact hid
 have hget:∀(i:Nat) (x:MS),x≠.dead->(m.set id .dead)[i]?=some x->m[i]?=some x/\i≠id:=fun i x hx h=>by
  by_cases hi:id=i
  ·subst hi;rw [List.getElem?_set_self hidm] at h;cases h;exact absurd rfl hx
  ·rw [List.getElem?_set_ne hi] at h;exact ⟨h,Ne.symm hi⟩
 have hsub:∀b,MS.blk b∈m.set id .dead->MS.blk b∈m:=fun b hb=>by
  obtain ⟨i,hi,he⟩:=List.getElem_of_mem hb
  exact List.mem_of_getElem? (hget i _ (by simp) (by rw [List.getElem?_eq_getElem hi,he])).1
 have hc:Cmp some E.cx E.cx m (m.set id .dead):=⟨rfl,fun i j hij hi=>by
  cases hij
  exact ⟨by simpa using hi,fun x hx h=>(hget _ x hx h).1⟩,fun b h=>h.imp (hsub b) (fun h=>h)⟩
 refine ⟨m.set id .dead,⟨hext.os,hext.tape,hext.output,hext.size,hext.keep,fun b hb h=>hext.fresh b hb (hsub b h),by simpa using hext.len,fun i x hi hx h=>hext.ids i x hi hx (hget i x hx h).1,hext.shape⟩,?_⟩
 refine ⟨hs.ok,fun j=>?_,hs.size,hs.defers,?_,fun g=>Rel.cmp_all hc (hs.glob g)⟩
 ·show Abs.Rel E.cx _ w (get (s.sl.map fun p=>(p.1,frz id k es p.2)) j) _
  rw [get_map _ rfl]
  exact b6J hs.ok hs.sim ho he hk (hs.slots j)
 refine ⟨by simp [hs.sim.len],fun i o hi=>?_,fun i hi=>?_,fun i j b hi hj=>?_,hs.sim.xlt,fun b hb=>hs.sim.disj b (hsub b hb)⟩
 ·by_cases h:id=i
  ·subst h;rw [List.getElem?_set_self (by simpa using hid)] at hi;cases hi
  rw [List.getElem?_set_ne h,List.getElem?_map] at hi
  cases h0:s.hp[i]? with
  | none=>rw [h0] at hi;cases hi
  | some o0 =>
   rw [h0] at hi
   cases o0 with
   | none=>simp at hi
   | some o1 =>
    simp only [Option.map_some,Option.some.injEq] at hi
    subst hi
    obtain ⟨x,h1,h2⟩:=hs.sim.live i o1 h0
    refine ⟨x,by rw [List.getElem?_set_ne h];exact h1,?_⟩
    cases o1 with
    | cells cs e2 =>
     cases x with
     | dead=>exact h2.elim
     | nil=>exact h2.elim
     | blk b =>
      obtain ⟨us,h3,h4⟩:=h2
      exact ⟨us,h3,b3G hs.ok hs.sim ho he hk h4⟩
    | arr es2 e2=>exact OB.cmp hc (n:=m.length) (fun _ _=>rfl) (OB.ids h2) h2
    | map es2=>exact OB.cmp hc (n:=m.length) (fun _ _=>rfl) (OB.ids h2) h2
    | itr s2 p2=>exact OB.cmp hc (n:=m.length) (fun _ _=>rfl) (OB.ids h2) h2
 ·by_cases h:id=i
  ·subst h;rw [List.getElem?_set_self hidm]
  rw [List.getElem?_set_ne h] at hi ⊢
  refine hs.sim.dead i ?_
  rw [List.getElem?_map] at hi
  cases h0:s.hp[i]? with
  | none=>rw [h0] at hi;cases hi
  | some o0 =>
   rw [h0] at hi
   cases o0 with
   | none=>rfl
   | some o1=>simp at hi
 ·exact hs.sim.inj i j b (hget i _ (by simp) hi).1 (hget j _ (by simp) hj).1
end
end Go.Abs
namespace Go.Abs
section
variable{E:Env}{ρ:Operand->AV}{H:Hp}{K:AV->Hp->Prop}{d:Option Nat}{ty:TypeId}{pos:String}{after:Array Edge}{g:Option (Nat × Bool)}
end
end Go.Abs
namespace Go.Abs
theorem b4l{sz:Cx}{m:Mu}{w:World}{a b:AV}(hab:∀u,Rel sz m w a u->Rel sz m w b u):∀(cs:List AV) (us:List Value) (j:Nat),RelL sz m w cs us->cs[j]?=some a->RelL sz m w (cs.set j b) us
 | [],_,_,_,hj=>by simp at hj
 | c::cs,us,0,h,hj=>by
  obtain ⟨u,r,rfl,h1,h2⟩:=a0l.1 h
  simp at hj
  subst hj
  exact RelL.cons (hab u h1) h2
 | c::cs,us,j+1,h,hj=>by
  obtain ⟨u,r,rfl,h1,h2⟩:=a0l.1 h
  exact RelL.cons h1 (b4l hab cs r j h2 (by simpa using hj))
section
variable{E:Env}{N n0:Nat}{s:St}
theorem a5Z(id j:Nat)(e:TypeId){cs:List AV}{t:TypeId}(ho:s.hp[id]?=some (some (.cells cs t)))(hj:cs[j]?=some .nils) :
  Imp E N n0 s ⟨s.sl,s.hp.set id (some (.cells (cs.set j (.own s.hp.length 0 0)) t))++[some (.arr [] e)]⟩:=by
 intro m0 w0 hn m w a hext hs
 have hml:=hs.sim.len
 have hid:id<s.hp.length:=(List.getElem?_eq_some_iff.1 ho).1
 have hget:∀(i:Nat) (x:MS),(m++[.nil])[i]?=some x->m[i]?=some x\/(i=m.length/\x=.nil):=fun i x h=>by
  rcases Nat.lt_or_ge i m.length with hl|hg
  ·rw [List.getElem?_append_left hl] at h;exact .inl h
  rw [List.getElem?_append_right hg] at h
  have h0:i - m.length=0:=by
   rcases Nat.eq_zero_or_pos (i - m.length) with h0|h0
   ·exact h0
   ·rw [List.getElem?_eq_none (by simp;omega)] at h;cases h
  rw [h0] at h
  simp at h
  exact .inr ⟨by omega,h.symm⟩
 have hsub:∀b,MS.blk b∈m++[.nil]->MS.blk b∈m:=fun b hb=>by simpa using hb
 have he:Ext m w (m++[.nil]) w:=⟨rfl,rfl,rfl,Nat.le_refl _,fun _ _ _=>rfl,fun b _ h=>hsub b h,by simp,fun i x hi hx h=>by rwa [List.getElem?_append_left hi] at h,fun _ _ h=>h⟩
 have hnil:∀u,Abs.Rel E.cx (m++[.nil]) w .nils u->Abs.Rel E.cx (m++[.nil]) w (.own s.hp.length 0 0) u:=fun u h1=>by
  simp only [Abs.Rel] at h1 ⊢
  have hlast:(m++[MS.nil])[s.hp.length]?=some .nil:=by rw [<- hml];simp
  refine ⟨none,0,h1,Nat.le_refl _,Nat.zero_le _,by simp [hml],fun _=>⟨rfl,rfl⟩,fun b hb=>?_⟩
  rw [hlast] at hb;cases hb
 refine ⟨m++[.nil],hext.trans he,hs.ok,fun j=>(hs.slots j).ext he,hs.size,hs.defers,?_,fun g=>(hs.glob g).ext he⟩
 refine ⟨by simp [hml],fun i o ho2=>?_,fun i ho2=>?_,fun i j b hi hj=>?_,hs.sim.xlt,fun b hb=>hs.sim.disj b (hsub b hb)⟩
 ·rcases Nat.lt_or_ge i s.hp.length with hl|hg
  ·rw [List.getElem?_append_left (by simpa using hl)] at ho2
   by_cases h:id=i
   ·subst h
    rw [List.getElem?_set_self hid] at ho2
    cases ho2
    obtain ⟨x,h1,h2⟩:=hs.sim.live id _ ho
    refine ⟨x,by rw [List.getElem?_append_left (hml ▸ hl)];exact h1,?_⟩
    cases x with
    | dead=>exact h2.elim
    | nil=>exact h2.elim
    | blk b =>
     obtain ⟨us,h3,h4⟩:=(h2.ext he fun _ _=>rfl:OB E.cx (m++[.nil]) w (.cells cs t) (.blk b))
     exact ⟨us,h3,b4l hnil cs us.toList j h4 hj⟩
   rw [List.getElem?_set_ne h] at ho2
   obtain ⟨x,h1,h2⟩:=hs.sim.live i o ho2
   exact ⟨x,by rw [List.getElem?_append_left (hml ▸ hl)];exact h1,h2.ext he fun _ _=>rfl⟩
  rw [List.getElem?_append_right (by simpa using hg)] at ho2
  simp only [List.length_set] at ho2
  have h0:i - s.hp.length=0:=by
   rcases Nat.eq_zero_or_pos (i - s.hp.length) with h0|h0
   ·exact h0
   ·rw [List.getElem?_eq_none (by simp;omega)] at ho2;cases ho2
  rw [h0] at ho2
  simp at ho2
  subst ho2
  refine ⟨.nil,?_,rfl⟩
  rw [List.getElem?_append_right (by omega),hml,h0];rfl
 ·rcases Nat.lt_or_ge i s.hp.length with hl|hg
  ·rw [List.getElem?_append_left (by simpa using hl)] at ho2
   rw [List.getElem?_append_left (hml ▸ hl)]
   by_cases h:id=i
   ·subst h;rw [List.getElem?_set_self hid] at ho2;cases ho2
   ·rw [List.getElem?_set_ne h] at ho2
    exact hs.sim.dead i ho2
  rw [List.getElem?_append_right (by simpa using hg)] at ho2
  simp only [List.length_set] at ho2
  have h0:i - s.hp.length=0:=by
   rcases Nat.eq_zero_or_pos (i - s.hp.length) with h0|h0
   ·exact h0
   ·rw [List.getElem?_eq_none (by simp;omega)] at ho2;cases ho2
  rw [h0] at ho2
  simp at ho2
 ·rcases hget i _ hi with h1|⟨_,h1⟩<;>rcases hget j _ hj with h2|⟨_,h2⟩<;>first|exact hs.sim.inj i j b h1 h2|cases h1|cases h2
end
end Go.Abs
namespace Go.Abs
def gcG(pre:Hp)(ids:List Nat)(i:Nat):Option Nat:=match pre[i]? with
 | some (some _)=>some i
 | _=>(ids.idxOf? i).map (·+pre.length)
def b4Y(pre:Hp)(m:Mu)(i:Nat):MS:=match pre[i]? with
 | some (some _)=>(m[i]?).getD .dead
 | _=>.dead
section
variable{E:Env}{N n0:Nat}{s:St}
theorem c3O(pre:Hp)(ids:List Nat)(sl':List (Nat × AV))(os:List AO)(hk:n0<=pre.length)(hkl:pre.length<=s.hp.length)(hnd:ids.Nodup)(hge:∀i∈ids,pre.length<=i\/pre[i]?=some none)
  (hpre:∀(j:Nat) (o':AO),pre[j]?=some (some o')->∃o,s.hp[j]?=some (some o)/\b5C (gcG pre ids) o o')
  (hsl:∀p∈sl',Ren (gcG pre ids) (get s.sl p.1) p.2) (hlen:os.length=ids.length)
  (hos:∀(j i:Nat) (o':AO),ids[j]?=some i->os[j]?=some o'->∃o,s.hp[i]?=some (some o)/\b5C (gcG pre ids) o o'):Imp E N n0 s ⟨sl',pre++os.map some⟩:=by
 intro m0 w0 hn m w a hext hs
 have hml:=hs.sim.len
 generalize hkk:pre.length=k at *
 have hdef:∀i∈ids,i<m.length:=fun i hi=>by
  obtain ⟨j,hj,he⟩:=List.getElem_of_mem hi
  have h1:ids[j]?=some i:=by rw [List.getElem?_eq_getElem hj,he]
  obtain ⟨o,ho,_⟩:=hos j i os[j] h1 (List.getElem?_eq_getElem (by omega))
  rw [hml];exact (List.getElem?_eq_some_iff.1 ho).1
 generalize hM:((List.range k).map (b4Y pre m)++ids.map fun i=>(m[i]?).getD .dead:Mu)=m2
 have hkm:((List.range k).map (b4Y pre m)).length=k:=by simp
 have hl2:m2.length=k+ids.length:=by rw [<- hM];simp
 have hlo:∀j,j<k->m2[j]?=some (b4Y pre m j):=fun j hj=>by
  rw [<- hM,List.getElem?_append_left (by omega)]
  simp [hj]
 have hhi:∀j i,ids[j]?=some i->m2[k+j]?=m[i]?:=fun j i hi=>by
  rw [<- hM,List.getElem?_append_right (by omega),hkm,Nat.add_sub_cancel_left,List.getElem?_map,hi]
  have hlt:=hdef i (List.mem_of_getElem? hi)
  simp [List.getElem?_eq_getElem hlt]
 -- where a state comes from
 have hm2:∀(j:Nat) (x:MS),m2[j]?=some x->x≠.dead->(∃o,pre[j]?=some (some o)/\j<k/\m[j]?=some x)\/(k<=j/\∃i,ids[j - k]?=some i/\m[i]?=some x):=fun j x h hx=>by
  rcases Nat.lt_or_ge j k with hj|hj
  ·rw [hlo j hj] at h
   unfold b4Y at h
   split at h
   ·rename_i o ho
    have hjm:j<m.length:=by omega
    rw [List.getElem?_eq_getElem hjm] at h
    simp only [Option.getD_some] at h
    exact .inl ⟨o,ho,hj,by rw [List.getElem?_eq_getElem hjm];exact h⟩
   ·cases h;exact absurd rfl hx
  have hji:j - k<ids.length:=by have:=(List.getElem?_eq_some_iff.1 h).1;omega
  have h1:ids[j - k]?=some ids[j - k]:=List.getElem?_eq_getElem hji
  have h2:=hhi (j - k) _ h1
  rw [Nat.add_sub_cancel' hj,h] at h2
  exact .inr ⟨hj,_,h1,h2.symm⟩
 have hidx:∀i j,gcG pre ids i=some j->((∃o,pre[i]?=some (some o))/\j=i/\i<k)\/(k<=j/\ids[j - k]?=some i):=fun i j h=>by
  unfold gcG at h
  split at h
  ·rename_i o ho
   cases h
   exact .inl ⟨⟨o,ho⟩,rfl,by rw [<- hkk];exact (List.getElem?_eq_some_iff.1 ho).1⟩
  rw [hkk] at h
  simp only [Option.map_eq_some_iff] at h
  obtain ⟨q,hq,rfl⟩:=h
  refine .inr ⟨by omega,?_⟩
  rw [Nat.add_sub_cancel]
  exact a8h hq
 have hsub:∀b,MS.blk b∈m2->MS.blk b∈m:=fun b hb=>by
  obtain ⟨j,hj,he⟩:=List.getElem_of_mem hb
  rcases hm2 j _ (by rw [List.getElem?_eq_getElem hj,he]) (by simp) with ⟨_,_,_,h⟩|⟨_,i,_,h⟩<;>exact List.mem_of_getElem? h
 have hc:Cmp (gcG pre ids) E.cx E.cx m m2:=⟨rfl,fun i j hij hi=>by
  rcases hidx i j hij with ⟨⟨o,h0⟩,rfl,h1⟩|⟨h1,h2⟩
  ·refine ⟨by omega,fun x hx h=>?_⟩
   rcases hm2 j x h hx with ⟨_,_,_,h⟩|⟨h,_⟩
   ·exact h
   ·omega
  refine ⟨by rw [hl2];have:=(List.getElem?_eq_some_iff.1 h2).1;omega,fun x hx h=>?_⟩
  rcases hm2 j x h hx with ⟨_,_,h,_⟩|⟨_,i',h3,h4⟩
  ·omega
  ·rw [h2] at h3;cases h3;exact h4,fun b h=>h.imp (hsub b) (fun h=>h)⟩
 refine ⟨m2,⟨hext.os,hext.tape,hext.output,hext.size,hext.keep,fun b hb h=>hext.fresh b hb (hsub b h),by rw [hl2];omega,fun i x hi hx h=>?_,hext.shape⟩,?_⟩
 ·refine hext.ids i x hi hx ?_
  rcases hm2 i x h hx with ⟨_,_,_,h⟩|⟨h,_⟩
  ·exact h
  ·omega
 refine ⟨hs.ok,fun j=>?_,hs.size,hs.defers,?_,fun g=>?_⟩
 ·have key:∀l:List (Nat × AV),(∀p∈l,Ren (gcG pre ids) (get s.sl p.1) p.2)->get l j=.any\/Ren (gcG pre ids) (get s.sl j) (get l j):=by
   intro l
   induction l with
   | nil=>intro _;exact .inl rfl
   | cons p r ih =>
    intro h
    obtain ⟨q,v⟩:=p
    rw [a0R]
    split
    ·rename_i hq;subst hq;exact .inr (h (q,v) (by simp))
    ·exact ih fun p hp=>h p (by simp [hp])
  show Abs.Rel E.cx _ w (get sl' j) _
  rcases key sl' hsl with h|h
  ·rw [h];simp [Abs.Rel]
  ·exact h _ _ _ _ _ hc (hs.slots j)
 ·have hH:∀(j:Nat) (o:Option AO),(pre++os.map some)[j]?=some o->(j<k/\pre[j]?=some o)\/(k<=j/\∃o',os[j - k]?=some o'/\o=some o'):=fun j o h=>by
   rcases Nat.lt_or_ge j k with hj|hj
   ·rw [List.getElem?_append_left (by omega)] at h
    exact .inl ⟨hj,h⟩
   rw [List.getElem?_append_right (by omega),hkk,List.getElem?_map] at h
   cases ho:os[j - k]? with
   | none=>rw [ho] at h;cases h
   | some o'=>rw [ho] at h;simp at h;exact .inr ⟨hj,o',rfl,h.symm⟩
  refine ⟨by rw [hl2];simp;omega,fun j o ho=>?_,fun j ho=>?_,fun i j b hi hj=>?_,hs.sim.xlt,fun b hb=>hs.sim.disj b (hsub b hb)⟩
  ·rcases hH j _ ho with ⟨h1,h2⟩|⟨h1,o',h2,h3⟩
   ·obtain ⟨o0,h3,h4⟩:=hpre j o h2
    obtain ⟨x,h5,h6⟩:=hs.sim.live j o0 h3
    refine ⟨x,?_,h4 _ _ _ _ _ hc h6⟩
    rw [hlo j h1]
    unfold b4Y
    rw [h2]
    simp [h5]
   cases h3
   have hjl:j - k<ids.length:=by rw [<- hlen];exact (List.getElem?_eq_some_iff.1 h2).1
   obtain ⟨o2,h4,h5⟩:=hos (j - k) ids[j - k] o (List.getElem?_eq_getElem hjl) h2
   obtain ⟨x,h6,h7⟩:=hs.sim.live _ _ h4
   refine ⟨x,?_,h5 _ _ _ _ _ hc h7⟩
   have:=hhi (j - k) _ (List.getElem?_eq_getElem hjl)
   rw [Nat.add_sub_cancel' h1] at this
   rw [this,h6]
  ·rcases hH j _ ho with ⟨h1,h2⟩|⟨h1,o',h2,h3⟩
   ·rw [hlo j h1]
    unfold b4Y
    rw [h2]
   ·cases h3
  have hno:∀(i j:Nat) (o:AO),pre[i]?=some (some o)->i<k->ids[j]?=some i->False:=fun i j o h1 h2 h3=>by
   rcases hge i (List.mem_of_getElem? h3) with h|h
   ·omega
   ·rw [h1] at h;cases h
  rcases hm2 i _ hi (by simp) with ⟨o1,h1,h1k,h2⟩|⟨h1,i',h2,h3⟩<;>rcases hm2 j _ hj (by simp) with ⟨o4,h4,h4k,h5⟩|⟨h4,j',h5,h6⟩
  ·exact hs.sim.inj i j b h2 h5
  ·have:=hs.sim.inj i j' b h2 h6;subst this;exact (hno i _ o1 h1 h1k h5).elim
  ·have:=hs.sim.inj i' j b h3 h5;subst this;exact (hno i' _ o4 h4 h4k h2).elim
  have h7:=hs.sim.inj i' j' b h3 h6
  subst h7
  obtain ⟨p1,p2⟩:=List.getElem?_eq_some_iff.1 h2
  obtain ⟨p3,p4⟩:=List.getElem?_eq_some_iff.1 h5
  have hpw:=List.pairwise_iff_getElem.1 hnd
  rcases Nat.lt_trichotomy (i - k) (j - k) with h|h|h
  ·exact absurd (p2.trans p4.symm) (hpw _ _ p1 p3 h)
  ·omega
  ·exact absurd (p4.trans p2.symm) (hpw _ _ p3 p1 h)
 ·exact Rel.cmp hc (n:=0) (fun _ h=>absurd h (Nat.not_lt_zero _)) _ (hs.ok.2.2 g) (hs.glob g)
end
theorem a0F{f:Nat->Option Nat}{v v':AV}(e:v=v')(h:a0g 0 v'):Ren f v v':=by
 subst e;exact b2J 0 (fun i h=>absurd h (Nat.not_lt_zero i)) h
def b9I(hp:Hp)(f:Nat->Option Nat):Nat->Hp->Prop
 | _,[]=>True
 | j,none::r=>b9I hp f (j+1) r
 | j,some o'::r=>(∃o,hp[j]?=some (some o)/\b5C f o o')/\b9I hp f (j+1) r
theorem a8s{hp:Hp}{f:Nat->Option Nat}:∀(pre:Hp) (j0:Nat),b9I hp f j0 pre->∀(j:Nat) (o':AO),pre[j]?=some (some o')->∃o,hp[j0+j]?=some (some o)/\b5C f o o'
 | [],_,_,j,_,h=>by simp at h
 | none::r,j0,hp,0,_,h=>by simp at h
 | none::r,j0,hp,j+1,o',h=>by
  have:=a8s r (j0+1) hp j o' (by simpa using h)
  rw [show j0+(j+1)=j0+1+j by omega];exact this
 | some a::r,j0,hp,0,o',h=>by
  simp at h;subst h
  exact hp.1
 | some a::r,j0,hp,j+1,o',h=>by
  have:=a8s r (j0+1) hp.2 j o' (by simpa using h)
  rw [show j0+(j+1)=j0+1+j by omega];exact this
theorem a8i{E:Env}{N n0:Nat}{sl sl':List (Nat × AV)}{hp H':Hp}(pre:Hp)(ids:List Nat)(os:List AO)(hk:n0<=pre.length)(hkl:pre.length<=hp.length)(hnd:ids.Nodup)(hge:∀i∈ids,pre.length<=i\/pre[i]?=some none)
  (hlen:os.length=ids.length) (hH:pre++os.map some=H') (hpre:b9I hp (gcG pre ids) 0 pre) (hsl:∀p∈sl',Ren (gcG pre ids) (get sl p.1) p.2) (hos:b9H hp (gcG pre ids) ids os):Imp E N n0 ⟨sl,hp⟩ ⟨sl',H'⟩ :=
 hH ▸ c3O (E:=E) (N:=N) (n0:=n0) (s:=⟨sl,hp⟩) pre ids sl' os hk hkl hnd hge (fun j o' h=>by have:=a8s pre 0 hpre j o' h;rwa [Nat.zero_add] at this) hsl hlen hos
end Go.Abs
namespace Go.Abs
def Tb.new:Tb:=⟨3,List.replicate 8 .empty,0,[],0,0,0,0⟩
theorem a3q(l:List Pc)(e:TypeId){f:Nat->Option Nat}:b5C f (.arr (l.map pcA) e) (.arr (l.map pcA) e):=a0A 0 (fun i h=>absurd h (Nat.not_lt_zero i)) (a3n l)
attribute [local irreducible] a0B a1G AWp Nx awM
theorem c3a(X:Nat->Prop):a0b (E0 X) 119 [] [] (fun r H'=>r=.ptr 0 0/\H'=tbH Tb.new):=by
 refine a0b.imp (R:=fun r H'=>r=.ptr 2 0/\H'=[some (.cells [.int .i64 3,.own 1 0 8] 241),some (.arr ((List.replicate 8 Pc.empty).map pcA) 251),some (.cells [.int .i64 3,.own 1 0 8,.int .i64 0,.nils,.int .i64 0,.int .i64 0,.int .i64 0,.int .i64 0] 244)]) ?_ ?_
 ·refine Z0 Proofs.Tryz.func119 rfl Proofs.Tryz.ntmps119 (by kernel_rfl) rfl ?_
  repeat' (first|refine Zs rfl ?_|refine Zc rfl ?_)
  refine Zf rfl rfl (a8m X 3 (by decide)) rfl rfl rfl ?_
  repeat' (refine Zs rfl ?_)
  exact a0c ⟨_,rfl,rfl,rfl⟩
 rintro r H' ⟨rfl,rfl⟩
 refine ⟨_,_,⟨rfl,rfl⟩,(a5Z 2 3 251 rfl rfl).trans (a0L 0 [2,1,3] (H':=tbH Tb.new) (sl':=[(0,.ptr 0 0)])
  (os:=[.cells [.int .i64 3,.own 1 0 8,.int .i64 0,.own 2 0 0,.int .i64 0,.int .i64 0,.int .i64 0,.int .i64 0] 244,.arr ((List.replicate 8 Pc.empty).map pcA) 251,.arr [] 251])
  (Nat.le_refl _) (Nat.zero_le _) (by simp) (by simp) a0T rfl rfl ?_ ?_)⟩
 ·repeat' (first|exact a0k|refine a0a ?_ ?_|exact a1g rfl)
 ·refine a0v rfl (a1j ?_) (a0v rfl (a3q _ _) (a0v rfl (a3q [] _) a0N))
  repeat' (first|exact a3b.nil|refine a3b.cons ?_ ?_|exact a0D rfl|exact a0s rfl (by first|trivial|(simp [a0g,a0e];done)))
theorem b2t(X:Nat->Prop)(b:Nat)(hb:b<=21)(H:Hp):a0b (E0 X) 162 [.int .i64 (b:Int)] H (fun r H'=>r=.agg [.int .i64 (b:Int),.own (H.length+1) 0 (2 ^ b)] /\
  H'=H++[some (.cells [.int .i64 (b:Int),.own (H.length+1) 0 (2 ^ b)] 241),some (.arr ((List.replicate (2 ^ b) Pc.empty).map pcA) 251)]):=by
 refine (a1H (E:=E0 X) (fun X=>a8m X b hb) (fun r h' h=>by obtain ⟨rfl,rfl⟩:=h;exact ⟨rfl,by simp [-List.map_replicate,a6x,a7n,b9B,a5B,a2h (f:=pcA) (fun p=>by cases p<;>rfl)]⟩) (Bor.same trivial .nil)).mono ?_
 rintro r H' ⟨r0,h',⟨rfl,rfl⟩,rfl,rfl⟩
 have h1:rnL (·+H.length) ((List.replicate (2 ^ b) Pc.empty).map pcA)=(List.replicate (2 ^ b) Pc.empty).map pcA:=a1a _ (a3n _)
 exact ⟨by simp [rnA,rnL,Nat.add_comm],by simp [-List.map_replicate,a1U,rnO,rnA,rnL,h1,Nat.add_comm]⟩
def tbV(t:Tb)(junk:List Pc):Hp:=[some (.cells [.int .i64 (t.bn:Int),.own 3 0 t.now.length,.int .i64 (t.bo:Int),.own 1 0 t.old.length,.int .i64 (t.pos:Int),.int .i64 (t.oldLen:Int),.int .i64 (t.nowLen:Int),.int .i64 (t.work:Int)] 244),some (.arr (t.old.map pcA) 251),some (.arr (junk.map pcA) 251),some (.arr (t.now.map pcA) 251)]
def Tb.grew(t:Tb):Tb:={ bn:=t.bn+1,now:=List.replicate (2 ^ (t.bn+1)) .empty,bo:=t.bn,old:=t.now,pos:=0,oldLen:=t.nowLen,nowLen:=0,work:=t.work }
def tbR(t:Tb)(junk:List Pc):Hp:=[some (.cells [.int .i64 (t.bn:Int),.own 4 0 t.now.length,.int .i64 (t.bo:Int),.own 1 0 t.old.length,.int .i64 (t.pos:Int),.int .i64 (t.oldLen:Int),.int .i64 (t.nowLen:Int),.int .i64 (t.work:Int)] 244),some (.arr (t.old.map pcA) 251),some (.arr (junk.map pcA) 251),
 some (.cells [.int .i64 (t.bn:Int),.own 4 0 t.now.length] 241),some (.arr (t.now.map pcA) 251)]
theorem c5v(X:Nat->Prop)(t:Tb)(h:TOk t):a0b (E0 X) 166 [.ptr 0 0] (tbH t) (fun r H'=>r=.tup []/\H'=if 3*t.now.length<4*(t.nowLen+t.oldLen+1) then tbR t.grew t.old else tbH t):=by
 have hlt:=h.lt
 have hb:=h.2
 have e1:IntKind.i64.wrap (3*(t.now.length:Int))=3*(t.now.length:Int):=a0p (by omega) (by omega)
 have e2:IntKind.i64.wrap (4*IntKind.i64.wrap (((t.nowLen+t.oldLen:Nat):Int)+1))=4*(((t.nowLen+t.oldLen:Nat):Int)+1):=by
  rw [a0p (n:=((t.nowLen+t.oldLen:Nat):Int)+1) (by omega) (by omega),a0p (by omega) (by omega)]
 have e3:IntKind.i64.wrap ((t.bn:Int)+1)=((t.bn+1:Nat):Int):=a0p (by omega) (by omega)
 refine Z0 Proofs.Tryz.func166 rfl Proofs.Tryz.ntmps166 (by kernel_rfl) rfl ?_
 repeat' (refine Zc rfl ?_)
 refine a0m [] [] (by exact rfl) (by kernel_rfl) ?_
 repeat' (refine Zd rfl ?_)
 apply ds rfl rfl rfl rfl
 ·refine Ck (fun _=>rfl) rfl (c7Q X t h) ?_
  exact nx rfl rfl ⟨rfl,rfl⟩
 repeat' (first|refine Zd rfl ?_|refine Zk ?_)
 refine a0d rfl (fun h2=>?_) (fun h2=>?_)
 ·rw [e1,e2] at h2
  rw [if_pos (by omega)]
  repeat' (refine Zc rfl ?_)
  refine Qx rfl (by kernel_rfl) ?_
  repeat' (first|refine Zs rfl ?_|refine Zc rfl ?_|refine Zd rfl ?_)
  rw [e3]
  refine Zf rfl rfl (b2t X (t.bn+1) (by omega) _) rfl rfl rfl ?_
  repeat' (refine Zs rfl ?_)
  refine ⟨_,rfl,rfl,?_⟩
  simp [tbR,Tb.grew]
 rw [e1,e2] at h2
 rw [if_neg (by omega)]
 repeat' (refine Zc rfl ?_)
 exact ⟨_,rfl,rfl,rfl⟩
theorem c5u(X:Nat->Prop)(t:Tb)(h:TOk t):a0b (E0 X) 166 [.ptr 0 0] (tbH t) (fun r H'=>r=.tup []/\H'=if 3*t.now.length<4*(t.nowLen+t.oldLen+1) then tbV t.grew t.old else tbH t):=by
 refine (c5v X t h).imp fun r H' h=>?_
 obtain ⟨rfl,rfl⟩:=h
 refine ⟨_,_,⟨rfl,rfl⟩,?_⟩
 split
 ·refine a8i [some (.cells [.int .i64 (t.grew.bn:Int),.own 3 0 t.grew.now.length,.int .i64 (t.grew.bo:Int),.own 1 0 t.grew.old.length,.int .i64 (t.grew.pos:Int),.int .i64 (t.grew.oldLen:Int),.int .i64 (t.grew.nowLen:Int),.int .i64 (t.grew.work:Int)] 244),some (.arr (t.grew.old.map pcA) 251),some (.arr (t.old.map pcA) 251)]
   [4] [.arr (t.grew.now.map pcA) 251] (Nat.le_refl _) (by simp [tbR]) (by simp) (by simp) rfl rfl ⟨⟨_,rfl,?_⟩,⟨_,rfl,a3q _ _⟩,⟨_,rfl,a3q _ _⟩,trivial⟩ ?_ ?_
  ·refine a1j ?_
   repeat' (first|exact a3b.nil|refine a3b.cons ?_ ?_|exact a0D rfl|exact a0F rfl (by first|trivial|(simp [a0g,a0e];done)))
  ·repeat' (first|exact a0k|refine a0a ?_ ?_|exact a0F rfl (by first|trivial|(simp [a0g,a0e];done)))
  ·exact a0v rfl (a3q _ _) a0N
 refine a0i 3 (Nat.le_refl _) (a2w t) rfl (Nat.le_refl 3) ?_
 repeat' (first|exact a0k|refine a0a ⟨?_,?_⟩ ?_)
 all_goals (try first|exact rfl|exact trivial)
theorem a8H{l:List Pc}{b:Nat}{k:Key}{e:En}(ho:a6o (a1q b) l)(hz:∃z:Nat,l[z]?=some .empty) :
  (a6o (a1q b) (l.set (a1E b l k).1 (.used k e))/\∀k',look (l.set (a1E b l k).1 (.used k e)) k'=if k'=k then some e else look l k') /\
   ((a1E b l k).2=true->∃e0,l[(a1E b l k).1]?=some (.used k e0)/\look l k=some e0)/\((a1E b l k).2=false->l[(a1E b l k).1]?=some .empty/\look l k=none):=by
 obtain ⟨d,h1,h2,⟨h3,h4⟩|⟨e0,h3,h4⟩⟩:=find_spec (b:=b) (k:=k) hz
 ·rw [h4]
  exact ⟨c4D ho h2 h1 h3,(fun h=>by cases h),fun _=>⟨h3,h2.absent ho h3 h1⟩⟩
 ·rw [h4]
  exact ⟨c4E ho h3,fun _=>⟨e0,h3,(a1L ho).2 ⟨_,h3⟩⟩,fun h=>by cases h⟩
theorem b6k{l:List Pc}{i:Nat}{k:Key}{e:En}{y:Pc}(h:l[i]?=some y):a5t (l.set i (.used k e))=if isU y then a5t l else a5t l+1:=by
 have:=a5R (x:=.used k e) h
 rw [show isU (.used k e)=true from rfl] at this
 cases hy:isU y<;>simp [hy] at this ⊢<;>omega
theorem TOk.putE{t:Tb}(h:TOk t){k:Key}{e:En}(hno:look t.old k=none)(hld:4*t.oldLen+32*(t.nowLen+1+t.oldLen)<=24*t.now.length\/(a1E t.bn t.now k).2=true) :
  TOk (t.putE k e)/\∀k',(t.putE k e).look k'=if k'=k then some e else t.look k':=by
 obtain ⟨h1,h2,h3⟩:=a8H (k:=k) (e:=e) h.1.nok h.1.free
 have hn:(if (a1E t.bn t.now k).2 then t.nowLen else t.nowLen+1)=a5t (t.now.set (a1E t.bn t.now k).1 (.used k e)):=by
  cases hc:(a1E t.bn t.now k).2 with
  | true =>
   obtain ⟨e0,g1,_⟩:=h2 hc
   rw [b6k g1,h.1.nc];rfl
  | false =>
   rw [b6k (h3 hc).1,h.1.nc];rfl
 obtain ⟨g1,g2⟩:=h.1.put (i:=(a1E t.bn t.now k).1) hno h1 hn (by
  have:=h.1.ld
  split
  ·exact this
  rename_i hc
  rcases hld with hl|hl
  ·exact hl
  ·exact absurd hl hc)
 exact ⟨⟨g1,h.2⟩,g2⟩
theorem TOk.forg{t:Tb}(h:TOk t)(k:Key):TOk (t.forg k).1/\look (t.forg k).1.old k=none/\(∀k',(t.forg k).1.look k'=if (t.forg k).2=true/\k'=k then none else t.look k') /\
  ((t.forg k).2=true->look t.now k=none/\∃e,look t.old k=some e)/\((t.forg k).2=false->look t.old k=none)/\(t.forg k).1.now=t.now/\(t.forg k).1.nowLen=t.nowLen/\(t.forg k).1.oldLen<=t.oldLen/\(t.forg k).1.bn=t.bn:=by
 unfold Tb.forg
 by_cases h0:t.oldLen=0
 ·rw [if_pos h0]
  have h1:look t.old k=none:=a5S (by rw [<- h.1.oc];exact h0) k
  exact ⟨h,h1,fun k'=>by simp,(fun h=>by cases h),fun _=>h1,rfl,rfl,Nat.le_refl _,rfl⟩
 rw [if_neg h0]
 obtain ⟨g1,g2,g3,g4,g5⟩:=h.1.ook (by omega)
 obtain ⟨_,f2,f3⟩:=a8H (b:=t.bo) (k:=k) (e:=⟨0,0,0,0,false⟩) g1 g5
 cases hc:(a1E t.bo t.old k).2 with
 | true =>
  obtain ⟨e0,q1,q2⟩:=f2 hc
  obtain ⟨p1,p2,p3,p4⟩:=h.1.forget q1
  exact ⟨⟨p1,h.2⟩,p2,fun k'=>by simpa using p3 k',fun _=>⟨p4,e0,q2⟩,(fun h=>by cases h),rfl,rfl,Nat.sub_le _ _,rfl⟩
 | false =>
  have h1:=(f3 hc).2
  exact ⟨h,h1,fun k'=>by simp,(fun h=>by cases h),fun _=>h1,rfl,rfl,Nat.le_refl _,rfl⟩
section
variable{E:Env}{ops:Array Oper}{K:St->Prop}{sl:List (Nat × AV)}{hp:Hp}{d:Nat}{ty:TypeId}{pos:String}{after:Array Edge}{g:Option (Nat × Bool)}
variable{f:Operand}{args:List Operand}{tys:Array TypeId}{k:FuncId}{cap xs:List AV}
theorem Zx{ι:Type}{P:ι->Prop}{r0:ι->AV}{h0:ι->Hp}{rest:List Oper}(hw:a0S ops ⟨some d,.call ⟨.value f,args.toArray,tys⟩,ty,pos,after,g⟩ sl=some true)(hf:ev E sl f=.clo (.func k) [] cap)
  (hc:a0b E k xs hp fun r' H'=>∃i,P i/\r'=r0 i/\H'=h0 i) (ha:args.map (ev E sl)++cap=xs)
  (h:∀i,P i->b1W E ops rest K ⟨(d,r0 i)::sl,h0 i⟩):a1G E ops (⟨some d,.call ⟨.value f,args.toArray,tys⟩,ty,pos,after,g⟩::rest) K ⟨sl,hp⟩:=by
 subst ha
 refine a2G hw (a1h (fun _=>rfl) hf (hc.mono ?_))
 rintro _ _ ⟨i,hi,rfl,rfl⟩
 exact a5M (h i hi)
end
theorem a1r{E:Env}{N n0:Nat}{Q Q2:Exit->St->Prop}{s:St}{c c2:Code}{ι:Type}(σ:ι->St)(I:ι->Prop)(h1:AWp E N n0 c (fun e s'=>e=.normal/\∃i,I i/\Imp E N n0 s' (σ i)) s)(h2:∀i,I i->AWp E N n0 c2 Q2 (σ i)):AWp E N n0 c (a8M (AWp E N n0 c2 Q2) Q) s :=
 a3y h1 fun e s' ⟨he,i,hi,im⟩=>by subst he;exact a0t im (h2 i hi)
theorem a2a{E:Env}{ρ:Operand->AV}{H:Hp}{K:AV->Hp->Prop}{d:Option Nat}{ty:TypeId}{pos:String}{after:Array Edge}{g:Option (Nat × Bool)}
  {t e:TypeId} {x:Operand} {id i off:Nat} {es:List AV} {y r:AV} (hp:ρ x=.pe id i off) (ho:H[id]?=some (some (.arr es e))) (hy:es[i]?=some y) (hkn:known y=true)
  (ht:Nat.blt t E.n=true) (hr:ldA (E.ti t) ((a1d y).drop off)=some r) (h:K r H):a0B E ⟨d,.load t x,ty,pos,after,g⟩ ρ H K :=
 a4h (cs:=(a1d y).drop off) (by rw [hp];simp [a2y,ho,hy,hkn]) ht hr h
def tbC(t:Tb)(a b:Nat):AO:=.cells [.int .i64 (t.bn:Int),.own a 0 t.now.length,.int .i64 (t.bo:Int),.own b 0 t.old.length,.int .i64 (t.pos:Int),.int .i64 (t.oldLen:Int),.int .i64 (t.nowLen:Int),.int .i64 (t.work:Int)] 244
def tbO(t:Tb):Hp:=[some (tbC t 3 4),none,none,some (.arr (t.now.map pcA) 251),some (.arr (t.old.map pcA) 251)]
theorem b9f{E:Env}{N n0:Nat}{sl sl':List (Nat × AV)}{H':Hp}(a b:Nat)(t:Tb)(h0:H'[0]?=some (some (tbC t a b)))(ha:H'[a]?=some (some (.arr (t.now.map pcA) 251)))
  (hb:H'[b]?=some (some (.arr (t.old.map pcA) 251))) (hn:n0<=3) (hl:3<=H'.length) (hnd:[a,b].Nodup) (hg:∀i∈[a,b],3<=i\/([some (tbC t 3 4),none,none]:Hp)[i]?=some none)
  (ga:gcG [some (tbC t 3 4),none,none] [a,b] a=some 3) (gb:gcG [some (tbC t 3 4),none,none] [a,b] b=some 4) (hsl:∀p∈sl',Ren (gcG [some (tbC t 3 4),none,none] [a,b]) (get sl p.1) p.2):Imp E N n0 ⟨sl,H'⟩ ⟨sl',tbO t⟩:=by
 refine a8i [some (tbC t 3 4),none,none] [a,b] [.arr (t.now.map pcA) 251,.arr (t.old.map pcA) 251] hn hl hnd hg rfl rfl ⟨⟨_,h0,a1j ?_⟩,trivial⟩ hsl (a0v ha (a3q _ _) (a0v hb (a3q _ _) a0N))
 refine a3b.cons (a0F rfl trivial) (a3b.cons (a0D ga) (a3b.cons (a0F rfl trivial) (a3b.cons (a0D gb) ?_)))
 repeat' (first|exact a3b.nil|refine a3b.cons ?_ ?_|exact a0F rfl (by first|trivial|(simp [a0g,a0e];done)))
theorem a5m(g:Nat->Nat)(l:List Pc):rnL g (l.map pcA)=l.map pcA:=a1a _ (a3n l)
theorem b9g{f:FuncId}{rest:List AV}{r0:AV}{t t':Tb}(hc:∀X,a0b (E0 X) f (.ptr 0 0::rest) (tbH t) (fun r H'=>r=r0/\H'=tbH t'))(hrest:a0e 0 rest)(hr0:a0g 0 r0)(X:Nat->Prop) :
  a0b (E0 X) f (.ptr 0 0::rest) (tbO t) (fun r H'=>r=r0/\H'=tbO t'):=by
 have h:=a0b.frame (E:=E0 X) (fun X=>hc X) [0,3,4] (tbO t) (by simp) rfl (fun j=>by
  match j with
  | 0=>simp [tbH]
  | 1=>simp [tbH]
  | 2=>simp [tbH]
  | j+3=>simp [tbH]) (fun j i o hj hh=>by
  match j,hj,hh with
  | 0,hj,hh=>simp [tbH] at hj hh;subst hj hh;simp [tbO,tbC,rnO,rnL,rnA,reN]
  | 1,hj,hh=>simp [-List.map_map,tbH] at hj hh;subst hj hh;simp [-List.map_map,tbO,rnO,a5m]
  | 2,hj,hh=>simp [-List.map_map,tbH] at hj hh;subst hj hh;simp [-List.map_map,tbO,rnO,a5m]
  | j+3,hj,hh=>simp at hj) ⟨by simp [a0g,tbH],a0x (Nat.zero_le _) hrest⟩ (a2w t)
 have e1:rnL (reN [0,3,4] (tbO t).length) (.ptr 0 0::rest)=.ptr 0 0::rest:=by
  rw [rnL,a1a _ hrest];rfl
 rw [e1] at h
 refine h.mono ?_
 rintro r H' ⟨r1,h',⟨rfl,rfl⟩,_,rfl,rfl⟩
 exact ⟨a2r _ hr0,by simp [tbH,tbO,tbC,mrg,a1F,rnO,rnL,rnA,reN,a5m]⟩
theorem c2r(X:Nat->Prop)(t:Tb)(h:TOk t):a0b (E0 X) 166 [.ptr 0 0] (tbO t) (fun r H'=>r=.tup []/\H'=if 3*t.now.length<4*(t.nowLen+t.oldLen+1) then
  [some (tbC t.grew 5 3),none,none,some (.arr (t.now.map pcA) 251),some (.arr (t.old.map pcA) 251),some (.arr (t.grew.now.map pcA) 251)] else tbO t):=by
 have h:=a0b.frame (E:=E0 X) (fun X=>c5u X t h) [0,3,4] (tbO t) (by simp) rfl (fun j=>by
  match j with
  | 0=>simp [tbH]
  | 1=>simp [tbH]
  | 2=>simp [tbH]
  | j+3=>simp [tbH]) (fun j i o hj hh=>by
  match j,hj,hh with
  | 0,hj,hh=>simp [tbH] at hj hh;subst hj hh;simp [tbO,tbC,rnO,rnL,rnA,reN]
  | 1,hj,hh=>simp [-List.map_map,tbH] at hj hh;subst hj hh;simp [-List.map_map,tbO,rnO,a5m]
  | 2,hj,hh=>simp [-List.map_map,tbH] at hj hh;subst hj hh;simp [-List.map_map,tbO,rnO,a5m]
  | j+3,hj,hh=>simp at hj) ⟨by simp [a0g,tbH],trivial⟩ (a2w t)
 refine h.mono ?_
 rintro r H' ⟨r1,h',⟨rfl,rfl⟩,_,rfl,rfl⟩
 refine ⟨rfl,?_⟩
 split
 ·simp [-List.map_replicate,tbV,tbO,tbC,Tb.grew,mrg,a1F,rnO,rnL,rnA,reN,a5m]
 ·simp [tbH,tbO,tbC,mrg,a1F,rnO,rnL,rnA,reN,a5m]
structure MvI(t0 t:Tb):Prop where
 ok:TOk t
 look:∀k,t.look k=t0.look k
 cnt:t.oldLen+t.work=t0.oldLen
 w8:t.work<=8
 bn:t.bn=t0.bn
 tot:t.oldLen+t.nowLen=t0.oldLen+t0.nowLen
 ol:t.old.length<=t0.old.length
def Tb.clr(t:Tb):Tb:=if t.oldLen=0 then { t with bo:=0,old:=[],pos:=0 } else t
theorem a7K.clr{hb:Nat->Key->Nat}{t:Tb}(h:a7K hb t):a7K hb t.clr/\∀k,t.clr.look k=t.look k:=by
 unfold Tb.clr
 split
 ·rename_i h0
  have hn:∀k,Abs.look t.old k=none:=fun k=>a5S (by rw [<- h.oc];exact h0) k
  refine ⟨⟨h.b3,h.nl,h.nok,h.ng,h.nc,h0,fun h1=>absurd h0 (Nat.ne_of_gt h1),fun i k e hi=>by simp at hi,fun k e _=>rfl,h.ld⟩,fun k=>?_⟩
  unfold Tb.look
  cases Abs.look t.now k with
  | some e=>rfl
  | none=>exact (hn k).symm
 ·exact ⟨h,fun _=>rfl⟩
theorem MvI.clr{t0 t:Tb}(h:MvI t0 t):MvI t0 t.clr/\t.clr.oldLen=t.oldLen/\t.clr.work=t.work:=by
 obtain ⟨h1,h2⟩:=h.ok.1.clr
 have e:t.clr.bn=t.bn/\t.clr.oldLen=t.oldLen/\t.clr.work=t.work/\t.clr.nowLen=t.nowLen:=by unfold Tb.clr;split<;>exact ⟨rfl,rfl,rfl,rfl⟩
 exact ⟨⟨⟨h1,by rw [e.1];exact h.ok.2⟩,fun k=>(h2 k).trans (h.look k),by rw [e.2.1,e.2.2.1];exact h.cnt,by rw [e.2.2.1];exact h.w8,e.1.trans h.bn,by rw [e.2.1,e.2.2.2];exact h.tot,Nat.le_trans (by unfold Tb.clr;split<;>simp) h.ol⟩,e.2.1,e.2.2.1⟩
theorem MvI.skip{t0 t:Tb}(h:MvI t0 t)(hp:∀k e,t.old[t.pos]?≠some (.used k e)):MvI t0 { t with pos:=t.pos+1 } :=
 ⟨⟨⟨h.ok.1.b3,h.ok.1.nl,h.ok.1.nok,h.ok.1.ng,h.ok.1.nc,h.ok.1.oc,h.ok.1.ook,fun i k e hi=>by
  have h1:=h.ok.1.ps i k e hi
  have h2:i≠t.pos:=fun e'=>hp k e (e' ▸ hi)
  show t.pos+1<=i
  omega,h.ok.1.dj,h.ok.1.ld⟩,h.ok.2⟩,h.look,h.cnt,h.w8,h.bn,h.tot,h.ol⟩
def Tb.mvd(t:Tb)(k:Key)(e:En):Tb:={ t with now:=t.now.set (a1E t.bn t.now k).1 (.used k e),nowLen:=t.nowLen+1,old:=t.old.set t.pos .gone,oldLen:=t.oldLen - 1,pos:=t.pos+1,work:=t.work+1 }
theorem MvI.mvd{t0 t:Tb}(h:MvI t0 t){k:Key}{e:En}(hp:t.old[t.pos]?=some (.used k e))(hw:t.work<8):MvI t0 (t.mvd k e)/\(a1E t.bn t.now k).2=false/\0<t.oldLen:=by
 have hno:Abs.look t.now k=none:=(h.ok.1.forget hp).2.2.2
 obtain ⟨h1,h2,h3⟩:=a8H (k:=k) (e:=e) h.ok.1.nok h.ok.1.free
 have hf:(a1E t.bn t.now k).2=false:=by
  cases hc:(a1E t.bn t.now k).2 with
  | false=>rfl
  | true =>
   obtain ⟨e0,_,q⟩:=h2 hc
   rw [hno] at q;cases q
 have hol:0<t.oldLen:=by
  rw [h.ok.1.oc]
  unfold a5t
  exact List.countP_pos_iff.2 ⟨_,List.mem_of_getElem? hp,rfl⟩
 obtain ⟨g1,g2⟩:=h.ok.1.moved hp h1 (h3 hf).1 (t.work+1) (fun i q f hi=>by
  rcases a1y hi with ⟨_,_,h5⟩|⟨h4,h5⟩
  ·cases h5
  ·have:=h.ok.1.ps i q f h5
   omega)
 have hc:=h.cnt
 have ht:=h.tot
 exact ⟨⟨⟨g1,h.ok.2⟩,fun q=>(g2 q).trans (h.look q),by show t.oldLen - 1+(t.work+1)=_;omega,by show t.work+1<=8;omega,h.bn,by show t.oldLen - 1+(t.nowLen+1)=_;omega,by show (t.old.set _ _).length<=_;rw [List.length_set];exact h.ol⟩,hf,hol⟩
def tbD(t:Tb):Hp:=[some (.cells [.int .i64 (t.bn:Int),.own 1 0 t.now.length,.int .i64 0,.nils,.int .i64 0,.int .i64 (t.oldLen:Int),.int .i64 (t.nowLen:Int),.int .i64 (t.work:Int)] 244),some (.arr (t.now.map pcA) 251),some (.arr (t.old.map pcA) 251)]
theorem c6O(X:Nat->Prop)(t0:Tb)(h:TOk t0)(hkb:∀k e,t0.look k=some e->k.length<=1000000):a0b (E0 X) 163 [.ptr 0 0] (tbH t0) (fun r H'=>r=.tup []/\∃t,(MvI t0 t/\(t.oldLen=0\/t.work=8))/\H'=if t.oldLen=0 then tbD t else tbH t):=by
 have hlt:=h.lt
 refine Z0 Proofs.Tryz.func163 rfl Proofs.Tryz.ntmps163 (by kernel_rfl) rfl ?_
 repeat' (first|refine Zs rfl ?_|refine Zh ?_|refine Ql ?_|refine Qo rfl ?_)
 refine a1r (I:=fun t:Tb=>MvI t0 t/\(t.oldLen=0\/t.work=8)) (σ:=fun t=>⟨[(0,.ptr 0 0)],tbH t⟩) ?_ ?_
 ·refine Zc rfl ?_
  refine a0q (fun t:Tb=>⟨[(0,.ptr 0 0)],tbH t⟩) (fun t=>MvI t0 t) (fun t=>t.old.length - t.pos) { t0 with work:=0 } ?_ ?_ ?_
  ·exact ⟨⟨⟨h.1.b3,h.1.nl,h.1.nok,h.1.ng,h.1.nc,h.1.oc,h.1.ook,h.1.ps,h.1.dj,h.1.ld⟩,h.2⟩,fun _=>rfl,by simp,by simp,rfl,rfl,Nat.le_refl _⟩
  ·refine a0i 3 (Nat.le_refl _) (a2w { t0 with work:=0 }) rfl (Nat.le_refl 3) ?_
   repeat' (first|exact a0k|refine a0a ⟨?_,?_⟩ ?_)
   all_goals (try first|exact rfl|(simp [a0g,a0e];done))
  rintro t ht
  have hlt:=ht.ok.lt
  repeat' (first|refine Zs rfl ?_|refine Zc rfl ?_)
  refine Qy rfl rfl (fun h1=>?_) (fun h1=>?_)
  ·repeat' (refine Zs rfl ?_)
   refine a0d rfl (fun h3=>?_) (fun h3=>?_)
   ·have h1':0<t.oldLen:=by omega
    have hpos:t.pos<t.old.length:=by
     obtain ⟨i,k,e,hi⟩:=c0f (l:=t.old) (by rw [<- ht.ok.1.oc];exact h1')
     have:=ht.ok.1.ps i k e hi
     have:=(List.getElem?_eq_some_iff.1 hi).1
     omega
    have hol:=(ht.ok.1.ook h1').2.1
    have hbo:(2:Nat) ^ t.bo<=2 ^ t.bn:=Nat.pow_le_pow_right (by decide) (ht.ok.1.ook h1').2.2.2.1
    have hnl:=ht.ok.1.nl
    have hpw:IntKind.i64.wrap ((t.pos:Int)+1)=((t.pos+1:Nat):Int):=a0p (by omega) (by omega)
    obtain ⟨p,hp,hpa⟩:=c2K hpos
    repeat' (refine Zc rfl ?_)
    refine a0m [] [] (by exact rfl) (by kernel_rfl) ?_
    repeat' (refine Zd rfl ?_)
    apply Qd rfl rfl rfl rfl
    ·refine a1Y (j:=t.pos) rfl hpos (Nat.zero_add _) rfl rfl rfl rfl rfl rfl rfl rfl ?_
     exact QX rfl rfl ⟨rfl,rfl⟩
    repeat' (first|refine Zs rfl ?_|refine Zc rfl ?_|refine Zd rfl ?_)
    refine Qa rfl ?_
    refine a2C rfl rfl hpa rfl rfl rfl ?_
    refine nx rfl rfl ?_
    repeat' (refine Zs rfl ?_)
    refine a0d rfl (fun h4=>?_) (fun h4=>?_)
    ·obtain ⟨k,e,rfl⟩:∃k e,p=.used k e:=by cases p<;>first|exact ⟨_,_,rfl⟩|cases h4
     obtain ⟨g1,g2,g3⟩:=ht.mvd hp (by omega)
     have hlk:t.look k=some e:=by
      unfold Tb.look
      rw [show Abs.look t.now k=none from (ht.ok.1.forget hp).2.2.2]
      exact (a1L (ht.ok.1.ook h1').1).2 ⟨_,hp⟩
     have hk:k.length<=1000000:=hkb k e (by rw [<- ht.look];exact hlk)
     have e1:IntKind.i64.wrap ((t.oldLen:Int) - 1)=((t.oldLen - 1:Nat):Int):=by rw [a0p (by omega) (by omega)];omega
     have e2:IntKind.i64.wrap ((t.work:Int)+1)=((t.work+1:Nat):Int):=a0p (by omega) (by omega)
     repeat' (refine Zc rfl ?_)
     refine Qx rfl (by kernel_rfl) ?_
     repeat' (refine Zd rfl ?_)
     apply Qd rfl rfl rfl rfl
     ·refine a2a rfl rfl hpa rfl rfl rfl ?_
      exact QX rfl rfl ⟨rfl,rfl⟩
     repeat' (refine Zd rfl ?_)
     apply Qd rfl rfl rfl rfl
     ·refine a2a rfl rfl hpa rfl rfl rfl ?_
      exact QX rfl rfl ⟨rfl,rfl⟩
     skip
     refine a1D rfl rfl rfl ?_
     refine Cn rfl (c3b X t k e ht.ok hk) rfl rfl ?_
     repeat' (first|refine Zs rfl ?_|refine Zc rfl ?_|refine Qk ?_)
     refine Qb rfl ?_
     refine b0z (p:=Pc.gone) rfl rfl rfl rfl hpa rfl rfl rfl rfl rfl ?_
     refine nx rfl rfl ?_
     repeat' (first|refine Zs rfl ?_|refine Zc rfl ?_|refine Qh ?_)
     refine ⟨t.mvd k e,g1,by show (t.old.set t.pos .gone).length - (t.pos+1) < _;rw [List.length_set];omega,?_⟩
     refine a0i 3 (Nat.le_refl _) (a2w (t.mvd k e)) ?_ (Nat.le_refl 3) ?_
     ·simp [tbH,Tb.putE,Tb.mvd,g2,e1,e2,hpw]
     ·repeat' (first|exact a0k|refine a0a ⟨?_,?_⟩ ?_)
      all_goals (try first|exact rfl|(simp [a0g,a0e];done))
    repeat' (first|refine Zs rfl ?_|refine Zc rfl ?_)
    refine ⟨{ t with pos:=t.pos+1 },ht.skip (fun k e he=>by rw [hp] at he;cases he;exact h4 rfl),by show t.old.length - (t.pos+1) < _;omega,?_⟩
    refine a0i 3 (Nat.le_refl _) (a2w { t with pos:=t.pos+1 }) ?_ (Nat.le_refl 3) ?_
    ·simp [tbH,hpw]
    ·repeat' (first|exact a0k|refine a0a ⟨?_,?_⟩ ?_)
     all_goals (try first|exact rfl|(simp [a0g,a0e];done))
   repeat' (refine Zc rfl ?_)
   refine ⟨rfl,t,⟨ht,.inr (by have:=ht.w8;omega)⟩,?_⟩
   refine a0i 3 (Nat.le_refl _) (a2w t) rfl (Nat.le_refl 3) ?_
   repeat' (first|exact a0k|refine a0a ⟨?_,?_⟩ ?_)
   all_goals (try first|exact rfl|(simp [a0g,a0e];done))
  repeat' (first|refine Zs rfl ?_|refine Zc rfl ?_)
  refine ⟨rfl,t,⟨ht,.inl (by omega)⟩,?_⟩
  refine a0i 3 (Nat.le_refl _) (a2w t) rfl (Nat.le_refl 3) ?_
  repeat' (first|exact a0k|refine a0a ⟨?_,?_⟩ ?_)
  all_goals (try first|exact rfl|(simp [a0g,a0e];done))
 rintro t ⟨ht,hw⟩
 repeat' (first|refine Zs rfl ?_|refine Zc rfl ?_)
 refine a0d rfl (fun h0=>?_) (fun h0=>?_)
 ·have h1:t.oldLen=0:=by omega
  repeat' (first|refine Zs rfl ?_|refine Zc rfl ?_)
  exact ⟨_,rfl,rfl,t,⟨ht,hw⟩,by rw [if_pos h1];rfl⟩
 have h1:t.oldLen≠0:=by omega
 repeat' (refine Zc rfl ?_)
 exact ⟨_,rfl,rfl,t,⟨ht,hw⟩,by rw [if_neg h1]⟩
theorem c2G(X:Nat->Prop)(t0:Tb)(h:TOk t0)(hkb:∀k e,t0.look k=some e->k.length<=1000000):a0b (E0 X) 163 [.ptr 0 0] (tbH t0) (fun r H'=>∃t,(MvI t0 t/\(t.oldLen=0\/t.work=8))/\r=.tup []/\H'=tbO t):=by
 refine (c6O X t0 h hkb).imp fun r H' h=>?_
 obtain ⟨rfl,t,⟨ht,hw⟩,rfl⟩:=h
 obtain ⟨g1,g2,g3⟩:=ht.clr
 refine ⟨_,_,⟨t.clr,⟨g1,by rw [g2,g3];exact hw⟩,rfl,rfl⟩,?_⟩
 unfold Tb.clr
 split
 ·refine (a5Z 0 3 251 rfl rfl).trans ?_
  exact b9f 1 3 { t with bo:=0,old:=[],pos:=0 } rfl rfl rfl (Nat.le_refl 3) (by simp [tbD]) (by simp) (by simp) rfl rfl (a0a (a0F rfl trivial) a0k)
 ·exact b9f 1 2 t rfl rfl rfl (Nat.le_refl 3) (by simp [tbH]) (by simp) (by simp) rfl rfl (a0a (a0F rfl trivial) a0k)
structure c5L(t:Tb)(k:Key)(e:En)(t':Tb):Prop where
 ok:TOk t'
 look:∀k',t'.look k'=if k'=k then some e else t.look k'
 tot:t'.nowLen+t'.oldLen<=t.nowLen+t.oldLen+1
 ol:t.old.length<=1048576->t'.old.length<=1048576
theorem a6u(t:Tb)(k:Key):(t.forg k).1.old.length=t.old.length:=by
 unfold Tb.forg
 split
 ·rfl
 split
 ·exact List.length_set
 ·rfl
def KB(t:Tb):Prop:=∀k e,t.look k=some e->k.length<=1000000
theorem c5L.kb{t:Tb}{k:Key}{e:En}{t':Tb}(h:c5L t k e t')(hk:k.length<=1000000)(hb:KB t):KB t':=fun q f hq=>by
 rw [h.look] at hq
 split at hq
 ·rename_i h1;rw [h1];exact hk
 ·exact hb q f hq
theorem TOk.grew{t:Tb}(h:TOk t)(h0:t.oldLen=0)(hb:t.bn<20):TOk t.grew/\(∀k,t.grew.look k=t.look k)/\4*t.grew.oldLen+32*(t.grew.nowLen+1+t.grew.oldLen)<=24*t.grew.now.length:=by
 obtain ⟨g1,g2,g3⟩:=h.1.grown h0
 refine ⟨⟨g1,hb⟩,g2,?_⟩
 show 4*t.nowLen+32*(0+1+t.nowLen)<=24*(List.replicate (2 ^ (t.bn+1)) Pc.empty).length
 omega
theorem b8K{t0 t1:Tb}{k:Key}{e:En}(hm:MvI t0 t1)(ht:(a1E (t1.forg k).1.bn (t1.forg k).1.now k).2=true):c5L t0 k e ((t1.forg k).1.putE k e):=by
 obtain ⟨f1,f2,f3,f4,f5,f6,f7,f8,f9⟩:=hm.ok.forg k
 obtain ⟨g1,g2⟩:=f1.putE (k:=k) (e:=e) f2 (.inr ht)
 refine ⟨g1,fun k'=>?_,?_,fun h=>Nat.le_trans (Nat.le_of_eq (a6u t1 k)) (Nat.le_trans hm.ol h)⟩
 ·rw [g2]
  split
  ·rfl
  ·rename_i h
   rw [f3,if_neg (fun h1=>h h1.2),hm.look]
 have:=hm.tot
 show (if (a1E (t1.forg k).1.bn (t1.forg k).1.now k).2 then (t1.forg k).1.nowLen else (t1.forg k).1.nowLen+1)+(t1.forg k).1.oldLen<=_
 rw [if_pos ht]
 omega
theorem b8J{t0 t1:Tb}(h0:TOk t0)(hm:MvI t0 t1)(hw:t1.oldLen=0\/t1.work=8)(k:Key)(hnf:¬ 3*(t1.forg k).1.now.length<4*((t1.forg k).1.nowLen+(t1.forg k).1.oldLen+1)) :
  4*(t1.forg k).1.oldLen+32*((t1.forg k).1.nowLen+1+(t1.forg k).1.oldLen)<=24*(t1.forg k).1.now.length:=by
 obtain ⟨f1,f2,f3,f4,f5,f6,f7,f8,f9⟩:=hm.ok.forg k
 have h1:=h0.1.ld
 have h2:=h0.1.nl
 have h3:=hm.ok.1.nl
 rw [hm.bn,<- h2] at h3
 have h4:=hm.cnt
 have h5:=hm.tot
 rw [f6] at hnf ⊢
 rcases hw with h6|h6<;>omega
theorem c1D{t0 t1:Tb}(h0:TOk t0)(hm:MvI t0 t1)(hw:t1.oldLen=0\/t1.work=8)(k:Key)(hb:t0.nowLen+t0.oldLen<=300000)(hf:3*(t1.forg k).1.now.length<4*((t1.forg k).1.nowLen+(t1.forg k).1.oldLen+1)) :
  (t1.forg k).1.oldLen=0/\(t1.forg k).1.bn<20:=by
 obtain ⟨f1,f2,f3,f4,f5,f6,f7,f8,f9⟩:=hm.ok.forg k
 have h1:=h0.1.ld
 have h2:=h0.1.nl
 have h3:=hm.ok.1.nl
 have h3':=h3
 rw [hm.bn,<- h2] at h3
 have h4:=hm.cnt
 have h5:=hm.tot
 rw [f6] at hf
 have h7:t1.now.length<2 ^ 19:=by
  have:(2:Nat) ^ 19=524288:=by decide
  omega
 rw [h3'] at h7
 have h8:=(Nat.pow_lt_pow_iff_right (a:=2) (by decide)).1 h7
 refine ⟨?_,by omega⟩
 rcases hw with h6|h6<;>omega
theorem b8I{t0 t1:Tb}{k:Key}{e:En}(hm:MvI t0 t1){t3:Tb}(ht:(a1E (t1.forg k).1.bn (t1.forg k).1.now k).2=false)(h3:TOk t3)(hl:∀k',t3.look k'=(t1.forg k).1.look k')
  (hs:4*t3.oldLen+32*(t3.nowLen+1+t3.oldLen)<=24*t3.now.length) (htot:t3.nowLen+t3.oldLen=(t1.forg k).1.nowLen+(t1.forg k).1.oldLen) (hol:t0.old.length<=1048576->t3.old.length<=1048576):c5L t0 k e ((t3.forg k).1.putE k e):=by
 obtain ⟨f1,f2,f3,f4,f5,f6,f7,f8,f9⟩:=hm.ok.forg k
 obtain ⟨d1,d2,d3,d4,d5,d6,d7,d8,d9⟩:=h3.forg k
 obtain ⟨g1,g2⟩:=d1.putE (k:=k) (e:=e) d2 (.inl (by rw [d6,d7];omega))
 refine ⟨g1,fun k'=>?_,?_,fun h=>Nat.le_trans (Nat.le_of_eq (a6u t3 k)) (hol h)⟩
 ·rw [g2]
  split
  ·rfl
  ·rename_i h
   rw [d3,if_neg (fun h1=>h h1.2),hl,f3,if_neg (fun h1=>h h1.2),hm.look]
 have:=hm.tot
 have h1:((t3.forg k).1.putE k e).nowLen<=(t3.forg k).1.nowLen+1:=by
  unfold Tb.putE
  simp only
  split<;>omega
 have h2:((t3.forg k).1.putE k e).oldLen=(t3.forg k).1.oldLen:=rfl
 omega
theorem c0u(X:Nat->Prop)(t:Tb)(k:Key)(h:TOk t)(hk:k.length<=1000000):a0b (E0 X) 164 [.ptr 0 0,.str k] (tbO t) (fun r H'=>r=.bool (t.forg k).2/\H'=tbO (t.forg k).1) :=
 b9g (rest:=[.str k]) (fun X=>c0v X t k h hk) ⟨trivial,trivial⟩ trivial X
theorem c8N(X:Nat->Prop)(t:Tb)(k:Key)(e:En)(h:TOk t)(hk:k.length<=1000000):a0b (E0 X) 167 [.ptr 0 0,.str k,b5F e] (tbO t) (fun r H'=>r=.tup []/\H'=tbO (t.putE k e)) :=
 b9g (rest:=[.str k,b5F e]) (fun X=>c3b X t k e h hk) ⟨trivial,⟨trivial,trivial,trivial,trivial,trivial,trivial⟩,trivial⟩ trivial X
theorem c7S(X:Nat->Prop)(t0:Tb)(k:Key)(e:En)(h:TOk t0)(hb:t0.nowLen+t0.oldLen<=300000)(hkb:KB t0)(hk:k.length<=1000000):a0b (E0 X) 120 [.ptr 0 0,.str k,b5F e] (tbH t0) (fun r H'=>∃t',c5L t0 k e t'/\r=.tup []/\H'=tbO t'):=by
 refine Z0 Proofs.Tryz.func120 rfl Proofs.Tryz.ntmps120 (by kernel_rfl) rfl ?_
 refine Zc rfl (Zc rfl (Zs rfl (Zh ?_)))
 refine Kz 3 [0,1,5] 3 (a2w t0) rfl rfl (by simp [a0g,a0e]) ?_
 repeat' (first|refine Zs rfl ?_|refine Zc rfl ?_)
 refine Zx rfl rfl (c2G X t0 h hkb) rfl ?_
 rintro t1 ⟨hm,hw⟩
 obtain ⟨f1,f2,f3,f4,f5,f6,f7,f8,f9⟩:=hm.ok.forg k
 repeat' (first|refine Zs rfl ?_|refine Zc rfl ?_)
 refine Zf rfl rfl (c0u X t1 k hm.ok hk) rfl rfl rfl ?_
 repeat' (first|refine Zs rfl ?_|refine Zc rfl ?_)
 refine Zf rfl rfl (c0t (t1.forg k).1.bn (t1.forg k).1.now k f1.1.nl f1.2 hk f1.1.free X (id:=3) rfl) rfl rfl rfl ?_
 repeat' (first|refine Zs rfl ?_|refine Zc rfl ?_)
 refine a0H rfl (fun ht=>?_) (fun ht=>?_)
 ·simp only [Bool.not_eq_true'] at ht
  by_cases hf:3*(t1.forg k).1.now.length<4*((t1.forg k).1.nowLen+(t1.forg k).1.oldLen+1)
  ·obtain ⟨p1,p2⟩:=c1D h hm hw k hb hf
   obtain ⟨q1,q2,q3⟩:=f1.grew p1 p2
   have hg:=c2r X (t1.forg k).1 f1
   rw [if_pos hf] at hg
   repeat' (first|refine Zs rfl ?_|refine Zc rfl ?_)
   refine Zf rfl rfl hg rfl rfl rfl ?_
   refine Zh (a0t (b9f 5 3 (t1.forg k).1.grew rfl rfl rfl (Nat.le_refl 3) (Nat.le_add_left 3 3) (by simp) (by simp) rfl rfl
    (sl':=[(0,.ptr 0 0),(1,.str k),(5,.fp [.int .i64 e.seq,.int .i64 e.off,.int .i64 e.len,.int .i64 e.exp,.bool e.hit])]) ?_) ?_)
   ·exact a0a (a1g rfl) (a0a (a0F rfl trivial) (a0a (a0F rfl ⟨trivial,trivial,trivial,trivial,trivial,trivial⟩) a0k))
   repeat' (first|refine Zs rfl ?_|refine Zc rfl ?_)
   refine Zf rfl rfl (c0u X (t1.forg k).1.grew k q1 hk) rfl rfl rfl ?_
   repeat' (first|refine Zs rfl ?_|refine Zc rfl ?_)
   refine Zf rfl rfl (c8N X ((t1.forg k).1.grew.forg k).1 k e (q1.forg k).1 hk) rfl rfl rfl ?_
   skip
   exact ⟨_,rfl,_,b8I hm ht q1 q2 q3 (by show 0+(t1.forg k).1.nowLen=_;omega) (fun _=>f1.lt.1),rfl,rfl⟩
  have hg:=c2r X (t1.forg k).1 f1
  rw [if_neg hf] at hg
  repeat' (first|refine Zs rfl ?_|refine Zc rfl ?_)
  refine Zf rfl rfl hg rfl rfl rfl ?_
  repeat' (first|refine Zs rfl ?_|refine Zc rfl ?_)
  refine Zf rfl rfl (c0u X (t1.forg k).1 k f1 hk) rfl rfl rfl ?_
  repeat' (first|refine Zs rfl ?_|refine Zc rfl ?_)
  refine Zf rfl rfl (c8N X ((t1.forg k).1.forg k).1 k e (f1.forg k).1 hk) rfl rfl rfl ?_
  skip
  exact ⟨_,rfl,_,b8I hm ht f1 (fun _=>rfl) (b8J h hm hw k hf) rfl (fun h=>Nat.le_trans (Nat.le_of_eq (a6u t1 k)) (Nat.le_trans hm.ol h)),rfl,rfl⟩
 simp only [Bool.not_eq_false'] at ht
 repeat' (first|refine Zs rfl ?_|refine Zc rfl ?_)
 refine Zf rfl rfl (c8N X (t1.forg k).1 k e f1 hk) rfl rfl rfl ?_
 skip
 exact ⟨_,rfl,_,b8K hm ht,rfl,rfl⟩
theorem c6M{a c n b:Nat}(hn:n=2 ^ b)(hb:b<=40)(ha:a<n)(hc:c<n):a2g .and .i64 (IntKind.i64.wrap ((a:Int) - (c:Int))) (IntKind.i64.wrap ((n:Int) - 1))=(((a+n - c)%n:Nat):Int):=by
 have h1:(2:Nat) ^ b<=2 ^ 40:=Nat.pow_le_pow_right (by decide) hb
 have h2:(2:Nat) ^ 40=1099511627776:=by decide
 rw [a0p (n:=(a:Int) - c) (by omega) (by omega)]
 rcases Nat.lt_or_ge a c with h|h
 ·have e1:a2g .and .i64 ((a:Int) - (c:Int)) (IntKind.i64.wrap ((n:Int) - 1))=IntKind.i64.wrap (((BitVec.ofInt 64 ((a:Int) - (c:Int)) &&& BitVec.ofInt 64 (IntKind.i64.wrap ((n:Int) - 1))).toNat:Nat):Int):=rfl
  have e2:(BitVec.ofInt 64 ((a:Int) - (c:Int))).toNat=18446744073709551616+a - c:=by
   rw [BitVec.toNat_ofInt]
   omega
  have e3:(BitVec.ofInt 64 (IntKind.i64.wrap ((n:Int) - 1))).toNat=n - 1:=by
   rw [a0p (by omega) (by omega),BitVec.toNat_ofInt]
   omega
  have e4:(18446744073709551616+a - c) &&& (n - 1)=(18446744073709551616+a - c)%n:=by rw [hn,Nat.and_two_pow_sub_one_eq_mod]
  have e5:18446744073709551616%n=0:=by
   rw [hn]
   exact Nat.mod_eq_zero_of_dvd ⟨2 ^ (64 - b),by rw [<- Nat.pow_add,show b+(64 - b)=64 by omega]⟩
  have e6:(18446744073709551616+a - c)%n=a+n - c:=by
   have h9:18446744073709551616=n*(18446744073709551616 / n):=by have:=Nat.div_add_mod 18446744073709551616 n;omega
   have h10:0<18446744073709551616 / n:=Nat.div_pos (by omega) (by omega)
   have h11:18446744073709551616+a - c=(a+n - c)+n*(18446744073709551616 / n - 1):=by
    rw [Nat.mul_sub,<- h9]
    omega
   rw [h11,Nat.add_mul_mod_self_left,Nat.mod_eq_of_lt (by omega)]
  rw [e1,BitVec.toNat_and,e2,e3,e4,e6,a0p (by omega) (by omega),Nat.mod_eq_of_lt (by omega)]
 rw [show (a:Int) - (c:Int)=((a - c:Nat):Int) by omega,b5T hn hb (by omega)]
 congr 1
 rw [show a+n - c=a - c+n by omega,Nat.add_mod_right]
theorem a7X{a c n:Nat}(ha:a<n)(hc:c<n):(c+(a+n - c)%n)%n=a:=by
 rw [Nat.add_mod_mod,show c+(a+n - c)=a+n by omega,Nat.add_mod_right,Nat.mod_eq_of_lt ha]
structure RmI(b:Nat)(l0:List Pc)(M:Key->Option En)(z:Nat)(s:List Pc × Nat × Nat):Prop where
 hol:Hol (a1q b) s.1 s.2.1 s.2.2 M
 len:s.1.length=l0.length
 z:s.1[z]?=some .empty
 ng:∀i:Nat,s.1[i]?≠some .gone
 cnt:a5t s.1=a5t l0
 us:∃q e,s.1[s.2.1]?=some (.used q e)
 kb:∀(i:Nat) q e,s.1[i]?=some (.used q e)->q.length<=1000000
structure RmR(b:Nat)(l0:List Pc)(M:Key->Option En)(l:List Pc):Prop where
 ok:a6o (a1q b) l
 len:l.length=l0.length
 look:∀k,look l k=M k
 ng:∀i:Nat,l[i]?≠some .gone
 cnt:a5t l+1=a5t l0
def c8r(z:Nat)(s:List Pc × Nat × Nat):Nat:=(z+s.1.length - (s.2.1+s.2.2)%s.1.length)%s.1.length
theorem c4b{c z n:Nat}(hc:c<n)(hz:z<n)(h:c≠z):(z+n - (c+1)%n)%n<(z+n - c)%n:=by
 rcases Nat.lt_or_ge (c+1) n with h1|h1
 ·rw [Nat.mod_eq_of_lt h1]
  rcases Nat.lt_or_ge z c with h2|h2
  ·rw [Nat.mod_eq_of_lt (by omega),Nat.mod_eq_of_lt (by omega)];omega
  ·rw [show z+n - (c+1)=z - (c+1)+n by omega,show z+n - c=z - c+n by omega,Nat.add_mod_right,Nat.add_mod_right,Nat.mod_eq_of_lt (by omega),Nat.mod_eq_of_lt (by omega)]
   omega
 ·rw [show c+1=n by omega,Nat.mod_self,Nat.sub_zero,Nat.add_mod_right,Nat.mod_eq_of_lt hz,Nat.mod_eq_of_lt (by omega)]
  omega
theorem RmI.keep{b:Nat}{l0:List Pc}{M:Key->Option En}{z:Nat}{s:List Pc × Nat × Nat}(h:RmI b l0 M z s){q:Key}{e:En}(hq:s.1[(s.2.1+s.2.2)%s.1.length]?=some (.used q e)){d:Nat}(hd:d<s.1.length)
  (hdk:(a1q b q+d)%s.1.length=(s.2.1+s.2.2)%s.1.length) (hlt:d<s.2.2):RmI b l0 M z (s.1,s.2.1,s.2.2+1) :=
 ⟨h.hol.keep h.z hq hd hdk hlt,h.len,h.z,h.ng,h.cnt,h.us,h.kb⟩
theorem RmI.move{b:Nat}{l0:List Pc}{M:Key->Option En}{z:Nat}{s:List Pc × Nat × Nat}(h:RmI b l0 M z s){q:Key}{e:En}(hq:s.1[(s.2.1+s.2.2)%s.1.length]?=some (.used q e)){d:Nat}(hd:d<s.1.length)
  (hdk:(a1q b q+d)%s.1.length=(s.2.1+s.2.2)%s.1.length) (hge:s.2.2<=d):RmI b l0 M z (s.1.set s.2.1 (.used q e),(s.2.1+s.2.2)%s.1.length,1):=by
 obtain ⟨q0,e0,hu⟩:=h.us
 have hzi:s.2.1≠z:=fun e'=>by rw [e',h.z] at hu;cases hu
 have hki:s.2.1≠(s.2.1+s.2.2)%s.1.length:=fun e'=>by
  have h1:(s.2.1+0)%s.1.length=(s.2.1+s.2.2)%s.1.length:=by rw [<- e',Nat.add_zero,Nat.mod_eq_of_lt h.hol.il]
  have:=a1x (by have:=h.hol.il;omega) h.hol.jn h1
  have:=h.hol.j0
  omega
 refine ⟨h.hol.move h.z hq hd hdk hge,by show (s.1.set _ _).length=_;rw [List.length_set];exact h.len,by show (s.1.set _ _)[z]?=_;rw [List.getElem?_set_ne hzi];exact h.z,fun i hi=>?_,?_,⟨q,e,by show (s.1.set _ _)[_]?=_;rw [List.getElem?_set_ne hki];exact hq⟩,fun i q' f hi=>?_⟩
 ·rcases a1y hi with ⟨_,_,h3⟩|⟨_,h3⟩
  ·cases h3
  ·exact h.ng i h3
 ·have h1:=a5R (x:=.used q e) hu
  simp [isU] at h1
  show a5t (s.1.set _ _)=_
  rw [h1];exact h.cnt
 rcases a1y hi with ⟨_,_,h3⟩|⟨_,h3⟩
 ·cases h3;exact h.kb _ _ _ hq
 ·exact h.kb i q' f h3
theorem RmI.done{b:Nat}{l0:List Pc}{M:Key->Option En}{z:Nat}{s:List Pc × Nat × Nat}(h:RmI b l0 M z s)(hk:s.1[(s.2.1+s.2.2)%s.1.length]?=some .empty):RmR b l0 M (s.1.set s.2.1 .empty):=by
 obtain ⟨q0,e0,hu⟩:=h.us
 obtain ⟨g1,g2⟩:=h.hol.done hk
 refine ⟨g1,by rw [List.length_set];exact h.len,g2,fun i hi=>?_,?_⟩
 ·rcases a1y hi with ⟨_,_,h3⟩|⟨_,h3⟩
  ·cases h3
  ·exact h.ng i h3
 have h1:=a5R (x:=.empty) hu
 simp [isU] at h1
 rw [<- h.cnt];exact h1
section
variable(X:Nat->Prop){H:Hp}{id:Nat}(b:Nat)(l:List Pc)(ho:H[id]?=some (some (.arr (l.map pcA) 251)))
include ho
theorem c8D(k:Key)(hb:b<100)(hk:k.length<=1000000):a0b (E0 X) 194 [.agg [.int .i64 (b:Int),.own id 0 l.length],.str k] H (fun r H'=>r=.int .i64 (a1q b k:Int)/\H'=H) :=
 a1z (c2z b l k hb hk X).2 rfl (.agg (.same trivial (.sl (a3n l) (a0z ho rfl rfl (by omega) (by rw [List.drop_zero,List.take_of_length_le (by omega)])) .nil)) (.same trivial .nil))
theorem b5R(i:Nat)(hl:l.length=2 ^ b)(hb:b<=40)(hi:i<l.length):a0b (E0 X) 195 [.agg [.int .i64 (b:Int),.own id 0 l.length],.int .i64 (i:Int)] H (fun r H'=>r=.int .i64 (((i+1)%l.length:Nat):Int)/\H'=H) :=
 a1z (b1T b l i hl hb hi X).2 rfl (.agg (.same trivial (.sl (a3n l) (a0z ho rfl rfl (by omega) (by rw [List.drop_zero,List.take_of_length_le (by omega)])) .nil)) (.same trivial .nil))
end
theorem a4Y(l:List Pc):HOk 1 [some (.arr (l.map pcA) 251)]:=fun j o ho=>by
 match j,ho with
 | 0,ho=>cases ho;exact a0x (Nat.zero_le _) (a3n l)
theorem c1m(X:Nat->Prop)(b:Nat)(l0:List Pc)(i0:Nat)(k:Key)(e:En)(hl:l0.length=2 ^ b)(hb:b<=20)(hok:a6o (a1q b) l0)(hz:∃z:Nat,l0[z]?=some .empty)(hng:∀i:Nat,l0[i]?≠some .gone)
  (hkb:∀(i:Nat) q f,l0[i]?=some (.used q f)->q.length<=1000000) (hi:l0[i0]?=some (.used k e)):a0b (E0 X) 168 [.agg [.int .i64 (b:Int),.own 0 0 l0.length],.int .i64 (i0:Int)] [some (.arr (l0.map pcA) 251)]
   (fun r H'=>∃l,RmR b l0 (fun k'=>if k'=k then none else look l0 k') l/\r=.tup []/\H'=[some (.arr (l.map pcA) 251)]):=by
 obtain ⟨z,hz⟩:=hz
 have hzl:=(List.getElem?_eq_some_iff.1 hz).1
 have hil:=(List.getElem?_eq_some_iff.1 hi).1
 have hS:=Hol.start hok hi hz
 have hpw:(2:Nat) ^ b<=2 ^ 20:=Nat.pow_le_pow_right (by decide) hb
 have hp2:(2:Nat) ^ 20=1048576:=by decide
 have hn2:1<l0.length:=hS.jn
 have h0:RmI b l0 (fun k'=>if k'=k then none else look l0 k') z (l0,i0,1):=⟨hS,rfl,hz,hng,rfl,⟨k,e,hi⟩,hkb⟩
 refine Z0 Proofs.Tryz.func168 rfl Proofs.Tryz.ntmps168 (by kernel_rfl) rfl ?_
 refine Zc rfl (Zc rfl (Zs rfl (Zh ?_)))
 refine Kz 1 [1,2] 1 (a4Y l0) rfl rfl (by simp [a0g,a0e]) ?_
 repeat' (first|refine Zs rfl ?_|refine Zc rfl ?_)
 refine Zf rfl rfl (b5R X b l0 (id:=0) rfl i0 hl (by omega) hil) rfl rfl rfl ?_
 repeat' (first|refine Zs rfl ?_|refine Zh ?_)
 have hM:∀s:List Pc × Nat × Nat,RmI b l0 (fun k'=>if k'=k then none else look l0 k') z s->s.1.length=l0.length:=fun s h=>h.len
 refine a1r (I:=fun s=>RmI b l0 (fun k'=>if k'=k then none else look l0 k') z s/\s.1[(s.2.1+s.2.2)%s.1.length]?=some .empty) (σ:=fun s=>⟨[(1,.int .i64 (s.2.1:Int)),(2,.fp [.int .i64 (b:Int),.own 0 0 l0.length])],[some (.arr (s.1.map pcA) 251)]⟩) ?_ ?_
 ·refine Zc rfl ?_
  refine a0q (fun s:List Pc × Nat × Nat=>⟨[(1,.int .i64 (s.2.1:Int)),(2,.fp [.int .i64 (b:Int),.own 0 0 l0.length]),(4,.int .i64 (((s.2.1+s.2.2)%s.1.length:Nat):Int))],[some (.arr (s.1.map pcA) 251)]⟩)
   (fun s=>RmI b l0 (fun k'=>if k'=k then none else look l0 k') z s) (c8r z) (l0,i0,1) h0 ?_ ?_
  ·exact kk 1 (a4Y l0) rfl (by simp [a0g,a0e])
  rintro ⟨l,i,j⟩ hs
  have hlen:l.length=l0.length:=hs.len
  have hcl:=Nat.mod_lt (i+j) (show 0<l.length by omega)
  have hii:i<l.length:=hs.hol.il
  obtain ⟨p,hp,hpa⟩:=c2K hcl
  obtain ⟨p2,hp2,hpa2⟩:=c2K hii
  rw [<- hlen] at hl ⊢
  repeat' (first|refine Zs rfl ?_|refine Zc rfl ?_)
  refine Qa rfl ?_
  refine a1Y (j:=(i+j)%l.length) rfl hcl (Nat.zero_add _) rfl rfl rfl rfl rfl rfl rfl rfl ?_
  refine nx rfl rfl ?_
  repeat' (refine Zs rfl ?_)
  refine Qa rfl ?_
  refine a2a rfl rfl hpa rfl rfl rfl ?_
  refine nx rfl rfl ?_
  repeat' (refine Zs rfl ?_)
  refine a0d rfl (fun h4=>?_) (fun h4=>?_)
  ·obtain ⟨q,f,rfl⟩:∃q f,p=.used q f:=by cases p<;>first|exact ⟨_,_,rfl⟩|cases h4
   have hql:=hs.kb _ q f hp
   have hhm:a1q b q<l.length:=by rw [hl];exact a9N q
   have hcz:(i+j)%l.length≠z:=fun e'=>by
    have h1:l[(i+j)%l.length]?=some .empty:=by rw [e'];exact hs.z
    rw [hp] at h1;cases h1
   have hdl:((i+j)%l.length+l.length - a1q b q)%l.length<l.length:=Nat.mod_lt _ (by omega)
   have hjd:((i+j)%l.length+l.length - i)%l.length=j:=by
    have h1:=a7X hcl hii
    exact a1x (Nat.mod_lt _ (by omega)) hs.hol.jn h1
   have e1:=c6M (a:=(i+j)%l.length) (c:=a1q b q) hl (by omega) hcl hhm
   have e2:=c6M (a:=(i+j)%l.length) (c:=i) hl (by omega) hcl hii
   rw [hjd] at e2
   have hmu:∀s':List Pc × Nat × Nat,s'.1.length=l.length->(s'.2.1+s'.2.2)%l.length=((i+j)%l.length+1)%l.length->c8r z s'<c8r z (l,i,j):=fun s' h1 h2=>by
    unfold c8r
    rw [h1,h2]
    exact c4b hcl (by omega) hcz
   repeat' (refine Zc rfl ?_)
   refine a0m [] [] (by exact rfl) (by kernel_rfl) ?_
   repeat' (refine Zd rfl ?_)
   apply Qd rfl rfl rfl rfl
   ·refine a1Y (j:=(i+j)%l.length) rfl hcl (Nat.zero_add _) rfl rfl rfl rfl rfl rfl rfl rfl ?_
    exact QX rfl rfl ⟨rfl,rfl⟩
   repeat' (refine Zd rfl ?_)
   apply Qd rfl rfl rfl rfl
   ·refine a2a rfl rfl hpa rfl rfl rfl ?_
    exact QX rfl rfl ⟨rfl,rfl⟩
   skip
   apply ds rfl rfl rfl rfl
   ·refine Ck (fun _=>rfl) rfl (c8D X b l (id:=0) rfl q (by omega) hql) ?_
    exact nx rfl rfl ⟨rfl,rfl⟩
   repeat' (first|refine Zs rfl ?_|refine Zc rfl ?_|refine Zd rfl ?_)
   refine a0d rfl (fun h5=>?_) (fun h5=>?_)
   ·rw [e2,e1] at h5
    repeat' (refine Zc rfl ?_)
    refine Qx rfl (by kernel_rfl) ?_
    repeat' (refine Zd rfl ?_)
    apply Qd rfl rfl rfl rfl
    ·refine a1Y (j:=(i+j)%l.length) rfl hcl (Nat.zero_add _) rfl rfl rfl rfl rfl rfl rfl rfl ?_
     exact QX rfl rfl ⟨rfl,rfl⟩
    skip
    apply Qd rfl rfl rfl rfl
    ·refine a2a rfl rfl hpa rfl rfl rfl ?_
     exact QX rfl rfl ⟨rfl,rfl⟩
    skip
    apply Qd rfl rfl rfl rfl
    ·refine a1Y (j:=i) rfl hii (Nat.zero_add _) rfl rfl rfl rfl rfl rfl rfl rfl ?_
     exact QX rfl rfl ⟨rfl,rfl⟩
    skip
    refine Qf rfl rfl rfl ?_
    refine b0z (p:=Pc.used q f) rfl rfl rfl rfl hpa2 rfl rfl rfl rfl rfl ?_
    refine nx rfl rfl ?_
    repeat' (first|refine Zs rfl ?_|refine Zc rfl ?_|refine Qk ?_)
    have hg:=b5R X b (l.set i (.used q f)) (H:=[some (.arr ((l.set i (.used q f)).map pcA) 251)]) (id:=0) rfl ((i+j)%l.length) (by rw [List.length_set];exact hl) (by omega) (by rw [List.length_set];exact hcl)
    rw [List.length_set] at hg
    refine Zf rfl rfl (hg) rfl rfl rfl ?_
    repeat' (refine Zs rfl ?_)
    refine ⟨(l.set i (.used q f),(i+j)%l.length,1),hs.move hp hdl (a7X hcl hhm) (by show j<=_;omega),hmu _ (by rw [List.length_set]) rfl,?_⟩
    refine a0i 1 (Nat.le_refl 1) (a4Y (l.set i (.used q f))) rfl (Nat.le_refl 1) ?_
    rw [List.length_set]
    repeat' (first|exact a0k|refine a0a ⟨?_,?_⟩ ?_)
    all_goals (try first|exact rfl|exact trivial|(simp [a0g,a0e];done))
   rw [e2,e1] at h5
   repeat' (first|refine Zs rfl ?_|refine Zc rfl ?_)
   refine Zf rfl rfl (b5R X b l (id:=0) rfl ((i+j)%l.length) hl (by omega) hcl) rfl rfl rfl ?_
   repeat' (refine Zs rfl ?_)
   refine ⟨(l,i,j+1),hs.keep hp hdl (a7X hcl hhm) (by show _<j;omega),hmu _ rfl (by rw [Nat.mod_add_mod];rfl),?_⟩
   refine a0i 1 (Nat.le_refl 1) (a4Y l) rfl (Nat.le_refl 1) ?_
   rw [Nat.mod_add_mod]
   repeat' (first|exact a0k|refine a0a ⟨?_,?_⟩ ?_)
   all_goals (try first|exact rfl|exact trivial|(simp [a0g,a0e];done))
  have h6:p=.empty:=by
   cases p with
   | empty=>rfl
   | used q f=>exact absurd rfl h4
   | gone=>exact absurd hp (hs.ng _)
  subst h6
  repeat' (refine Zc rfl ?_)
  refine ⟨rfl,(l,i,j),⟨hs,hp⟩,?_⟩
  exact kk 1 (a4Y l) rfl (by simp [a0g,a0e])
 rintro ⟨l,i,j⟩ ⟨hs,he⟩
 have hlen:l.length=l0.length:=hs.len
 have hii:i<l.length:=hs.hol.il
 obtain ⟨p2,hp2,hpa2⟩:=c2K hii
 rw [<- hlen]
 repeat' (first|refine Zs rfl ?_|refine Zc rfl ?_)
 refine Qa rfl ?_
 refine a1Y (j:=i) rfl hii (Nat.zero_add _) rfl rfl rfl rfl rfl rfl rfl rfl ?_
 refine nx rfl rfl ?_
 skip
 refine Qb rfl ?_
 refine b0z (p:=Pc.empty) rfl rfl rfl rfl hpa2 rfl rfl rfl rfl rfl ?_
 refine nx rfl rfl ?_
 repeat' (refine Qh ?_)
 exact ⟨_,rfl,l.set i .empty,hs.done he,rfl,rfl⟩
theorem b8a(X:Nat->Prop)(H:Hp)(id:Nat)(b:Nat)(l0:List Pc)(i0:Nat)(k:Key)(e:En)(ho:H[id]?=some (some (.arr (l0.map pcA) 251)))(hl:l0.length=2 ^ b)(hb:b<=20)(hok:a6o (a1q b) l0)(hz:∃z:Nat,l0[z]?=some .empty)
  (hng:∀i:Nat,l0[i]?≠some .gone) (hkb:∀(i:Nat) q f,l0[i]?=some (.used q f)->q.length<=1000000) (hi:l0[i0]?=some (.used k e)) :
  a0b (E0 X) 168 [.agg [.int .i64 (b:Int),.own id 0 l0.length],.int .i64 (i0:Int)] H
   (fun r H'=>∃l,RmR b l0 (fun k'=>if k'=k then none else look l0 k') l/\r=.tup []/\H'=H.set id (some (.arr (l.map pcA) 251))):=by
 have h:=a0b.frame (E:=E0 X) (fun X=>c1m X b l0 i0 k e hl hb hok hz hng hkb hi) [id] H (by simp) rfl (fun j=>by
  match j with
  | 0=>simp
  | j+1=>simp) (fun j i o hj hh=>by
  match j,hj,hh with
  | 0,hj,hh =>
   simp [-List.map_map] at hj hh
   subst hj hh
   simp [rnO,a5m,ho]) ⟨by simp [a0g,a0e],trivial,trivial⟩ (a4Y l0)
 have e1:rnL (reN [id] H.length) [.agg [.int .i64 (b:Int),.own 0 0 l0.length],.int .i64 (i0:Int)]=[.agg [.int .i64 (b:Int),.own id 0 l0.length],.int .i64 (i0:Int)]:=by simp [rnL,rnA,reN]
 rw [e1] at h
 refine h.mono ?_
 rintro r H' ⟨r1,h',⟨l,hr,rfl,rfl⟩,_,rfl,rfl⟩
 exact ⟨l,hr,rfl,by simp [mrg,a1F,rnO,a5m]⟩
structure c3i(t:Tb)(k:Key)(t':Tb):Prop where
 ok:TOk t'
 look:∀k',t'.look k'=if k'=k then none else t.look k'
 tot:t'.nowLen+t'.oldLen<=t.nowLen+t.oldLen
 ol:t'.old.length<=t.old.length
theorem c3i.kb{t:Tb}{k:Key}{t':Tb}(h:c3i t k t')(hb:KB t):KB t':=fun q f hq=>by
 rw [h.look] at hq
 split at hq
 ·cases hq
 ·exact hb q f hq
theorem c0i{t0 t1:Tb}{k:Key}(hm:MvI t0 t1)(hf:(t1.forg k).2=true):c3i t0 k (t1.forg k).1/\(t0.look k).isSome=true:=by
 obtain ⟨f1,f2,f3,f4,f5,f6,f7,f8,f9⟩:=hm.ok.forg k
 obtain ⟨g1,e,g2⟩:=f4 hf
 refine ⟨⟨f1,fun k'=>?_,by have:=hm.tot;omega,Nat.le_trans (Nat.le_of_eq (a6u t1 k)) hm.ol⟩,?_⟩
 ·rw [f3]
  by_cases h:k'=k
  ·rw [if_pos ⟨hf,h⟩,if_pos h]
  ·rw [if_neg (fun h1=>h h1.2),if_neg h,hm.look]
 rw [<- hm.look]
 unfold Tb.look
 rw [g1,g2];rfl
theorem c0j{t0 t1:Tb}{k:Key}(hm:MvI t0 t1)(hf:(t1.forg k).2=false)(hh:(a1E (t1.forg k).1.bn (t1.forg k).1.now k).2=false):c3i t0 k (t1.forg k).1/\(t0.look k).isSome=false:=by
 obtain ⟨f1,f2,f3,f4,f5,f6,f7,f8,f9⟩:=hm.ok.forg k
 obtain ⟨_,_,g3⟩:=a8H (k:=k) (e:=⟨0,0,0,0,false⟩) f1.1.nok f1.1.free
 have hn:(t1.forg k).1.look k=none:=by
  unfold Tb.look
  rw [(g3 hh).2];exact f2
 have hl:∀k',(t1.forg k).1.look k'=t0.look k':=fun k'=>by rw [f3,if_neg (fun h1=>by rw [hf] at h1;cases h1.1),hm.look]
 refine ⟨⟨f1,fun k'=>?_,by have:=hm.tot;omega,Nat.le_trans (Nat.le_of_eq (a6u t1 k)) hm.ol⟩,by rw [<- hl,hn];rfl⟩
 split
 ·rename_i h;subst h;exact hn
 ·exact hl k'
theorem c3v{t0 t1:Tb}{k:Key}(hm:MvI t0 t1)(hf:(t1.forg k).2=false){l:List Pc}{e:En}(hk:look (t1.forg k).1.now k=some e)(hr:RmR (t1.forg k).1.bn (t1.forg k).1.now (fun k'=>if k'=k then none else look (t1.forg k).1.now k') l) :
  c3i t0 k { (t1.forg k).1 with now:=l,nowLen:=(t1.forg k).1.nowLen - 1 }/\(t0.look k).isSome=true/\0<(t1.forg k).1.nowLen:=by
 obtain ⟨f1,f2,f3,f4,f5,f6,f7,f8,f9⟩:=hm.ok.forg k
 have hc:=hr.cnt
 rw [<- f1.1.nc] at hc
 obtain ⟨g1,g2⟩:=f1.1.removed hk hr.len hr.ok hr.look hr.ng hc
 have hl:∀k',(t1.forg k).1.look k'=t0.look k':=fun k'=>by rw [f3,if_neg (fun h1=>by rw [hf] at h1;cases h1.1),hm.look]
 refine ⟨⟨⟨g1,f1.2⟩,fun k'=>by rw [g2,hl],by have:=hm.tot;show (t1.forg k).1.nowLen - 1+(t1.forg k).1.oldLen<=_;omega,Nat.le_trans (Nat.le_of_eq (a6u t1 k)) hm.ol⟩,?_,by omega⟩
 rw [<- hl]
 unfold Tb.look
 rw [hk];rfl
theorem c6H{t:Tb}(h:TOk t)(hb:KB t):∀(i:Nat) q f,t.now[i]?=some (.used q f)->q.length<=1000000:=fun i q f hi=>hb q f (by
 unfold Tb.look
 rw [(a1L h.1.nok).2 ⟨i,hi⟩])
theorem c7M(X:Nat->Prop)(t0:Tb)(k:Key)(h:TOk t0)(hkb:KB t0)(hk:k.length<=1000000):a0b (E0 X) 121 [.ptr 0 0,.str k] (tbH t0) (fun r H'=>∃t',c3i t0 k t'/\r=.bool (t0.look k).isSome/\H'=tbO t'):=by
 have hlt:=h.lt
 refine Z0 Proofs.Tryz.func121 rfl Proofs.Tryz.ntmps121 (by kernel_rfl) rfl ?_
 repeat' (first|refine Zs rfl ?_|refine Zc rfl ?_)
 refine Zx rfl rfl (c2G X t0 h hkb) rfl ?_
 rintro t1 ⟨hm,hw⟩
 obtain ⟨f1,f2,f3,f4,f5,f6,f7,f8,f9⟩:=hm.ok.forg k
 have hlt2:=f1.lt
 repeat' (first|refine Zs rfl ?_|refine Zc rfl ?_)
 refine Zf rfl rfl (c0u X t1 k hm.ok hk) rfl rfl rfl ?_
 skip
 refine a0H rfl (fun hf=>?_) (fun hf=>?_)
 ·obtain ⟨g1,g2⟩:=c0i hm hf
  repeat' (first|refine Zs rfl ?_|refine Zc rfl ?_)
  refine a0c ⟨_,rfl,⟨_,g1,by rw [g2];rfl,rfl⟩⟩
 repeat' (first|refine Zs rfl ?_|refine Zc rfl ?_)
 refine Zf rfl rfl (c0t (t1.forg k).1.bn (t1.forg k).1.now k f1.1.nl f1.2 hk f1.1.free X (id:=3) rfl) rfl rfl rfl ?_
 repeat' (first|refine Zs rfl ?_|refine Zc rfl ?_)
 refine a0H rfl (fun ht=>?_) (fun ht=>?_)
 ·obtain ⟨_,q2,_⟩:=a8H (k:=k) (e:=⟨0,0,0,0,false⟩) f1.1.nok f1.1.free
  obtain ⟨e,q3,q4⟩:=q2 ht
  have hkb2:KB (t1.forg k).1:=fun q f hq=>hkb q f (by
   rw [f3] at hq
   split at hq
   ·cases hq
   ·rw [<- hm.look];exact hq)
  repeat' (first|refine Zs rfl ?_|refine Zc rfl ?_)
  refine Zx rfl rfl (b8a X (tbO (t1.forg k).1) 3 (t1.forg k).1.bn (t1.forg k).1.now _ k e rfl f1.1.nl f1.2 f1.1.nok f1.1.free f1.1.ng (c6H f1 hkb2) q3) rfl ?_
  intro l hr
  obtain ⟨g1,g2,g3⟩:=c3v hm hf q4 hr
  have e1:IntKind.i64.wrap (((t1.forg k).1.nowLen:Int) - 1)=(((t1.forg k).1.nowLen - 1:Nat):Int):=by rw [a0p (by omega) (by omega)];omega
  repeat' (first|refine Zs rfl ?_|refine Zc rfl ?_)
  refine a0c ⟨_,rfl,⟨_,g1,by rw [g2,ht];rfl,?_⟩⟩
  have hlen:l.length=(t1.forg k).1.now.length:=hr.len
  simp [tbO,tbC,e1,hlen]
 obtain ⟨g1,g2⟩:=c0j hm hf ht
 repeat' (first|refine Zs rfl ?_|refine Zc rfl ?_)
 refine a0c ⟨_,rfl,⟨_,g1,by rw [g2,ht];rfl,rfl⟩⟩
end Go.Abs
