/- The reference's live. Joined texts, each with what its own name promises; no condition beyond those stated. -/
import Derived.Test.YtkmmdlicifiknaaGreatDoorWC
import Derived.Test.YtkmmdlicifiknaaGreatDoorWN
import Derived.Test.YtkmmdlicifiknaaGreatDoorWH
import Derived.Test.YtkmmdlicifiknaaGreatDoorWJ
import Derived.Test.YtkmmdlicifiknaaGreatDoorWG
import Derived.Test.YtkmmdlicifiknaaGreatDoorWE
import Derived.Test.YtkmmdlicifiknaaGreatDoorWF
import Derived.Test.YtkmmdlicifiknaaGreatDoorWB
set_option maxHeartbeats 0
set_option maxRecDepth 100000
set_option linter.all false
namespace Go.Abs
attribute [local irreducible] a0B a1G AWp Nx awM
theorem a9f{s:Sb}(h:sbB s=true):(∀l∈a1n s,a1f l=true)/\((a1n s).map (·.id)).Nodup/\s.fo.length<=2:=by
 unfold sbB at h
 simp only [Bool.and_eq_true,decide_eq_true_eq] at h
 obtain ⟨_,_,_,_,_,_,_,_,ht,hp⟩:=h
 unfold phB at hp
 unfold a1n
 split at hp
 ·simp only [Bool.and_eq_true,List.isEmpty_iff] at hp
  rw [hp.2]
  exact ⟨fun l hl=>by rw [List.mem_singleton.1 hl];exact ht,by simp,by simp⟩
 split at hp
 ·simp only [Bool.and_eq_true,decide_eq_true_eq] at hp
  obtain ⟨_,h1,h2,h3⟩:=hp
  rw [h2]
  refine ⟨fun l hl=>?_,?_,by simp⟩
  ·simp only [List.mem_cons,List.not_mem_nil,or_false] at hl
   rcases hl with rfl|rfl
   ·exact ht
   ·exact h1
  ·simpa using h3
 split at hp
 ·simp only [Bool.and_eq_true,decide_eq_true_eq] at hp
  obtain ⟨_,h1,h2⟩:=hp
  unfold b1R at h2
  split at h2
  ·rename_i a b hab
   simp only [Bool.and_eq_true,decide_eq_true_eq] at h2
   obtain ⟨h3,h4,h5,h6,h7,_⟩:=h2
   rw [hab]
   refine ⟨fun l hl=>?_,?_,by simp⟩
   ·simp only [List.mem_cons,List.not_mem_nil,or_false] at hl
    rcases hl with rfl|rfl|rfl
    ·exact ht
    ·rw [h3];exact h1
    ·exact h4
   subst h3
   simp only [List.map_cons,List.map_nil,List.nodup_cons,List.mem_cons,List.not_mem_nil,or_false,not_or,not_false_eq_true,List.nodup_nil,and_true]
   exact ⟨⟨fun e=>h6 e.symm,fun e=>h7 e.symm⟩,h5⟩
  ·cases h2
 ·cases hp
theorem b6F{l:La}{slot:Int}{o:Option Hd}{h:Hd}(e:b4U l slot o=some h):o=some h/\h.ver=l.ver/\h.lay=l.id/\h.slot=slot:=by
 unfold b4U at e
 split at e
 ·cases e
 split at e
 ·rename_i h1 h2
  cases e
  exact ⟨rfl,h2⟩
 ·cases e
theorem a8g{img:List UInt8}{l:La}{slot:Int}{h:Hd}(e:a2O img l slot=some h):a3M l slot/\hdB h=true/\h.ver=l.ver/\h.lay=l.id/\h.slot=slot:=by
 unfold a2O at e
 split at e
 ·rename_i h1
  obtain ⟨h2,h3⟩:=b6F e
  exact ⟨h1,(b4P h2).1,h3⟩
 ·cases e
theorem a9C{hdr:La->Int->Option Hd}{l:La}{n:Nat}{r:Rg}:r∈a7l hdr l n ↔ ∃i:Nat,i<n/\hdr l (i:Int)=some r.h/\r.l=l:=by
 unfold a7l
 rw [List.mem_filterMap]
 constructor
 ·rintro ⟨i,hi,h⟩
  rw [Option.map_eq_some_iff] at h
  obtain ⟨a,h1,rfl⟩:=h
  exact ⟨i,List.mem_range.1 hi,h1,rfl⟩
 ·rintro ⟨i,hi,h,rfl⟩
  exact ⟨i,List.mem_range.2 hi,by rw [h];rfl⟩
theorem b3r{hdr:La->Int->Option Hd}{ls:List La}{r:Rg}:r∈a3T hdr ls ↔ r.l∈ls/\∃i:Nat,i<r.l.regs.toNat/\hdr r.l (i:Int)=some r.h:=by
 unfold a3T
 rw [List.mem_flatMap]
 constructor
 ·rintro ⟨l,hl,h⟩
  obtain ⟨i,hi,h1,rfl⟩:=a9C.1 h
  exact ⟨hl,i,hi,h1⟩
 ·rintro ⟨hl,i,hi,h⟩
  exact ⟨r.l,hl,a9C.2 ⟨i,hi,h,rfl⟩⟩
structure c5S(ls:List La)(r:Rg):Prop where
 mem:r.l∈ls
 slot:a3M r.l r.h.slot
 hd:hdB r.h=true
 ver:r.h.ver=r.l.ver
 lay:r.h.lay=r.l.id
theorem b3s{img:List UInt8}{ls:List La}{r:Rg}(h:r∈a3T (a2O img) ls):c5S ls r/\a2O img r.l r.h.slot=some r.h:=by
 obtain ⟨hl,i,hi,h1⟩:=b3r.1 h
 obtain ⟨h2,h3,h4,h5,h6⟩:=a8g h1
 rw [<- h6] at h1 h2
 exact ⟨⟨hl,h2,h3,h4,h5⟩,h1⟩
theorem c6E{ls:List La}(hn:(ls.map (·.id)).Nodup){a b:La}(ha:a∈ls)(hb:b∈ls)(h:a.id=b.id):a=b:=by
 induction ls with
 | nil=>cases ha
 | cons x ls ih =>
  rw [List.map_cons,List.nodup_cons] at hn
  rcases List.mem_cons.1 ha with rfl|ha1
  ·rcases List.mem_cons.1 hb with rfl|hb
   ·rfl
   ·exact absurd (List.mem_map.2 ⟨b,hb,h.symm⟩) hn.1
  rcases List.mem_cons.1 hb with rfl|hb
  ·exact absurd (show b.id∈ls.map (·.id) from List.mem_map.2 ⟨a,ha1,h⟩) hn.1
  ·exact ih hn.2 ha1 hb
theorem c3p{img:List UInt8}{ls:List La}(hn:(ls.map (·.id)).Nodup){a b:Rg}(ha:a∈a3T (a2O img) ls)(hb:b∈a3T (a2O img) ls)(h1:a.l.id=b.l.id)(h2:a.h.slot=b.h.slot):a=b:=by
 obtain ⟨h3,h4⟩:=b3s ha
 obtain ⟨h5,h6⟩:=b3s hb
 have hl:=c6E hn h3.mem h5.mem h1
 rw [hl,h2,h6] at h4
 obtain ⟨ah,al⟩:=a
 obtain ⟨bh,bl⟩:=b
 simp only [Option.some.injEq] at h4 hl
 rw [<- h4,hl]
theorem c3q{img:List UInt8}{ls:List La}(hn:(ls.map (·.id)).Nodup){a b:Rg}(ha:a∈a3T (a2O img) ls)(hb:b∈a3T (a2O img) ls)(hab:a≠b):a5s a b=true\/a5s b a=true:=by
 rw [a3z,a3z]
 have:=c3p hn ha hb
 by_cases h1:a.l.id=b.l.id
 ·have h2:a.h.slot≠b.h.slot:=fun h2=>hab (this h1 h2)
  omega
 ·omega
theorem a5k{α:Type}{f:Nat->Option α}(hf:∀i j x,f i=some x->f j=some x->i=j):∀n,((List.range n).filterMap f).Nodup
 | 0=>by simp
 | n+1=>by
  rw [List.range_succ,List.filterMap_append,List.nodup_append]
  refine ⟨a5k hf n,?_,fun a ha b hb=>?_⟩
  ·cases h:f n with
   | none=>simp [h]
   | some x=>simp [h]
  obtain ⟨i,hi,h1⟩:=List.mem_filterMap.1 ha
  obtain ⟨j,hj,h2⟩:=List.mem_filterMap.1 hb
  rw [List.mem_singleton.1 hj] at h2
  rintro rfl
  have:=hf i n a h1 h2
  have:=List.mem_range.1 hi
  omega
theorem a7S{img:List UInt8}:∀{ls:List La},(ls.map (·.id)).Nodup->(a3T (a2O img) ls).Nodup
 | [],_=>by simp [a3T]
 | l::ls,h=>by
  rw [List.map_cons,List.nodup_cons] at h
  have e:a3T (a2O img) (l::ls)=a7l (a2O img) l l.regs.toNat++a3T (a2O img) ls:=by simp [a3T]
  rw [e,List.nodup_append]
  refine ⟨?_,a7S h.2,fun a ha b hb=>?_⟩
  ·refine a5k (fun i j x h1 h2=>?_) _
   rw [Option.map_eq_some_iff] at h1 h2
   obtain ⟨a,h1,rfl⟩:=h1
   obtain ⟨b,h2,h3⟩:=h2
   have e1:=(a8g h1).2.2.2.2
   have e2:=(a8g h2).2.2.2.2
   have e3:b=a:=congrArg Rg.h h3
   rw [e3] at e2
   omega
  rintro rfl
  obtain ⟨i,_,_,h1⟩:=a9C.1 ha
  obtain ⟨h2,_⟩:=b3r.1 hb
  rw [h1] at h2
  exact h.1 (List.mem_map.2 ⟨l,h2,rfl⟩)
theorem a6J{img:List UInt8}{ls:List La}(hn:(ls.map (·.id)).Nodup){s:List Rg}(h:a6N (a3T (a2O img) ls) s):s.Pairwise (fun a b=>a5s a b=true):=by
 have hnd:s.Nodup:=h.1.nodup_iff.2 (a7S hn)
 rw [List.pairwise_iff_getElem]
 intro i j hi hj hij
 have h1:=h.2 i j hi hj hij
 have hne:s[i]≠s[j]:=List.pairwise_iff_getElem.1 hnd i j hi hj hij
 rcases c3q hn (h.1.mem_iff.1 (List.getElem_mem hi)) (h.1.mem_iff.1 (List.getElem_mem hj)) hne with h2|h2
 ·exact h2
 ·rw [h1] at h2;cases h2
def b9y:AV:=.fp [.ptr 0 0]
theorem a1I{n:Nat}(h:0<n):a0g n b9y:=⟨h,trivial⟩
def nfC:AV:=.clo (.func 58) [] [b9y]
theorem b7v{n:Nat}(h:0<n):a0g n nfC:=⟨trivial,a1I h,trivial⟩
theorem b1v{n:Nat}(h:n<=1073741824):IntKind.i64.wrap ((n:Int).tdiv 64)=((n / 64:Nat):Int):=by
 have e:(n:Int).tdiv 64=((n / 64:Nat):Int):=by
  rw [Int.tdiv_eq_ediv_of_nonneg (by omega)];rfl
 rw [e]
 exact a0p (by omega) (by omega)
def nfB(v:Dv)(l:La):Bool:=!c5O l ((v.image.length / 64:Nat):Int)
theorem c6R(X:Nat->Prop)(v:Dv)(hv:v.Inv)(l:La):a0b (E0 X) 58 [laA l,b9y] (a1c v) (fun r H'=>r=.bool (nfB v l)/\H'=a1c v):=by
 have hlv:v.image.length<=1073741824:=by have:=hv.load.2.2;omega
 refine a0b.cutD ?_ trivial
 refine Z0 Proofs.Tryz.func58 rfl Proofs.Tryz.ntmps58 (by kernel_rfl) rfl ?_
 refine Zc rfl (Zc rfl (Zs rfl (Zs rfl (Zh ?_))))
 refine Kz 3 [1,2] 3 (a1N v) rfl rfl ⟨a1I (Nat.zero_lt_succ 2),⟨trivial,trivial,trivial,trivial,trivial⟩,trivial⟩ ?_
 have hsc:=b1w X v
 rw [b1v hlv] at hsc
 repeat' (refine Zc rfl ?_)
 refine a0m [] [] (by exact rfl) (by kernel_rfl) ?_
 repeat' (refine Zd rfl ?_)
 apply ds rfl rfl rfl rfl
 ·refine Ck (fun _=>rfl) rfl (hsc) ?_
  exact nx rfl rfl ⟨rfl,rfl⟩
 skip
 refine Zq rfl rfl rfl rfl (c6g l ((v.image.length / 64:Nat):Int) X) rfl ?_
 repeat' (first|refine Zd rfl ?_|refine Zk ?_)
 refine a0c ⟨_,rfl,⟨rfl,rfl⟩⟩
theorem c0N(X:Nat->Prop)(v:Dv)(hv:v.Inv)(ls:List La)(hl:ls.length<=1000000):a0b (E0 X) 108 [.sl 4 (ls.map laA),nfC] (a1c v)
  (fun r H'=>r=.int .i64 (b6Z (nfB v) ls 0)/\H'=a1c v):=by
 refine a0b.cutD ?_ trivial
 refine Z0 Proofs.Tryz.func108 rfl Proofs.Tryz.ntmps108 (by kernel_rfl) rfl ?_
 repeat' (first|refine Zs rfl ?_|refine Zc rfl ?_)
 have hfi:a0g 3 nfC:=b7v (Nat.zero_lt_succ 2)
 have hnf:=fun l=>c6R X v hv l
 refine a0q (fun i:Nat=>⟨[(0,.sl 4 (ls.map laA)),(1,nfC),(7,.int .i64 (ls.length:Int)),(8,.int .i64 (i:Int))],a1c v⟩) (fun i=>i<=ls.length/\b6Z (nfB v) (ls.drop i) i=b6Z (nfB v) ls 0) (fun i=>ls.length - i) 0 ⟨Nat.zero_le _,rfl⟩ ?_ ?_
 ·refine a0i 3 (Nat.le_refl 3) (a1N v) rfl (Nat.le_refl 3) ?_
  exact a0a ⟨rfl,a1k ls⟩ (a0a ⟨rfl,hfi⟩ (a0a ⟨by rw [List.length_map];rfl,trivial⟩ (a0a ⟨rfl,trivial⟩ a0k)))
 rintro i ⟨hi,ho⟩
 repeat' (first|refine Zs rfl ?_|refine Zc rfl ?_)
 refine a0d rfl (fun h1=>?_) (fun h1=>?_)
 ·have hil:i<ls.length:=by omega
  obtain ⟨x,hx⟩:∃x,ls[i]?=some x:=⟨_,List.getElem?_eq_getElem hil⟩
  rw [b1a hx] at ho
  repeat' (first|refine Zs rfl ?_|refine Zc rfl ?_)
  refine Qa rfl ?_
  refine a0y hx rfl rfl rfl rfl rfl rfl rfl (by first|rfl|omega) rfl ?_
  refine nx rfl rfl ?_
  repeat' (refine Zs rfl ?_)
  refine Zf rfl rfl (hnf x) rfl rfl rfl ?_
  cases hc:nfB v x with
  | true =>
   rw [hc,if_pos rfl] at ho
   repeat' (first|refine Zs rfl ?_|refine Zc rfl ?_)
   refine a0c ⟨_,rfl,?_⟩
   exact ⟨congrArg (AV.int .i64) ho,rfl⟩
  | false =>
   rw [hc,if_neg (by decide)] at ho
   repeat' (first|refine Zs rfl ?_|refine Zc rfl ?_)
   refine ⟨i+1,⟨by omega,ho⟩,by omega,?_⟩
   rw [show IntKind.i64.wrap ((i:Int)+1)=((i+1:Nat):Int) from a0p (by omega) (by omega)]
   exact kk 3 (a1N v) rfl ⟨a1k ls,hfi,trivial,trivial,trivial⟩
 have hii:i=ls.length:=by omega
 rw [hii,List.drop_length] at ho
 repeat' (first|refine Zs rfl ?_|refine Zc rfl ?_)
 refine a0c ⟨_,rfl,?_⟩
 exact ⟨congrArg (AV.int .i64) ho,rfl⟩
theorem c4d(X:Nat->Prop)(v:Dv)(hv:v.Inv)(ls:List La)(hl:ls.length<=1000000):a0b (E0 X) 57 [.sl 4 (ls.map laA),nfC] (a1c v)
  (fun r H'=>r=.bool (ls.any (nfB v))/\H'=a1c v):=by
 refine a0b.cutD ?_ trivial
 refine Z0 Proofs.Tryz.func57 rfl Proofs.Tryz.ntmps57 (by kernel_rfl) rfl ?_
 repeat' (first|refine Zs rfl ?_|refine Zc rfl ?_)
 refine Zf rfl rfl (c0N X v hv ls hl) rfl rfl rfl ?_
 repeat' (refine Zs rfl ?_)
 rw [a9Q]
 refine a0c ⟨_,rfl,⟨rfl,rfl⟩⟩
theorem c0L(X:Nat->Prop)(v:Dv)(hv:v.Inv)(ls:List La)(hl:ls.length<=1000000)(R:Hp):a0b (E0 X) 57 [.sl 4 (ls.map laA),nfC] (a1c v++R)
  (fun r H'=>r=.bool (ls.any (nfB v))/\H'=a1c v++R):=by
 refine a0b.conv (a0b.frameLR (E:=E0 X) (fun Y=>c4d Y v hv ls hl) [] R (b0w v) ⟨a1k ls,b7v (Nat.zero_lt_succ 2),trivial⟩ (a1N v)) ?_ (by rw [show (a1c v).length=3 from rfl,a3j];rfl) ?_
 ·show rnA _ (.sl 4 (ls.map laA))::rnA _ nfC::[]=_
  rw [a2r (.sl 4 (ls.map laA)) (a1k ls:a0e 0 _)]
  rfl
 rintro r H' ⟨r1,h',⟨rfl,rfl⟩,-,rfl,rfl⟩
 refine ⟨rfl,?_⟩
 show []++a1U (sh 0 R.length 3) (a1c v)++R++[]=_
 rw [a3j,List.append_nil];rfl
def arB(s:List UInt8):AO:=.arr (s.map u8A) 5
theorem b4q{f:Nat->Option Nat}(s:List UInt8):b5C f (arB s) (arB s):=a0A 0 (fun i h=>absurd h (Nat.not_lt_zero i)) (a0h fun _=>a0n)
def padS(s:List UInt8):List UInt8:=s++List.replicate ((59 - s.length%59)%59) 0
def a6y(s:List UInt8)(i:Nat):List UInt8:=s++List.replicate i 0
theorem b4d(s:List UInt8)(i:Nat):(a6y s i).length=s.length+i:=by simp [a6y]
theorem b7H(s:List UInt8)(i:Nat):a6y s (i+1)=a6y s i++[0]:=by simp [a6y,List.replicate_succ']
theorem c0S(s:List UInt8):a6y s ((59 - s.length%59)%59)=padS s:=rfl
def frN(F seq:Nat)(s:List UInt8)(t:Nat):List UInt8:=a3Q 2 seq (F+1+t) ((s.drop (t*59)).take 59)
def tkS(F t n:Nat):List Int:=(List.range n).map fun (i:Nat)=>((F+1+t+i:Nat):Int)
def tkF(F seq:Nat)(s:List UInt8)(t n:Nat):List (List UInt8):=(List.range n).map fun i=>frN F seq s (t+i)
theorem c1U(F t n:Nat):tkS F t (n+1)=tkS F t n++[((F+1+t+n:Nat):Int)]:=by simp [tkS,List.range_succ]
theorem c1T(F seq:Nat)(s:List UInt8)(t n:Nat):tkF F seq s t (n+1)=tkF F seq s t n++[frN F seq s (t+n)]:=by simp [tkF,List.range_succ]
theorem b9i(F t n:Nat):(tkS F t n).length=n:=by simp [tkS]
theorem b9h(F seq:Nat)(s:List UInt8)(t n:Nat):(tkF F seq s t n).length=n:=by simp [tkF]
theorem a5y(l:List (List UInt8)){n:Nat}:a0e n (l.map a6I):=a0h fun _=>b2T
theorem b7A(l:List (List UInt8)):a2N (l.map a6I):=fun y hy=>by
 obtain ⟨b,_,rfl⟩:=List.mem_map.1 hy;exact ⟨rfl,rfl⟩
theorem c3Y(g:Nat->Nat)(s:List UInt8):a1U g [some (arB s)]=[some (arB s)]:=by
 simp [a1U,arB,rnO,a1X (f:=u8A) (fun _=>rfl)]
theorem a8e{F seq:Nat}{s:List UInt8}{t:Nat}:(frN F seq s t).length=64:=a2W (by simp;omega)
theorem c5y{F t n i:Nat}(h:i<n):(tkS F t n)[i]?=some ((F+1+t+i:Nat):Int):=by simp [tkS,h]
theorem c5x{F seq:Nat}{s:List UInt8}{t n i:Nat}(h:i<n):(tkF F seq s t n)[i]?=some (frN F seq s (t+i)):=by simp [tkF,h]
end Go.Abs
namespace Go.Abs
attribute [local irreducible] a0B a1G AWp Nx awM
end Go.Abs
namespace Go.Abs
def boA(b:Bool):AV:=.bool b
attribute [local irreducible] a0B a1G AWp Nx awM
@[simp] theorem b6b{n:Nat}{b:Bool}:a0g n (boA b):=trivial
end Go.Abs
namespace Go.Abs
end Go.Abs
