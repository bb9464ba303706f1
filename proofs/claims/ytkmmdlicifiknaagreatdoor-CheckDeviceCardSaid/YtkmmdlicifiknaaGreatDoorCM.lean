/- Superblocks: Valid. Joined texts, each with what its own name promises; no condition beyond those stated. -/
import Derived.Test.YtkmmdlicifiknaaGreatDoorCG
import Derived.Test.YtkmmdlicifiknaaGreatDoorCC
import Derived.Test.YtkmmdlicifiknaaGreatDoorCE
import Derived.Test.YtkmmdlicifiknaaGreatDoorCF
set_option maxHeartbeats 0
set_option maxRecDepth 100000
set_option linter.all false
namespace Go.Abs
structure Sb where
 gen:Int
 phase:Int
 mig:Int
 tail:Int
 now:Int
 t:La
 h:La
 fo:List La
def sbL(s:Sb):List AV:=[.int .i64 s.gen,.int .i64 s.phase,.int .i64 s.mig,.int .i64 s.tail,.int .i64 s.now,.int .i64 s.t.id,.int .i64 s.t.ver,.int .i64 s.t.rs,.int .i64 s.t.regs,.int .i64 s.h.id,.int .i64 s.h.ver,.int .i64 s.h.rs,.int .i64 s.h.regs,.sl 4 (s.fo.map laA)]
def sbA(s:Sb):AV:=.agg (sbL s)
theorem a1w(l:List La){n:Nat}:a0e n (l.map laA):=a0h fun _=>a1g
@[simp] theorem a1J{n:Nat}{s:Sb}:a0d n (sbA s):=⟨trivial,trivial,trivial,trivial,trivial,trivial,trivial,trivial,trivial,trivial,trivial,trivial,trivial,a1w _,trivial⟩
theorem a4n(p q:La):(decide (p.id=q.id)&&(decide (p.ver=q.ver)&&(decide (p.rs=q.rs)&&(decide (p.regs=q.regs)&&true))))=decide (p=q):=by
 obtain ⟨p1,p2,p3,p4⟩:=p
 obtain ⟨q1,q2,q3,q4⟩:=q
 rw [Bool.eq_iff_iff]
 simp only [Bool.and_eq_true,decide_eq_true_eq,Bool.and_true,La.mk.injEq]
def b1f(s:Sb):Bool:=match s.fo with
 | [a,b]=>decide (a=s.h)&&(a1a b&&(decide (s.h.id≠b.id)&&(decide (s.h.id≠s.t.id)&&(decide (b.id≠s.t.id)&&decide (s.t=⟨s.t.id,s.h.ver,s.h.rs,s.h.regs⟩)))))
 | _=>false
def phB(s:Sb):Bool:=if s.phase=1 then decide (s.h=⟨0,0,0,0⟩)&&s.fo.isEmpty else
 if s.phase=2 then decide (0<s.mig)&&(a1a s.h&&(decide (s.fo=[s.h])&&decide (s.t.id≠s.h.id))) else
 if s.phase=3 then decide (0<s.mig)&&(a1a s.h&&b1f s) else false
def sbB(s:Sb):Bool:=decide (1<=s.gen)&&(decide (s.gen<=1099511627775)&&(decide (0<=s.mig)&&(decide (s.mig<=4294967295)&&(decide (0<=s.tail)&&(decide (s.tail<=281474976710655)&&(decide (0<=s.now)&&(decide (s.now<=549755813888)&&(a1a s.t&&phB s))))))))
attribute [local irreducible] a0z a1p AWp Nx awM
theorem c5M(X:Nat->Prop)(a b:List La)(ha:a.length<=4611686018427387904) :
  a0b (E0 X) 214 [.sl 4 (a.map laA),.sl 4 (b.map laA)] [] (fun r H'=>r=.bool (decide (a=b))/\H'=[]):=by
 refine Z0 Proofs.Tryz.func214 rfl Proofs.Tryz.ntmps214 (by kernel_rfl) rfl ?_
 repeat' (first|refine Zs rfl ?_|refine Zc rfl ?_|refine Zh ?_|refine Qs ?_)
 refine a0g rfl (fun h1=>?_) (fun h1=>?_)
 ·have h2:¬ a=b:=fun h=>by subst h;simp at h1
  repeat' (first|refine Zs rfl ?_|refine Zc rfl ?_|refine Zh ?_|refine Qs ?_)
  refine a0c ⟨_,rfl,?_,?_⟩
  ·rw [decide_eq_false h2];rfl
  ·rfl
 have hlen:a.length=b.length:=by simp at h1;omega
 repeat' (first|refine Zs rfl ?_|refine Zc rfl ?_)
 refine a0s (fun k:Nat=>⟨[(0,.sl 4 (a.map laA)),(1,.sl 4 (b.map laA)),(12,.int .i64 a.length),(13,.int .i64 (k:Int))],[]⟩) (fun k=>k<=a.length/\∀j,j<k->a[j]?=b[j]?) (fun k=>a.length - k) 0 ⟨Nat.zero_le _,fun j h=>absurd h (Nat.not_lt_zero j)⟩ ?_ ?_
 ·refine a0j 0 (Nat.zero_le _) a0X rfl (by simp) ?_
  repeat' (first|exact a0l|refine a0a ⟨?_,?_⟩ ?_)
  all_goals (try first|exact rfl|exact trivial|(simp [a0d,a0e];done)|(simp [a0R];done))
 rintro k ⟨hk,h⟩
 repeat' (first|refine Zs rfl ?_|refine Zc rfl ?_)
 refine a0g rfl (fun h3=>?_) (fun h3=>?_)
 ·have hka:k<a.length:=by omega
  obtain ⟨p,hp⟩:∃p,a[k]?=some p:=⟨_,List.getElem?_eq_getElem hka⟩
  obtain ⟨q,hq⟩:∃q,b[k]?=some q:=⟨_,List.getElem?_eq_getElem (hlen ▸ hka)⟩
  repeat' (first|refine Zs rfl ?_|refine Zc rfl ?_)
  refine a0p [] [] (by exact rfl) (by kernel_rfl) ?_
  repeat' (refine Zd rfl ?_)
  apply ds rfl rfl rfl rfl
  ·refine a0C hp rfl rfl rfl rfl rfl rfl rfl (by first|rfl|omega) rfl ?_
   exact nx rfl rfl ⟨rfl,rfl⟩
  repeat' (refine Zd rfl ?_)
  apply ds rfl rfl rfl rfl
  ·refine a0C hq rfl rfl rfl rfl rfl rfl rfl (by first|rfl|omega) rfl ?_
   exact nx rfl rfl ⟨rfl,rfl⟩
  repeat' (first|refine Zd rfl ?_|refine Zk ?_|refine Qs ?_)
  rw [a4n]
  refine a0I rfl (fun h4=>?_) (fun h4=>?_)
  ·have h5:¬ p=q:=by simpa using h4
   have h6:¬ a=b:=fun e=>by subst e;rw [hp] at hq;exact h5 (Option.some.inj hq)
   repeat' (first|refine Zs rfl ?_|refine Zc rfl ?_|refine Zh ?_|refine Qs ?_)
   refine a0c ⟨_,rfl,?_,?_⟩
   ·rw [decide_eq_false h6];rfl
   ·rfl
  have h5:p=q:=by simpa using h4
  repeat' (first|refine Zs rfl ?_|refine Zc rfl ?_|refine Zh ?_|refine Qs ?_)
  refine ⟨k+1,⟨by omega,fun j hj=>?_⟩,by omega,a0j 0 (Nat.zero_le _) a0X rfl (by simp) ?_⟩
  ·rcases Nat.lt_or_ge j k with h1|h1
   ·exact h j h1
   have:j=k:=by omega
   subst this
   rw [hp,hq,h5]
  ·repeat' (first|exact a0l|refine a0a ⟨?_,?_⟩ ?_)
   all_goals (try first|exact rfl|exact trivial|(simp [a0d,a0e];done)|(refine congrArg (AV.int .i64) (a0x ?_ ?_ ?_)<;>(first|omega|(simp;omega))))
 have hkl:k=a.length:=by omega
 have hab:a=b:=by
  refine List.ext_getElem? fun j=>?_
  rcases Nat.lt_or_ge j k with h1|h1
  ·exact h j h1
  ·rw [List.getElem?_eq_none (by omega),List.getElem?_eq_none (by omega)]
 repeat' (first|refine Zs rfl ?_|refine Zc rfl ?_|refine Zh ?_|refine Qs ?_)
 refine a0c ⟨_,rfl,?_,?_⟩
 ·rw [decide_eq_true hab];rfl
 ·rfl
def orF:FuncId->List AV->Option AV
 | 109,[.agg [.int .i64 a,.int .i64 b,.int .i64 c,.int .i64 d]]=>some (.bool (a1a ⟨a,b,c,d⟩))
 | _,_=>none
theorem b6L{X:Nat->Prop}:∀k xs r,orF k xs=some r->Pur (E0 X) k xs r:=fun k xs r h=>by
 unfold orF at h
 split at h
 ·cases h
  exact ⟨⟨a1g (l:=⟨_,_,_,_⟩),trivial⟩,fun Y=>a6H Y ⟨_,_,_,_⟩⟩
 ·cases h
theorem c4M(X:Nat->Prop)(s:Sb)(a b:La)(hfo:s.fo=[a,b]):a0b (E0 X) 215 [sbA s] [] (fun r H'=>r=.bool (b1f s)/\H'=[]):=by
 refine a0b.cut0 ?_ trivial
 obtain ⟨gen,phase,mig,tail,now,⟨t1,t2,t3,t4⟩,⟨h1,h2,h3,h4⟩,fo⟩:=s
 obtain ⟨a1,a2,a3,a4⟩:=a
 obtain ⟨b1,b2,b3,b4⟩:=b
 cases hfo
 refine Z0 Proofs.Tryz.func215 rfl Proofs.Tryz.ntmps215 (by kernel_rfl) rfl ?_
 repeat' (first|refine Zg b6L rfl rfl (by kernel_rfl) ?_|refine Zs rfl ?_|refine Zc rfl ?_)
 refine a0I rfl (fun h1=>?_) (fun h1=>?_)
 ·repeat' (first|refine Zb rfl rfl ?_|refine Zc rfl ?_)
  refine a0c ⟨_,rfl,congrArg AV.bool ?_⟩
  simp at h1
  grind [b1f]
 simp at h1
 repeat' (first|refine Za b6L rfl rfl ?_|refine Zg b6L rfl rfl (by kernel_rfl) ?_|refine Zs rfl ?_|refine Zc rfl ?_)
 refine a0c ⟨_,rfl,congrArg AV.bool ?_⟩
 grind [b1f]
theorem c5Y(X:Nat->Prop)(s:Sb):a0b (E0 X) 215 [sbA s] [] (fun r H'=>r=.bool (b1f s)/\H'=[]):=by
 by_cases hl:s.fo.length=2
 ·match hfo:s.fo,hl with
  | [a,b],_=>exact c4M X s a b hfo
 have hr:b1f s=false:=by
  unfold b1f
  split
  ·rename_i a b he;rw [he] at hl;exact absurd rfl hl
  ·rfl
 rw [hr]
 refine a0b.cut0 ?_ trivial
 have hl2:decide (((s.fo.map laA).length:Int)≠2)=true:=by simp at hl ⊢;omega
 refine Z0 Proofs.Tryz.func215 rfl Proofs.Tryz.ntmps215 (by kernel_rfl) rfl ?_
 repeat' (first|refine Zs rfl ?_|refine Zc rfl ?_)
 refine a0p [] [] (by exact rfl) (by kernel_rfl) ?_
 repeat' (refine Zd rfl ?_)
 rw [hl2]
 repeat' (first|refine Zb rfl rfl ?_|refine Zc rfl ?_|refine Zd rfl ?_)
 exact a0c ⟨_,rfl,rfl⟩
theorem c2r(X:Nat->Prop)(s:Sb)(hfl:s.fo.length<=4611686018427387904):a0b (E0 X) 179 [sbA s] [] (fun r H'=>r=.bool (phB s)/\H'=[]):=by
 refine a0b.cut0 ?_ trivial
 have hret:=fun X=>c5Y X s
 obtain ⟨gen,phase,mig,tail,now,t,h,fo⟩:=s
 simp only at hfl
 show a0b (E0 X) 179 [.agg [.int .i64 gen,.int .i64 phase,.int .i64 mig,.int .i64 tail,.int .i64 now,.int .i64 t.id,.int .i64 t.ver,.int .i64 t.rs,.int .i64 t.regs,.int .i64 h.id,.int .i64 h.ver,.int .i64 h.rs,.int .i64 h.regs,.sl 4 (fo.map laA)]] [] _
 refine Z0 Proofs.Tryz.func179 rfl Proofs.Tryz.ntmps179 (by kernel_rfl) rfl ?_
 repeat' (first|refine Zs rfl ?_|refine Zc rfl ?_|refine Zh ?_|refine Qs ?_)
 refine a0g rfl (fun h1=>?_) (fun h1=>?_)
 ·repeat' (first|refine Zs rfl ?_|refine Zc rfl ?_|refine Zh ?_|refine Qs ?_|((fail_if_success refine QV rfl ?_);refine Qz rfl rfl (fun _=>?_) (fun _=>?_)))
  ·rename_i e1
   have e2:=(a4n h ⟨0,0,0,0⟩).symm.trans e1
   refine a0c ⟨_,rfl,congrArg AV.bool ?_⟩
   simp only [phB,if_pos h1,e2]
   cases fo<;>simp<;>omega
  rename_i e1
  have e2:=(a4n h ⟨0,0,0,0⟩).symm.trans e1
  refine a0c ⟨_,rfl,congrArg AV.bool ?_⟩
  simp only [phB,if_pos h1,e2]
  rfl
 repeat' (first|refine Zs rfl ?_|refine Zc rfl ?_|refine Zh ?_|refine Qs ?_)
 refine a0g rfl (fun h2=>?_) (fun h2=>?_)
 ·repeat' (first|refine Zs rfl ?_|refine Zc rfl ?_|refine Zh ?_|refine Qa rfl ?_|refine Qs ?_|((fail_if_success refine QV rfl ?_);refine Qy rfl rfl (fun _=>?_) (fun _=>?_)))
  ·rename_i e1
   refine Cn rfl (a0f (E:=E0 X) (fun X=>a6H X h) (by simp [a0e,a0d]) _) rfl rfl ?_
   cases hf:a1a h with
   | false =>
    repeat' (first|refine Zs rfl ?_|refine Zh ?_|refine Qs ?_)
    exact a0c ⟨_,rfl,congrArg AV.bool (by simp [phB,h1,h2,e1,hf])⟩
   | true =>
    repeat' (first|refine Zs rfl ?_|refine Qa rfl ?_)
    refine Cn rfl (a0f (E:=E0 X) (fun X=>c5M X fo [h] hfl) (by simp [a0e,a0d]) _) rfl rfl ?_
    repeat' (first|refine Zs rfl ?_|refine Zh ?_|refine Qs ?_|((fail_if_success refine QV rfl ?_);refine Qy rfl rfl (fun _=>?_) (fun _=>?_)))
    ·rename_i e2
     exact a0c ⟨_,rfl,congrArg AV.bool (by simp [phB,h1,h2,e1,hf,e2])⟩
    ·rename_i e2
     exact a0c ⟨_,rfl,congrArg AV.bool (by simp [phB,h1,h2,e1,hf,e2])⟩
  ·rename_i e1
   exact a0c ⟨_,rfl,congrArg AV.bool (by simp [phB,h1,h2,e1])⟩
 repeat' (first|refine Zs rfl ?_|refine Zc rfl ?_|refine Zh ?_|refine Qs ?_)
 refine a0g rfl (fun h3=>?_) (fun h3=>?_)
 ·repeat' (first|refine Zs rfl ?_|refine Zc rfl ?_|refine Zh ?_|refine Qa rfl ?_|refine Qs ?_|((fail_if_success refine QV rfl ?_);refine Qy rfl rfl (fun _=>?_) (fun _=>?_)))
  ·rename_i e1
   refine Cn rfl (a0f (E:=E0 X) (fun X=>a6H X h) (by simp [a0e,a0d]) _) rfl rfl ?_
   cases hf:a1a h with
   | false =>
    repeat' (first|refine Zs rfl ?_|refine Zh ?_|refine Qs ?_)
    exact a0c ⟨_,rfl,congrArg AV.bool (by simp [phB,h1,h2,h3,e1,hf])⟩
   | true =>
    repeat' (first|refine Zs rfl ?_|refine Qa rfl ?_)
    refine Cn rfl (a0f (E:=E0 X) (fun X=>hret X) (by simp [a0e,a0d]) _) rfl rfl ?_
    repeat' (first|refine Zs rfl ?_|refine Zh ?_|refine Qs ?_)
    exact a0c ⟨_,rfl,congrArg AV.bool (by simp [phB,h1,h2,h3,e1,hf])⟩
  ·rename_i e1
   exact a0c ⟨_,rfl,congrArg AV.bool (by simp [phB,h1,h2,h3,e1])⟩
 skip
 repeat' (first|refine Zs rfl ?_|refine Zc rfl ?_|refine Zh ?_|refine Qs ?_)
 exact a0c ⟨_,rfl,congrArg AV.bool (by simp [phB,h1,h2,h3])⟩
theorem a9S(X:Nat->Prop)(s:Sb)(hfl:s.fo.length<=4611686018427387904):a0b (E0 X) 141 [sbA s] [] (fun r H'=>r=.bool (sbB s)/\H'=[]):=by
 refine a0b.cut0 ?_ trivial
 have hph:=fun X=>c2r X s hfl
 obtain ⟨gen,phase,mig,tail,now,t,h,fo⟩:=s
 show a0b (E0 X) 141 [.agg [.int .i64 gen,.int .i64 phase,.int .i64 mig,.int .i64 tail,.int .i64 now,.int .i64 t.id,.int .i64 t.ver,.int .i64 t.rs,.int .i64 t.regs,.int .i64 h.id,.int .i64 h.ver,.int .i64 h.rs,.int .i64 h.regs,.sl 4 (fo.map laA)]] [] _
 refine Z0 Proofs.Tryz.func141 rfl Proofs.Tryz.ntmps141 (by kernel_rfl) rfl ?_
 repeat' (first|refine Zs rfl ?_|refine Zc rfl ?_|refine Zh ?_|refine Qa rfl ?_|refine Qs ?_|((fail_if_success refine QV rfl ?_);refine Qy rfl rfl (fun _=>?_) (fun _=>?_)))
 any_goals (refine a0c ?_;refine ⟨_,rfl,?_⟩;refine congrArg AV.bool ?_;simp [sbB, *];done)
 refine Cn rfl (a0f (E:=E0 X) (fun X=>a6H X t) (by simp [a0e,a0d]) _) rfl rfl ?_
 cases hf:a1a t with
 | false =>
  repeat' (first|refine Zs rfl ?_|refine Zh ?_|refine Qs ?_)
  exact a0c ⟨_,rfl,congrArg AV.bool (by simp [sbB, *])⟩
 | true =>
  repeat' (first|refine Zs rfl ?_|refine Qa rfl ?_)
  refine Cn rfl (a0f (E:=E0 X) (fun X=>hph X) (by simp [a0e,a0d]) _) rfl rfl ?_
  repeat' (first|refine Zs rfl ?_|refine Zh ?_|refine Qs ?_)
  exact a0c ⟨_,rfl,congrArg AV.bool (by simp [sbB, *])⟩
deriving instance DecidableEq for Sb
theorem c2G{s:Sb}(h:¬ s.fo.length=2):b1f s=false:=by
 unfold b1f
 split
 ·rename_i a b he;rw [he] at h;exact absurd rfl h
 ·rfl
theorem c0O(p q:La):(!(decide (p.id=q.id)&&(decide (p.ver=q.ver)&&(decide (p.rs=q.rs)&&(decide (p.regs=q.regs)&&true)))))=!decide (p=q):=by rw [a4n]
theorem c2H{gen phase mig tail now:Int}{t h b:La}(hb:a1a b=true):b1f ⟨gen,phase,mig,tail,now,t,h,[h,b]⟩=decide (t.id≠h.id/\t.id≠b.id/\h.id≠b.id/\t.ver=h.ver/\t.rs=h.rs/\t.regs=h.regs):=by
 obtain ⟨t1,t2,t3,t4⟩:=t
 rw [Bool.eq_iff_iff]
 simp only [b1f,hb,Bool.and_eq_true,decide_eq_true_eq,La.mk.injEq,true_and]
 omega
theorem br3{P:Nat->Prop}{a b c:Nat}(h1:P a)(h2:P b)(h3:P c):∀i∈[a,b,c],P i:=fun i hi=>by
 simp only [List.mem_cons,List.not_mem_nil,or_false] at hi
 rcases hi with rfl|rfl|rfl
 ·exact h1
 ·exact h2
 ·exact h3
theorem a8N{E:Env}{N:Nat}{sl sl':List (Nat × AV)}{hp:Hp}{o1 o2 o3:AO}(ids:List Nat)(hnd:ids.Nodup)(hlen:[o1,o2,o3].length=ids.length)(hsl:∀p∈sl',Ren (gcF 0 ids) (get sl p.1) p.2)(hos:b8E hp (gcF 0 ids) ids [o1,o2,o3]):Imp E N 0 ⟨sl,hp⟩ ⟨sl',[some o1,some o2,some o3]⟩ :=
 a0S 0 ids (os:=[o1,o2,o3]) (Nat.le_refl _) (Nat.zero_le _) hnd (fun _ _=>Nat.zero_le _) (fun j o h=>by simp at h) hlen rfl hsl hos
theorem oL{hp:Hp}{g:Nat->Option Nat}{i:Nat}{ids:List Nat}{os:List AO}{l:La}(h:hp[i]?=some (some (.cells (laL l) 23)))(t:b8E hp g ids os):b8E hp g (i::ids) (.cells (laL l) 23::os) :=
 a0E h (a0A 0 (fun i h=>absurd h (Nat.not_lt_zero i)) ⟨trivial,trivial,trivial,trivial,trivial⟩) t
theorem a7X(X:Nat->Prop)(s:Sb):a0b (E0 X) 30 [sbA s] [] (fun r H'=>r=.bool (sbB s)/\H'=[]):=by
 refine a0b.cut0 ?_ trivial
 obtain ⟨gen,phase,mig,tail,now,t,h,fo⟩:=s
 show a0b (E0 X) 30 [.agg [.int .i64 gen,.int .i64 phase,.int .i64 mig,.int .i64 tail,.int .i64 now,.int .i64 t.id,.int .i64 t.ver,.int .i64 t.rs,.int .i64 t.regs,.int .i64 h.id,.int .i64 h.ver,.int .i64 h.rs,.int .i64 h.regs,.sl 4 (fo.map laA)]] [] _
 refine Z0 Proofs.Tryz.func30 rfl Proofs.Tryz.ntmps30 (by kernel_rfl) rfl ?_
 repeat' (first|refine Zs rfl ?_|refine Zc rfl ?_|refine Zh ?_|refine Qa rfl ?_|refine Qs ?_|((fail_if_success refine QV rfl ?_);refine Qy rfl rfl (fun _=>?_) (fun _=>?_)))
 any_goals (refine a0c ?_;refine ⟨_,rfl,?_⟩;refine congrArg AV.bool (Eq.symm ?_);rw [Bool.eq_false_iff];intro hh;simp only [sbB,Bool.and_eq_true,decide_eq_true_eq] at hh;omega)
 rename_i g0 g1 g2 g3 g4 g5 g6 g7
 have g9:sbB ⟨gen,phase,mig,tail,now,t,h,fo⟩=(a1a t&&phB ⟨gen,phase,mig,tail,now,t,h,fo⟩):=by
  have e1:1<=gen:=by omega
  have e2:gen<=1099511627775:=by omega
  have e3:0<=mig:=by omega
  have e4:mig<=4294967295:=by omega
  have e5:0<=tail:=by omega
  have e6:tail<=281474976710655:=by omega
  have e7:0<=now:=by omega
  have e8:now<=549755813888:=by omega
  simp [sbB,e1,e2,e3,e4,e5,e6,e7,e8]
 have hmig:0<=mig:=by omega
 rw [g9]
 clear g0 g1 g2 g3 g4 g5 g6 g7 g9
 refine Cn rfl (a0f (E:=E0 X) (fun X=>a4s X t) (by simp [a0e,a0d]) _) rfl rfl ?_
 cases hft:a1a t with
 | false =>
  repeat' (first|refine Zs rfl ?_|refine Zc rfl ?_|refine Zh ?_|refine Qs ?_)
  exact a0c ⟨_,rfl,rfl⟩
 | true =>
 rw [Bool.true_and]
 repeat' (first|refine Zs rfl ?_|refine Zc rfl ?_|refine Zh ?_|refine Qs ?_)
 refine a0g rfl (fun h1=>?_) (fun h1=>?_)
 ·repeat' (first|refine Zs rfl ?_|refine Zc rfl ?_|refine Zh ?_|refine Qs ?_|((fail_if_success refine QV rfl ?_);refine Qz rfl rfl (fun _=>?_) (fun _=>?_)))
  ·rename_i e1
   have e2:=(a4n h ⟨0,0,0,0⟩).symm.trans e1
   refine a0c ⟨_,rfl,congrArg AV.bool ?_⟩
   simp only [phB,if_pos h1,e2]
   cases fo<;>simp<;>omega
  rename_i e1
  have e2:=(a4n h ⟨0,0,0,0⟩).symm.trans e1
  refine a0c ⟨_,rfl,congrArg AV.bool ?_⟩
  simp only [phB,if_pos h1,e2]
  rfl
 repeat' (first|refine Zs rfl ?_|refine Zc rfl ?_|refine Zh ?_|refine Qs ?_)
 refine a0g rfl (fun h2=>?_) (fun h2=>?_)
 ·repeat' (refine Zc rfl ?_)
  refine a0p [] [] (by exact rfl) (by kernel_rfl) ?_
  repeat' (first|refine Zd rfl ?_|refine Zk ?_|refine Qs ?_|((fail_if_success refine QW rfl rfl ?_);refine QT rfl rfl rfl (fun _=>?_) (fun _=>?_)))
  ·rename_i e1
   apply ds rfl rfl rfl rfl
   ·refine Ck (fun _=>rfl) rfl (a0f (E:=E0 X) (fun X=>a4s X h) (by simp [a0e,a0d]) _) ?_
    exact nx rfl rfl ⟨rfl,rfl⟩
   cases hf:a1a h with
   | false =>
    repeat' (first|refine Zd rfl ?_|refine Zk ?_|refine Qs ?_)
    exact a0c ⟨_,rfl,congrArg AV.bool (by simp [phB,h1,h2,e1,hf])⟩
   | true =>
    repeat' (first|refine Zd rfl ?_|refine Zk ?_|refine Qs ?_|((fail_if_success refine QW rfl rfl ?_);refine QT rfl rfl rfl (fun _=>?_) (fun _=>?_)))
    ·rename_i e2
     obtain ⟨a,rfl⟩:∃a,fo=[a]:=by
      have e3:fo.length=1:=by simp at e2;omega
      match fo,e3 with
      | [a],_=>exact ⟨a,rfl⟩
     apply ds rfl rfl rfl rfl
     ·refine a0C (show [a][0]?=some a from rfl) rfl rfl rfl rfl rfl rfl rfl (by first|rfl|omega) rfl ?_
      exact nx rfl rfl ⟨rfl,rfl⟩
     repeat' (first|refine Zd rfl ?_|refine Zk ?_|refine Qs ?_|((fail_if_success refine QW rfl rfl ?_);refine QU rfl rfl rfl (fun _=>?_) (fun _=>?_)))
     ·rename_i e3
      have e4:=(a4n a h).symm.trans e3
      refine a0c ⟨_,rfl,congrArg AV.bool ?_⟩
      have e5:a=h:=of_decide_eq_true e4
      simp [phB,h2,e1,hf,e5]
     rename_i e3
     have e4:=(a4n a h).symm.trans e3
     refine a0c ⟨_,rfl,congrArg AV.bool ?_⟩
     have e5:¬ a=h:=of_decide_eq_false e4
     simp [phB,h2,e1,hf,e5]
    rename_i e2
    have e3:¬ fo=[h]:=fun e=>by subst e;exact e2 rfl
    exact a0c ⟨_,rfl,congrArg AV.bool (by simp [phB,h2,e1,hf,e3])⟩
  ·rename_i e1
   exact a0c ⟨_,rfl,congrArg AV.bool (by simp [phB,h2,e1])⟩
 repeat' (first|refine Zs rfl ?_|refine Zc rfl ?_|refine Zh ?_|refine Qs ?_)
 refine a0g rfl (fun h3=>?_) (fun h3=>?_)
 ·repeat' (refine Zc rfl ?_)
  refine a0p [] [] (by exact rfl) (by kernel_rfl) ?_
  repeat' (first|refine Zs rfl ?_|refine Zd rfl ?_|refine Zc rfl ?_|refine Zh ?_|refine Qs ?_|((fail_if_success refine QW rfl rfl ?_);refine QT rfl rfl rfl (fun _=>?_) (fun _=>?_)))
  ·rename_i e1
   exact a0c ⟨_,rfl,congrArg AV.bool (by simp [phB,h3,e1])⟩
  rename_i e1
  have e2:0<mig:=by omega
  have hph:phB ⟨gen,phase,mig,tail,now,t,h,fo⟩=(a1a h&&b1f ⟨gen,phase,mig,tail,now,t,h,fo⟩):=by simp [phB,h3,e2]
  rw [hph]
  apply ds rfl rfl rfl rfl
  ·refine Ck (fun _=>rfl) rfl (a0f (E:=E0 X) (fun X=>a4s X h) (by simp [a0e,a0d]) _) ?_
   exact nx rfl rfl ⟨rfl,rfl⟩
  cases hf:a1a h with
  | false =>
   repeat' (first|refine Zs rfl ?_|refine Zd rfl ?_|refine Zc rfl ?_|refine Zh ?_|refine Qs ?_)
   exact a0c ⟨_,rfl,rfl⟩
  | true =>
  rw [Bool.true_and]
  repeat' (first|refine Zs rfl ?_|refine Zd rfl ?_|refine Zc rfl ?_|refine Zh ?_|refine Qs ?_|((fail_if_success refine QW rfl rfl ?_);refine QT rfl rfl rfl (fun _=>?_) (fun _=>?_)))
  ·rename_i e3
   rw [c2G (by simp at e3 ⊢;omega)]
   exact a0c ⟨_,rfl,rfl⟩
  rename_i e3
  obtain ⟨a,b,rfl⟩:∃a b,fo=[a,b]:=by
   have e3:fo.length=2:=by simp at e3;omega
   match fo,e3 with
   | [a,b],_=>exact ⟨a,b,rfl⟩
  apply ds rfl rfl rfl rfl
  ·refine a0C (show [a,b][0]?=some a from rfl) rfl rfl rfl rfl rfl rfl rfl (by first|rfl|omega) rfl ?_
   exact nx rfl rfl ⟨rfl,rfl⟩
  repeat' (first|refine Zs rfl ?_|refine Zd rfl ?_|refine Zc rfl ?_|refine Zh ?_|refine Qs ?_|((fail_if_success refine QW rfl rfl ?_);refine QU rfl rfl rfl (fun _=>?_) (fun _=>?_)))
  ·rename_i e4
   have e5:¬ a=h:=by have:=(c0O a h).symm.trans e4;simpa using this
   exact a0c ⟨_,rfl,congrArg AV.bool (by simp [b1f,e5])⟩
  rename_i e4
  have e5:a=h:=by have:=(c0O a h).symm.trans e4;simpa using this
  subst e5
  apply ds rfl rfl rfl rfl
  ·refine a0C (show [a,b][1]?=some b from rfl) rfl rfl rfl rfl rfl rfl rfl (by first|rfl|omega) rfl ?_
   exact nx rfl rfl ⟨rfl,rfl⟩
  repeat' (refine Zd rfl ?_)
  apply ds rfl rfl rfl rfl
  ·refine Ck (fun _=>rfl) rfl (a0f (E:=E0 X) (fun X=>a4s X b) (by simp [a0e,a0d]) _) ?_
   exact nx rfl rfl ⟨rfl,rfl⟩
  cases hb:a1a b with
  | false =>
   repeat' (first|refine Zs rfl ?_|refine Zd rfl ?_|refine Zc rfl ?_|refine Zh ?_|refine Qs ?_)
   exact a0c ⟨_,rfl,congrArg AV.bool (by simp [b1f,hb])⟩
  | true =>
   rw [c2H hb]
   repeat' (first|refine Zd rfl ?_|refine Zc rfl ?_)
   refine a0t (a0w (id:=0) (cs:=[.int .i64 gen,.int .i64 phase,.int .i64 mig,.int .i64 tail,.int .i64 now,.int .i64 t.id,.int .i64 t.ver,.int .i64 t.rs,.int .i64 t.regs,.int .i64 a.id,.int .i64 a.ver,.int .i64 a.rs,.int .i64 a.regs,.sl 4 ([a,b].map laA)]) rfl) ?_
   refine a0t (a0j 0 (Nat.zero_le _) a0X rfl (Nat.zero_le _) (sl':=[(1,.fp [.int .i64 gen,.int .i64 phase,.int .i64 mig,.int .i64 tail,.int .i64 now,.int .i64 t.id,.int .i64 t.ver,.int .i64 t.rs,.int .i64 t.regs,.int .i64 a.id,.int .i64 a.ver,.int .i64 a.rs,.int .i64 a.regs,.sl 4 ([a,b].map laA)])]) ?_) ?_
   ·refine a0a ⟨rfl,trivial,trivial,trivial,trivial,trivial,trivial,trivial,trivial,trivial,trivial,trivial,trivial,trivial,a1w _,trivial⟩ a0l
   refine a2T (s1:=⟨[(3,.ptr 0 0),(4,.ptr 1 0),(5,.ptr 2 0)],[some (.cells (laL t) 23),some (.cells (laL a) 23),some (.cells (laL b) 23)]⟩) ?_ ?_
   rotate_left
   ·repeat' (first|refine Zs rfl ?_|refine Zc rfl ?_|refine Zh ?_|refine Qs ?_|((fail_if_success refine QV rfl ?_);refine Qy rfl rfl (fun _=>?_) (fun _=>?_)))
    all_goals (refine a0c ?_;refine ⟨_,rfl,congrArg AV.bool ?_⟩;first|exact (decide_eq_false (by omega)).symm|exact decide_eq_decide.2 (by omega))
   refine a0n [8,9,10,11,12,13] [0,1,2,3,4,5,6,7] (by exact rfl) ?_
   refine a0y (fuel:=6) [0,1,2,3,4,5,6,7] (by exact rfl) (by kernel_rfl) (by kernel_rfl) ?_
   repeat' ((apply Qe rfl rfl rfl rfl;intro H9);(first|refine Q3 rfl rfl rfl ?_|refine Q4 rfl rfl rfl rfl rfl ?_);(exact QY rfl ⟨rfl,rfl⟩))
   apply a0O rfl rfl rfl rfl
   ·intro H9
    refine a0C (show [a,b][1]?=some b from rfl) rfl rfl rfl rfl rfl rfl rfl (by first|rfl|omega) rfl ?_
    exact nxs rfl ⟨rfl,rfl⟩
   repeat' (first|((apply Qe rfl rfl rfl rfl;intro H9);(refine Q3 rfl rfl rfl ?_);(exact QY rfl ⟨rfl,rfl⟩))|refine Qk ?_)
   refine a1R [8,9,10] (by kernel_rfl) (br3 ?_ ?_ ?_)
   ·refine a1q rfl rfl rfl ?_
    refine a1C rfl rfl ?_
    refine nx rfl rfl ?_
    refine a1R [9,10] (by kernel_rfl) (br2 ?_ ?_)
    ·refine a1q rfl rfl rfl ?_
     refine a1C rfl rfl ?_
     refine nx rfl rfl ?_
     refine a0y (fuel:=0) [10,11,12,13] (by exact rfl) (by kernel_rfl) (by kernel_rfl) ?_
     repeat' (first|((refine Qc rfl rfl rfl ?_);(refine QJ rfl rfl ?_);(refine QX rfl rfl ?_))|(refine Qf rfl rfl rfl ?_;refine QS rfl rfl rfl rfl rfl rfl rfl ?_;(refine QX rfl rfl ?_))|refine Qk ?_|refine Qw (by kernel_rfl) ?_)
     exact ⟨rfl,a8N [0,1,2] (by simp) rfl (a0a (a1h rfl) (a0a (a1h rfl) (a0a (a1h rfl) a0l))) (oL rfl (oL rfl (oL rfl a0T)))⟩
    refine a1q rfl rfl rfl ?_
    refine a1C rfl rfl ?_
    refine nx rfl rfl ?_
    refine a0y (fuel:=0) [9,11,12,13] (by exact rfl) (by kernel_rfl) (by kernel_rfl) ?_
    repeat' (first|((refine Qc rfl rfl rfl ?_);(refine QJ rfl rfl ?_);(refine QX rfl rfl ?_))|(refine Qf rfl rfl rfl ?_;refine QS rfl rfl rfl rfl rfl rfl rfl ?_;(refine QX rfl rfl ?_))|refine Qk ?_|refine Qw (by kernel_rfl) ?_)
    exact ⟨rfl,a8N [0,2,1] (by simp) rfl (a0a (a1h rfl) (a0a (a1h rfl) (a0a (a1h rfl) a0l))) (oL rfl (oL rfl (oL rfl a0T)))⟩
   ·refine a1q rfl rfl rfl ?_
    refine a1C rfl rfl ?_
    refine nx rfl rfl ?_
    refine a1R [8,10] (by kernel_rfl) (br2 ?_ ?_)
    ·refine a1q rfl rfl rfl ?_
     refine a1C rfl rfl ?_
     refine nx rfl rfl ?_
     refine a0y (fuel:=0) [10,11,12,13] (by exact rfl) (by kernel_rfl) (by kernel_rfl) ?_
     repeat' (first|((refine Qc rfl rfl rfl ?_);(refine QJ rfl rfl ?_);(refine QX rfl rfl ?_))|(refine Qf rfl rfl rfl ?_;refine QS rfl rfl rfl rfl rfl rfl rfl ?_;(refine QX rfl rfl ?_))|refine Qk ?_|refine Qw (by kernel_rfl) ?_)
     exact ⟨rfl,a8N [1,0,2] (by simp) rfl (a0a (a1h rfl) (a0a (a1h rfl) (a0a (a1h rfl) a0l))) (oL rfl (oL rfl (oL rfl a0T)))⟩
    refine a1q rfl rfl rfl ?_
    refine a1C rfl rfl ?_
    refine nx rfl rfl ?_
    refine a0y (fuel:=0) [8,11,12,13] (by exact rfl) (by kernel_rfl) (by kernel_rfl) ?_
    repeat' (first|((refine Qc rfl rfl rfl ?_);(refine QJ rfl rfl ?_);(refine QX rfl rfl ?_))|(refine Qf rfl rfl rfl ?_;refine QS rfl rfl rfl rfl rfl rfl rfl ?_;(refine QX rfl rfl ?_))|refine Qk ?_|refine Qw (by kernel_rfl) ?_)
    exact ⟨rfl,a8N [2,0,1] (by simp) rfl (a0a (a1h rfl) (a0a (a1h rfl) (a0a (a1h rfl) a0l))) (oL rfl (oL rfl (oL rfl a0T)))⟩
   refine a1q rfl rfl rfl ?_
   refine a1C rfl rfl ?_
   refine nx rfl rfl ?_
   refine a1R [8,9] (by kernel_rfl) (br2 ?_ ?_)
   ·refine a1q rfl rfl rfl ?_
    refine a1C rfl rfl ?_
    refine nx rfl rfl ?_
    refine a0y (fuel:=0) [9,11,12,13] (by exact rfl) (by kernel_rfl) (by kernel_rfl) ?_
    repeat' (first|((refine Qc rfl rfl rfl ?_);(refine QJ rfl rfl ?_);(refine QX rfl rfl ?_))|(refine Qf rfl rfl rfl ?_;refine QS rfl rfl rfl rfl rfl rfl rfl ?_;(refine QX rfl rfl ?_))|refine Qk ?_|refine Qw (by kernel_rfl) ?_)
    exact ⟨rfl,a8N [1,2,0] (by simp) rfl (a0a (a1h rfl) (a0a (a1h rfl) (a0a (a1h rfl) a0l))) (oL rfl (oL rfl (oL rfl a0T)))⟩
   refine a1q rfl rfl rfl ?_
   refine a1C rfl rfl ?_
   refine nx rfl rfl ?_
   refine a0y (fuel:=0) [8,11,12,13] (by exact rfl) (by kernel_rfl) (by kernel_rfl) ?_
   repeat' (first|((refine Qc rfl rfl rfl ?_);(refine QJ rfl rfl ?_);(refine QX rfl rfl ?_))|(refine Qf rfl rfl rfl ?_;refine QS rfl rfl rfl rfl rfl rfl rfl ?_;(refine QX rfl rfl ?_))|refine Qk ?_|refine Qw (by kernel_rfl) ?_)
   exact ⟨rfl,a8N [2,1,0] (by simp) rfl (a0a (a1h rfl) (a0a (a1h rfl) (a0a (a1h rfl) a0l))) (oL rfl (oL rfl (oL rfl a0T)))⟩
 skip
 repeat' (first|refine Zs rfl ?_|refine Zc rfl ?_|refine Zh ?_|refine Qs ?_)
 exact a0c ⟨_,rfl,congrArg AV.bool (by simp [phB,h1,h2,h3])⟩
theorem a0b.own0{E:Env}{f:FuncId}{args:List AV}{es:List AV}{e:TypeId}(h:a0b E f args [] (fun r H'=>∃id n,r=.own id 0 n/\n=es.length/\H'[id]?=some (some (.arr es e))))(hes:a0e 0 es) :
  a0b E f args [] (fun r H'=>r=.own 0 0 es.length/\H'=[some (.arr es e)]) :=
 h.imp fun r H' ⟨id,n,h1,h2,h3⟩=>by
  subst h1;subst h2
  refine ⟨_,_,⟨rfl,rfl⟩,?_⟩
  refine a0S 0 [id] (H':=[some (.arr es e)]) (os:=[.arr es e]) (Nat.le_refl _) (Nat.zero_le _) (by simp) (by simp) (by simp [HOk]) rfl (by simp) ?_ ?_
  ·exact a0a (a0L (by simp [gcF])) a0l
  ·exact a0E h3 (a0A 0 (fun i h=>absurd h (Nat.not_lt_zero i)) hes) a0T
theorem a7J(X:Nat->Prop)(H:Hp)(x:AV)(b:List UInt8)(l:La)(hl:c0v l)(hb:b.length<=1000)(hx:a6O (E0 X) H 1 x=some (b.map u8A)) :
  a0b (E0 X) 181 [x,laA l] H (fun r H'=>r=.own H.length 0 (b.length+7)/\H'=H++[some (.arr ((a3c b l).map u8A) 5)]):=by
 refine (a1W (E:=E0 X) (P:=fun v H'=>v=.own 0 0 ((a3c b l).map u8A).length/\H'=[some (.arr ((a3c b l).map u8A) 5)]) (fun X=>a0b.own0 (b3i X b l hl hb) (a0h fun _=>a0k)) (fun r h' h=>by
  obtain ⟨h1,h2⟩:=h;subst h1;subst h2;exact ⟨rfl,by simp [a8m,a8n,a2v (f:=u8A) (fun _=>rfl)]⟩) (Bor.sl (a1H _) hx (Bor.same a1g .nil))).mono ?_
 rintro r H' ⟨r0,h',⟨rfl,rfl⟩,rfl,rfl⟩
 refine ⟨by simp [rnA,a1K],?_⟩
 show H++[some (AO.arr (rnL _ (List.map u8A _)) _)]=_
 rw [a1O (fun _=>rfl)]
def p6(s:Sb):List UInt8:=a0Y [] s.gen.toNat 5++[UInt8.ofNat (s.phase.toNat%256)]
def p21(s:Sb):List UInt8:=a0Y (a0Y (a0Y (p6 s) s.mig.toNat 4) s.tail.toNat 6) s.now.toNat 5
def p36(s:Sb):List UInt8:=a3c (a3c (p21 s) s.t) s.h++[UInt8.ofNat (s.fo.length%256)]
def a6U(s:Sb):List UInt8:=match s.fo with
 | [_,f]=>a3c (p36 s) f
 | _=>p36 s
theorem b6O(s:Sb):(p6 s).length=6:=by simp [p6,a0D]
theorem b1R(s:Sb):(p21 s).length=21:=by simp [p21,a0D,b6O]
theorem a9w(s:Sb):(p36 s).length=36:=by simp [p36,a1K,b1R]
theorem a5H(s:Sb):(a6U s).length=36\/(a6U s).length=43:=by
 unfold a6U
 split
 ·right;rw [a1K,a9w]
 ·left;exact a9w s
def a3D(s:Sb)(sector:Nat):List UInt8:=a3C 3 0 sector (a6U s)
theorem a3k(s:Sb)(k:Nat):(a3D s k).length=64:=a2M (by rcases a5H s with h|h<;>omega)
structure c1k(s:Sb):Prop where
 gen:1<=s.gen/\s.gen<=1099511627775
 phase:1<=s.phase/\s.phase<=3
 mig:0<=s.mig/\s.mig<=4294967295
 tail:0<=s.tail/\s.tail<=281474976710655
 now:0<=s.now/\s.now<=549755813888
 t:a1a s.t=true
 h:(s.h=⟨0,0,0,0⟩/\s.fo=[])\/(a1a s.h=true/\(s.fo=[s.h]\/∃b,s.fo=[s.h,b]/\a1a b=true))
theorem b4M{s:Sb}(h:sbB s=true):c1k s:=by
 obtain ⟨gen,phase,mig,tail,now,t,hm,fo⟩:=s
 simp only [sbB,Bool.and_eq_true,decide_eq_true_eq] at h
 obtain ⟨h1,h2,h3,h4,h5,h6,h7,h8,h9,h10⟩:=h
 simp only [phB] at h10
 have key:(1<=phase/\phase<=3)/\((hm=⟨0,0,0,0⟩/\fo=[])\/(a1a hm=true/\(fo=[hm]\/∃b,fo=[hm,b]/\a1a b=true))):=by
  split at h10
  ·rename_i e
   simp only [Bool.and_eq_true,decide_eq_true_eq,List.isEmpty_iff] at h10
   exact ⟨by omega,.inl h10⟩
  split at h10
  ·rename_i e
   simp only [Bool.and_eq_true,decide_eq_true_eq] at h10
   exact ⟨by omega,.inr ⟨h10.2.1,.inl h10.2.2.1⟩⟩
  split at h10
  ·rename_i e
   simp only [Bool.and_eq_true,decide_eq_true_eq] at h10
   refine ⟨by omega,.inr ⟨h10.2.1,.inr ?_⟩⟩
   have h11:=h10.2.2
   unfold b1f at h11
   split at h11
   ·rename_i a b he
    simp only at he
    simp only [Bool.and_eq_true,decide_eq_true_eq] at h11
    exact ⟨b,by rw [he,h11.1],h11.2.1⟩
   ·exact absurd h11 (by decide)
  ·exact absurd h10 (by decide)
 exact ⟨⟨h1,h2⟩,key.1,⟨h3,h4⟩,⟨h5,h6⟩,⟨h7,h8⟩,h9,key.2⟩
theorem c1S:c0v ⟨0,0,0,0⟩:=⟨by decide,by decide,by decide,by decide⟩
theorem c1k.hok{s:Sb}(h:c1k s):c0v s.h:=by
 rcases h.h with ⟨h1,_⟩|⟨h1,_⟩
 ·rw [h1];exact c1S
 ·exact a5b h1
theorem c1k.len{s:Sb}(h:c1k s):s.fo.length<=2:=by
 rcases h.h with ⟨_,h1⟩|⟨_,h1|⟨b,h1,_⟩⟩<;>rw [h1]<;>simp
theorem c1a(X:Nat->Prop)(s:Sb)(sector:Nat)(hv:sbB s=true)(hs:sector<1048576) :
  a0b (E0 X) 142 [sbA s,.int .i64 (sector:Int)] [] (fun r H'=>r=.tup [.sl 1 ((a3D s sector).map u8A),.int .i64 0]/\H'=[]):=by
 have hok:=b4M hv
 have hva:=fun X=>a9S X s (by have:=hok.len;omega)
 rw [hv] at hva
 refine a0b.cut0 ?_ ⟨a0h fun _=>a0k,trivial,trivial⟩
 obtain ⟨⟨g1,g2⟩,⟨g3,g4⟩,⟨g5,g6⟩,⟨g7,g8⟩,⟨g9,g10⟩,g11,g12⟩:=id hok
 have gh:=hok.hok
 have gl:=hok.len
 have hpay:a3D s sector=a3C 3 0 sector (a6U s):=rfl
 have hfp:a6U s=match s.fo with|[_,f]=>a3c (p36 s) f|_=>p36 s:=rfl
 have h36:p36 s=a3c (a3c (p21 s) s.t) s.h++[UInt8.ofNat (s.fo.length%256)]:=rfl
 have h21:p21 s=a0Y (a0Y (a0Y (p6 s) s.mig.toNat 4) s.tail.toNat 6) s.now.toNat 5:=rfl
 have h6:p6 s=a0Y [] s.gen.toNat 5++[UInt8.ofNat (s.phase.toNat%256)]:=rfl
 have l6:=b6O s
 have l21:=b1R s
 have l36:=a9w s
 have lp:=a5H s
 rw [hpay]
 generalize a6U s=pay at *
 generalize p36 s=b36 at *
 generalize p21 s=b21 at *
 generalize p6 s=b6 at *
 obtain ⟨gen,phase,mig,tail,now,t,h,fo⟩:=s
 simp only at g1 g2 g3 g4 g5 g6 g7 g8 g9 g10 g11 g12 gh gl hfp h36 h21 h6
 obtain ⟨gen,rfl⟩:=Int.eq_ofNat_of_zero_le (show 0<=gen by omega)
 obtain ⟨phase,rfl⟩:=Int.eq_ofNat_of_zero_le (show 0<=phase by omega)
 obtain ⟨mig,rfl⟩:=Int.eq_ofNat_of_zero_le g5
 obtain ⟨tail,rfl⟩:=Int.eq_ofNat_of_zero_le g7
 obtain ⟨now,rfl⟩:=Int.eq_ofNat_of_zero_le g9
 simp only [Int.toNat_natCast] at h21 h6
 show a0b (E0 X) 142 [.agg [.int .i64 (gen:Int),.int .i64 (phase:Int),.int .i64 (mig:Int),.int .i64 (tail:Int),.int .i64 (now:Int),.int .i64 t.id,.int .i64 t.ver,.int .i64 t.rs,.int .i64 t.regs,.int .i64 h.id,.int .i64 h.ver,.int .i64 h.rs,.int .i64 h.regs,.sl 4 (fo.map laA)],.int .i64 (sector:Int)] [] _
 refine Z0 Proofs.Tryz.func142 rfl Proofs.Tryz.ntmps142 (by kernel_rfl) rfl ?_
 repeat' (first|refine Zs rfl ?_|refine Zc rfl ?_|refine Qa rfl ?_)
 refine Cn rfl (a0f (E:=E0 X) (fun X=>hva X) (by simp [a0e,a0d]) _) rfl rfl ?_
 repeat' (first|refine Zs rfl ?_|refine Zc rfl ?_)
 refine a0t (a0w (id:=0) (cs:=[.int .i64 (gen:Int),.int .i64 (phase:Int),.int .i64 (mig:Int),.int .i64 (tail:Int),.int .i64 (now:Int),.int .i64 t.id,.int .i64 t.ver,.int .i64 t.rs,.int .i64 t.regs,.int .i64 h.id,.int .i64 h.ver,.int .i64 h.rs,.int .i64 h.regs,.sl 4 (fo.map laA)]) rfl) ?_
 refine a0t (a0j 0 (Nat.zero_le _) a0X rfl (Nat.zero_le _) (sl':=[(1,.int .i64 (sector:Int)),(2,.fp [.int .i64 (gen:Int),.int .i64 (phase:Int),.int .i64 (mig:Int),.int .i64 (tail:Int),.int .i64 (now:Int),.int .i64 t.id,.int .i64 t.ver,.int .i64 t.rs,.int .i64 t.regs,.int .i64 h.id,.int .i64 h.ver,.int .i64 h.rs,.int .i64 h.regs,.sl 4 (fo.map laA)])]) ?_) ?_
 ·refine a0a ⟨rfl,trivial⟩ (a0a ⟨rfl,trivial,trivial,trivial,trivial,trivial,trivial,trivial,trivial,trivial,trivial,trivial,trivial,trivial,a1w _,trivial⟩ a0l)
 refine a0n [3,8] [0,1,2,4,5,6,7,9] (by exact rfl) ?_
 refine a0y (fuel:=0) [0,1,2,4,5,6,7,3,8,9] (by exact rfl) (by kernel_rfl) (by kernel_rfl) ?_
 repeat' (refine Zd rfl ?_)
 rw [wrap64 (by omega),a1s]
 refine a1E rfl rfl rfl ?_
 refine Cn rfl (a3X X _ _ [] gen 5 (by decide) (by decide) (by simp) rfl) rfl rfl ?_
 refine a1E rfl rfl rfl ?_
 refine a0V (oid:=some 0) (es:=(a0Y [] gen 5).map u8A) (out:=b6.map u8A) (n:=6) (a0M rfl (by rw [List.length_map,a0D])) (rfl) (a0P [UInt8.ofNat (phase%256)]) (by rw [h6,List.map_append];rfl) (by rw [List.length_map,a0D];rfl) (by show _<=9223372036854775807;omega) (by show _*1<=_;omega) rfl rfl rfl rfl rfl rfl rfl rfl ?_
 refine nx rfl rfl ?_
 repeat' (first|refine Zs rfl ?_|refine Zd rfl ?_|refine Zc rfl ?_|refine Zk ?_|refine Qa rfl ?_|refine Qw (by kernel_rfl) ?_)
 rw [wrap64 (by omega)]
 refine Cn rfl (a3X X _ _ b6 mig 4 (by decide) (by decide) (by omega) (a0B rfl rfl rfl (by omega) (by rw [List.drop_zero,List.take_of_length_le (by omega)]))) rfl rfl ?_
 have l10:(a0Y b6 mig 4).length=10:=by rw [a0D,l6]
 generalize a0Y b6 mig 4=b10 at *
 repeat' (first|refine Zs rfl ?_|refine Zc rfl ?_|refine Qa rfl ?_)
 rw [wrap64 (by omega)]
 refine Cn rfl (a3X X _ _ b10 tail 6 (by decide) (by decide) (by omega) (a0B rfl rfl rfl (by omega) (by rw [List.drop_zero,List.take_of_length_le (by omega)]))) rfl rfl ?_
 have l16:(a0Y b10 tail 6).length=16:=by rw [a0D,l10]
 generalize a0Y b10 tail 6=b16 at *
 repeat' (first|refine Zs rfl ?_|refine Zc rfl ?_|refine Qa rfl ?_)
 rw [wrap64 (by omega)]
 refine Cn rfl (a3X X _ _ b16 now 5 (by decide) (by decide) (by omega) (a0B rfl rfl rfl (by omega) (by rw [List.drop_zero,List.take_of_length_le (by omega)]))) rfl rfl ?_
 rw [<- h21]
 repeat' (first|refine Zs rfl ?_|refine Zc rfl ?_)
 refine a0n [3,6,12] [0,1,2,4,5,7,8,9,10,11,13] (by exact rfl) ?_
 refine a0y (fuel:=0) [0,1,2,4,5,7,8,9,10,11,3,6,12,13] (by exact rfl) (by kernel_rfl) (by kernel_rfl) ?_
 repeat' (refine Zd rfl ?_)
 rw [a1s]
 refine a1E rfl rfl rfl ?_
 refine Cn rfl (a7J X _ _ b21 t (a5b g11) (by omega) (a0B rfl rfl rfl (by omega) (by rw [List.drop_zero,List.take_of_length_le (by omega)]))) rfl rfl ?_
 have l28:(a3c b21 t).length=28:=by rw [a1K,l21]
 generalize a3c b21 t=b28 at *
 refine a1E rfl rfl rfl ?_
 refine Cn rfl (a7J X _ _ b28 h gh (by omega) (a0B rfl rfl rfl (by omega) (by rw [List.drop_zero,List.take_of_length_le (by omega)]))) rfl rfl ?_
 have l35:(a3c b28 h).length=35:=by rw [a1K,l28]
 generalize a3c b28 h=b35 at *
 refine a1E rfl rfl rfl ?_
 refine a0V (oid:=some 6) (es:=b35.map u8A) (out:=b36.map u8A) (n:=36) (a0M rfl (by rw [List.length_map];omega)) (rfl) (a0P [UInt8.ofNat ((fo.map laA).length%256)]) (by rw [h36,List.map_append,List.length_map];rfl) (by rw [List.length_map,l35];rfl) (by show _<=9223372036854775807;omega) (by show _*1<=_;omega) rfl rfl rfl rfl rfl rfl rfl rfl ?_
 refine nx rfl rfl ?_
 repeat' (first|refine Zs rfl ?_|refine Zd rfl ?_|refine Zc rfl ?_|refine Zh ?_|refine Zk ?_|refine Qs ?_|refine Qw (by kernel_rfl) ?_)
 refine a0g rfl (fun h9=>?_) (fun h9=>?_)
 ·obtain ⟨b,hfo,hb⟩:∃b,fo=[h,b]/\a1a b=true:=by
   rcases g12 with ⟨_,h1⟩|⟨_,h1|h1⟩
   ·rw [h1] at h9;simp at h9
   ·rw [h1] at h9;simp at h9
   ·exact h1
  subst hfo
  have hpb:pay=a3c b36 b:=hfp
  have l43:pay.length=43:=by rw [hpb,a1K,l36]
  repeat' (first|refine Zs rfl ?_|refine Zc rfl ?_|refine Qa rfl ?_)
  refine a0C (show [h,b][1]?=some b from rfl) rfl rfl rfl rfl rfl rfl rfl (by first|rfl|omega) rfl ?_
  refine nx rfl rfl ?_
  repeat' (first|refine Zs rfl ?_|refine Qa rfl ?_)
  refine Cn rfl (a7J X _ _ b36 b (a5b hb) (by omega) (a0B rfl rfl rfl (by omega) (by rw [List.drop_zero,List.take_of_length_le (by omega)]))) rfl rfl ?_
  rw [<- hpb,l36]
  repeat' (first|((refine Qa rfl ?_);(refine Q1 ?_);(refine QX rfl rfl ?_))|refine Qh ?_)
  refine a2j ?_
  refine a0t (a0N (id:=8) (k:=1) (es:=pay.map u8A) (e:=5) rfl rfl rfl) ?_
  refine a0t (a0j 0 (Nat.zero_le _) a0X rfl (Nat.zero_le _) (sl':=[(1,.int .i64 (sector:Int)),(6,.sl 1 (pay.map u8A))]) ?_) ?_
  ·refine a0a ⟨rfl,trivial⟩ (a0a ⟨?_,a0h fun _=>a0k⟩ a0l)
   show frz 8 _ _ (.own 8 0 (36+7))=_
   exact a3p (by simp [l43])
  repeat' (first|refine Zs rfl ?_|refine Zc rfl ?_|refine Qa rfl ?_)
  refine Cn rfl (b0s X 3 0 sector pay ⟨by decide,by decide,hs⟩ (by decide) (by omega)) rfl rfl ?_
  repeat' (first|refine Zs rfl ?_|refine Zh ?_|refine Qs ?_)
  exact a0c ⟨_,rfl,rfl⟩
 have hpb:pay=b36:=by
  rcases g12 with ⟨_,h1⟩|⟨_,h1|⟨b,h1,_⟩⟩
  ·rw [hfp,h1]
  ·rw [hfp,h1]
  ·rw [h1] at h9;exact absurd (by simp) h9
 rw [hpb]
 refine a1t ?_
 refine a2j ?_
 refine a0t (a0N (id:=7) (k:=1) (es:=b36.map u8A) (e:=5) rfl rfl rfl) ?_
 refine a0t (a0j 0 (Nat.zero_le _) a0X rfl (Nat.zero_le _) (sl':=[(1,.int .i64 (sector:Int)),(6,.sl 1 (b36.map u8A))]) ?_) ?_
 ·refine a0a ⟨rfl,trivial⟩ (a0a ⟨?_,a0h fun _=>a0k⟩ a0l)
  show frz 7 _ _ (.own 7 0 36)=_
  exact a3p (by simp [l36])
 repeat' (first|refine Zs rfl ?_|refine Zc rfl ?_|refine Qa rfl ?_)
 refine Cn rfl (b0s X 3 0 sector b36 ⟨by decide,by decide,hs⟩ (by decide) (by omega)) rfl rfl ?_
 repeat' (first|refine Zs rfl ?_|refine Zh ?_|refine Qs ?_)
 exact a0c ⟨_,rfl,rfl⟩
theorem b7Q(X:Nat->Prop)(s:Sb)(sector:Int)(hv:sbB s=false)(hfl:s.fo.length<=4611686018427387904) :
  a0b (E0 X) 142 [sbA s,.int .i64 sector] [] (fun r H'=>r=.tup [.nils,.int .i64 4]/\H'=[]):=by
 refine a0b.cut0 ?_ ⟨trivial,trivial,trivial⟩
 have hva:=fun X=>a9S X s hfl
 rw [hv] at hva
 refine Z0 Proofs.Tryz.func142 rfl Proofs.Tryz.ntmps142 (by kernel_rfl) rfl ?_
 repeat' (first|refine Zs rfl ?_|refine Zc rfl ?_|refine Qa rfl ?_)
 refine Cn rfl (a0f (E:=E0 X) (fun X=>hva X) (by simp [a0e,a0d]) _) rfl rfl ?_
 repeat' (first|refine Zs rfl ?_|refine Zc rfl ?_|refine Zh ?_|refine Qs ?_)
 exact a0c ⟨_,rfl,rfl⟩
def a3L(s:Sb)(sector:Nat):Option (List UInt8):=if sbB s=true then some (a3D s sector) else none
theorem c5d(X:Nat->Prop)(s:Sb)(sector:Nat)(hs:sector<1048576)(hfl:s.fo.length<=4611686018427387904) :
  a0b (E0 X) 142 [sbA s,.int .i64 (sector:Int)] [] (fun r H'=>r=(match a3L s sector with|some e=>.tup [.sl 1 (e.map u8A),.int .i64 0]|none=>.tup [.nils,.int .i64 4])/\H'=[]):=by
 unfold a3L
 cases hv:sbB s with
 | false=>exact b7Q X s sector hv hfl
 | true=>exact c1a X s sector hv hs
theorem c1k.hlog{s:Sb}(h:c1k s):max (b3m s.h.rs) 0=((a4P s.h.rs.toNat - 1:Nat):Int):=by
 rcases h.h with ⟨h1,_⟩|⟨h1,_⟩
 ·rw [h1];kernel_rfl
 ·exact a5B h1
theorem a9F(X:Nat->Prop)(H:Hp)(x:AV)(b:List UInt8)(l:La)(hl:c0v l)(hlg:max (b3m l.rs) 0=((a4P l.rs.toNat - 1:Nat):Int))(hb:b.length<=1000)(hx:a6O (E0 X) H 1 x=some (b.map u8A)) :
  a0b (E0 X) 86 [x,laA l] H (fun r H'=>r=.own H.length 0 (b.length+7)/\H'=H++[some (.arr ((a3c b l).map u8A) 5)]):=by
 refine (a1W (E:=E0 X) (P:=fun v H'=>v=.own 0 0 ((a3c b l).map u8A).length/\H'=[some (.arr ((a3c b l).map u8A) 5)]) (fun X=>a0b.own0 (b7B X b l hl hlg hb) (a0h fun _=>a0k)) (fun r h' h=>by
  obtain ⟨h1,h2⟩:=h;subst h1;subst h2;exact ⟨rfl,by simp [a8m,a8n,a2v (f:=u8A) (fun _=>rfl)]⟩) (Bor.sl (a1H _) hx (Bor.same a1g .nil))).mono ?_
 rintro r H' ⟨r0,h',⟨rfl,rfl⟩,rfl,rfl⟩
 refine ⟨by simp [rnA,a1K],?_⟩
 show H++[some (AO.arr (rnL _ (List.map u8A _)) _)]=_
 rw [a1O (fun _=>rfl)]
theorem b2h(X:Nat->Prop)(s:Sb)(sector:Nat)(hv:sbB s=true)(hs:sector<1048576) :
  a0b (E0 X) 33 [sbA s,.int .i64 (sector:Int)] [] (fun r H'=>r=.sl 1 ((a3D s sector).map u8A)/\H'=[]):=by
 have hok:=b4M hv
 refine a0b.cut0 ?_ (a0h fun _=>a0k)
 obtain ⟨⟨g1,g2⟩,⟨g3,g4⟩,⟨g5,g6⟩,⟨g7,g8⟩,⟨g9,g10⟩,g11,g12⟩:=id hok
 have gh:=hok.hok
 have gl:=hok.len
 have glt:=a5B hok.t
 have glh:=hok.hlog
 have hpay:a3D s sector=a3C 3 0 sector (a6U s):=rfl
 have hfp:a6U s=match s.fo with|[_,f]=>a3c (p36 s) f|_=>p36 s:=rfl
 have h36:p36 s=a3c (a3c (p21 s) s.t) s.h++[UInt8.ofNat (s.fo.length%256)]:=rfl
 have h21:p21 s=a0Y (a0Y (a0Y (p6 s) s.mig.toNat 4) s.tail.toNat 6) s.now.toNat 5:=rfl
 have h6:p6 s=a0Y [] s.gen.toNat 5++[UInt8.ofNat (s.phase.toNat%256)]:=rfl
 have l6:=b6O s
 have l21:=b1R s
 have l36:=a9w s
 have lp:=a5H s
 rw [hpay]
 generalize a6U s=pay at *
 generalize p36 s=b36 at *
 generalize p21 s=b21 at *
 generalize p6 s=b6 at *
 obtain ⟨gen,phase,mig,tail,now,t,h,fo⟩:=s
 simp only at g1 g2 g3 g4 g5 g6 g7 g8 g9 g10 g11 g12 gh gl glt glh hfp h36 h21 h6
 obtain ⟨gen,rfl⟩:=Int.eq_ofNat_of_zero_le (show 0<=gen by omega)
 obtain ⟨phase,rfl⟩:=Int.eq_ofNat_of_zero_le (show 0<=phase by omega)
 obtain ⟨mig,rfl⟩:=Int.eq_ofNat_of_zero_le g5
 obtain ⟨tail,rfl⟩:=Int.eq_ofNat_of_zero_le g7
 obtain ⟨now,rfl⟩:=Int.eq_ofNat_of_zero_le g9
 simp only [Int.toNat_natCast] at h21 h6
 show a0b (E0 X) 33 [.agg [.int .i64 (gen:Int),.int .i64 (phase:Int),.int .i64 (mig:Int),.int .i64 (tail:Int),.int .i64 (now:Int),.int .i64 t.id,.int .i64 t.ver,.int .i64 t.rs,.int .i64 t.regs,.int .i64 h.id,.int .i64 h.ver,.int .i64 h.rs,.int .i64 h.regs,.sl 4 (fo.map laA)],.int .i64 (sector:Int)] [] _
 refine Z0 Proofs.Tryz.func33 rfl Proofs.Tryz.ntmps33 (by kernel_rfl) rfl ?_
 repeat' (first|refine Zs rfl ?_|refine Zc rfl ?_|refine Qa rfl ?_)
 rw [wrap64 (by omega)]
 refine Cn rfl (a1A X _ _ [] gen 5 (by decide) (by decide) (by simp) rfl) rfl rfl ?_
 repeat' (first|refine Zs rfl ?_|refine Zc rfl ?_)
 refine a0t (a0w (id:=0) (cs:=[.int .i64 (gen:Int),.int .i64 (phase:Int),.int .i64 (mig:Int),.int .i64 (tail:Int),.int .i64 (now:Int),.int .i64 t.id,.int .i64 t.ver,.int .i64 t.rs,.int .i64 t.regs,.int .i64 h.id,.int .i64 h.ver,.int .i64 h.rs,.int .i64 h.regs,.sl 4 (fo.map laA)]) rfl) ?_
 refine a0t (a0S 0 [1] (sl':=[(1,.int .i64 (sector:Int)),(2,.fp [.int .i64 (gen:Int),.int .i64 (phase:Int),.int .i64 (mig:Int),.int .i64 (tail:Int),.int .i64 (now:Int),.int .i64 t.id,.int .i64 t.ver,.int .i64 t.rs,.int .i64 t.regs,.int .i64 h.id,.int .i64 h.ver,.int .i64 h.rs,.int .i64 h.regs,.sl 4 (fo.map laA)]),(5,.own 0 0 5)]) (H':=[some (.arr ((a0Y [] gen 5).map u8A) 5)]) (os:=[.arr ((a0Y [] gen 5).map u8A) 5]) (Nat.le_refl _) (Nat.zero_le _) (by simp) (by simp) (by simp [HOk]) rfl rfl ?_ ?_) ?_
 ·exact a0a (a0v rfl trivial) (a0a (a0v rfl ⟨trivial,trivial,trivial,trivial,trivial,trivial,trivial,trivial,trivial,trivial,trivial,trivial,trivial,a1w _,trivial⟩) (a0a (a0L rfl) a0l))
 ·exact a0E rfl (a0A 0 (fun i h=>absurd h (Nat.not_lt_zero i)) (a0h fun _=>a0k)) a0T
 refine a0n [5,9] [0,1,2,3,4,6,7,8,10] (by exact rfl) ?_
 refine a0y (fuel:=0) [0,1,2,3,4,6,7,8,5,9,10] (by exact rfl) (by kernel_rfl) (by kernel_rfl) ?_
 repeat' (refine Zd rfl ?_)
 rw [a1s,wrap64 (by omega)]
 refine a1E rfl rfl rfl ?_
 refine a0V (oid:=some 0) (es:=(a0Y [] gen 5).map u8A) (out:=b6.map u8A) (n:=6) (a0M rfl (by rw [List.length_map,a0D];rfl)) (rfl) (a0P [UInt8.ofNat (phase%256)]) (by rw [h6,List.map_append];rfl) (by rw [List.length_map,a0D];rfl) (by show _<=9223372036854775807;omega) (by show _*1<=_;omega) rfl rfl rfl rfl rfl rfl rfl rfl ?_
 refine nx rfl rfl ?_
 refine a1E rfl rfl rfl ?_
 refine Cn rfl (a1A X _ _ b6 mig 4 (by decide) (by decide) (by omega) (a0B rfl rfl rfl (by omega) (by rw [List.drop_zero,List.take_of_length_le (by omega)]))) rfl rfl ?_
 have l10:(a0Y b6 mig 4).length=10:=by rw [a0D,l6]
 generalize a0Y b6 mig 4=b10 at *
 repeat' (first|refine Zd rfl ?_|refine Zc rfl ?_|refine Zk ?_|refine Qw (by kernel_rfl) ?_)
 refine a0n [4,8] [0,1,2,3,5,6,7,9] (by exact rfl) ?_
 refine a0y (fuel:=0) [0,1,2,3,5,6,7,4,8,9] (by exact rfl) (by kernel_rfl) (by kernel_rfl) ?_
 repeat' (refine Zd rfl ?_)
 rw [wrap64 (by omega),wrap64 (by omega)]
 refine a1E rfl rfl rfl ?_
 refine Cn rfl (a1A X _ _ b10 tail 6 (by decide) (by decide) (by omega) (a0B rfl rfl rfl (by omega) (by rw [List.drop_zero,List.take_of_length_le (by omega)]))) rfl rfl ?_
 have l16:(a0Y b10 tail 6).length=16:=by rw [a0D,l10]
 generalize a0Y b10 tail 6=b16 at *
 refine a1E rfl rfl rfl ?_
 refine Cn rfl (a1A X _ _ b16 now 5 (by decide) (by decide) (by omega) (a0B rfl rfl rfl (by omega) (by rw [List.drop_zero,List.take_of_length_le (by omega)]))) rfl rfl ?_
 rw [<- h21]
 repeat' (first|refine Zd rfl ?_|refine Zc rfl ?_|refine Zk ?_|refine Qw (by kernel_rfl) ?_)
 refine a0n [3,6,12] [0,1,2,4,5,7,8,9,10,11,13] (by exact rfl) ?_
 refine a0y (fuel:=0) [0,1,2,4,5,7,8,9,10,11,3,6,12,13] (by exact rfl) (by kernel_rfl) (by kernel_rfl) ?_
 repeat' (refine Zd rfl ?_)
 rw [a1s]
 refine a1E rfl rfl rfl ?_
 refine Cn rfl (a9F X _ _ b21 t (a5b g11) glt (by omega) (a0B rfl rfl rfl (by omega) (by rw [List.drop_zero,List.take_of_length_le (by omega)]))) rfl rfl ?_
 have l28:(a3c b21 t).length=28:=by rw [a1K,l21]
 generalize a3c b21 t=b28 at *
 refine a1E rfl rfl rfl ?_
 refine Cn rfl (a9F X _ _ b28 h gh glh (by omega) (a0B rfl rfl rfl (by omega) (by rw [List.drop_zero,List.take_of_length_le (by omega)]))) rfl rfl ?_
 have l35:(a3c b28 h).length=35:=by rw [a1K,l28]
 generalize a3c b28 h=b35 at *
 refine a1E rfl rfl rfl ?_
 refine a0V (oid:=some 6) (es:=b35.map u8A) (out:=b36.map u8A) (n:=36) (a0M rfl (by rw [List.length_map];omega)) (rfl) (a0P [UInt8.ofNat ((fo.map laA).length%256)]) (by rw [h36,List.map_append,List.length_map];rfl) (by rw [List.length_map,l35];rfl) (by show _<=9223372036854775807;omega) (by show _*1<=_;omega) rfl rfl rfl rfl rfl rfl rfl rfl ?_
 refine nx rfl rfl ?_
 repeat' (first|refine Zs rfl ?_|refine Zd rfl ?_|refine Zc rfl ?_|refine Zh ?_|refine Zk ?_|refine Qs ?_|refine Qw (by kernel_rfl) ?_)
 refine a0g rfl (fun h9=>?_) (fun h9=>?_)
 ·obtain ⟨b,hfo,hb⟩:∃b,fo=[h,b]/\a1a b=true:=by
   rcases g12 with ⟨_,h1⟩|⟨_,h1|h1⟩
   ·rw [h1] at h9;simp at h9
   ·rw [h1] at h9;simp at h9
   ·exact h1
  subst hfo
  have hpb:pay=a3c b36 b:=hfp
  have l43:pay.length=43:=by rw [hpb,a1K,l36]
  repeat' (first|refine Zs rfl ?_|refine Zc rfl ?_|refine Qa rfl ?_)
  refine a0C (show [h,b][1]?=some b from rfl) rfl rfl rfl rfl rfl rfl rfl (by first|rfl|omega) rfl ?_
  refine nx rfl rfl ?_
  repeat' (first|refine Zs rfl ?_|refine Qa rfl ?_)
  refine Cn rfl (a9F X _ _ b36 b (a5b hb) (a5B hb) (by omega) (a0B rfl rfl rfl (by omega) (by rw [List.drop_zero,List.take_of_length_le (by omega)]))) rfl rfl ?_
  rw [<- hpb,l36]
  repeat' (first|((refine Qa rfl ?_);(refine Q1 ?_);(refine QX rfl rfl ?_))|refine Qh ?_)
  refine a2j ?_
  refine a0t (a0N (id:=8) (k:=1) (es:=pay.map u8A) (e:=5) rfl rfl rfl) ?_
  refine a0t (a0j 0 (Nat.zero_le _) a0X rfl (Nat.zero_le _) (sl':=[(1,.int .i64 (sector:Int)),(5,.sl 1 (pay.map u8A))]) ?_) ?_
  ·refine a0a ⟨rfl,trivial⟩ (a0a ⟨?_,a0h fun _=>a0k⟩ a0l)
   show frz 8 _ _ (.own 8 0 (36+7))=_
   exact a3p (by simp [l43])
  repeat' (first|refine Zs rfl ?_|refine Zc rfl ?_|refine Qa rfl ?_)
  refine Cn rfl (b2a X 3 0 sector pay (by decide) hs (by omega)) rfl rfl ?_
  repeat' (first|refine Zs rfl ?_|refine Zh ?_|refine Qs ?_)
  exact a0c ⟨_,rfl,rfl⟩
 have hpb:pay=b36:=by
  rcases g12 with ⟨_,h1⟩|⟨_,h1|⟨b,h1,_⟩⟩
  ·rw [hfp,h1]
  ·rw [hfp,h1]
  ·rw [h1] at h9;exact absurd (by simp) h9
 rw [hpb]
 refine a1t ?_
 refine a2j ?_
 refine a0t (a0N (id:=7) (k:=1) (es:=b36.map u8A) (e:=5) rfl rfl rfl) ?_
 refine a0t (a0j 0 (Nat.zero_le _) a0X rfl (Nat.zero_le _) (sl':=[(1,.int .i64 (sector:Int)),(5,.sl 1 (b36.map u8A))]) ?_) ?_
 ·refine a0a ⟨rfl,trivial⟩ (a0a ⟨?_,a0h fun _=>a0k⟩ a0l)
  show frz 7 _ _ (.own 7 0 (36))=_
  exact a3p (by simp [l36])
 repeat' (first|refine Zs rfl ?_|refine Zc rfl ?_|refine Qa rfl ?_)
 refine Cn rfl (b2a X 3 0 sector b36 (by decide) hs (by omega)) rfl rfl ?_
 repeat' (first|refine Zs rfl ?_|refine Zh ?_|refine Qs ?_)
 exact a0c ⟨_,rfl,rfl⟩
theorem b6j{E:Env}{N n0:Nat}{H:Hp}{r r':AV}(h:∀m w v,E.Rel m w r v->E.Rel m w r' v):Imp E N n0 ⟨[(0,r)],H⟩ ⟨[(0,r')],H⟩:=fun _ _ _ m w a he hs=>by
 refine ⟨m,he,⟨hs.ok,fun k=>?_,hs.size,hs.defers,hs.sim,hs.glob⟩⟩
 have h1:=hs.slots k
 by_cases hk:k=0
 ·subst hk;exact h _ _ _ h1
 have e:∀x:AV,get [(0,x)] k=.any:=fun x=>by
  match k,hk with
  | 0,hk=>exact absurd rfl hk
  | _+1,_=>rfl
 show Abs.Rel E.cx m w (get [(0,r')] k) _
 rw [e]
 simp [Abs.Rel]
theorem a0b.weakR{E:Env}{f:FuncId}{args:List AV}{H:Hp}{R R':AV->Hp->Prop}(h:a0b E f args H R)(k:∀r H',R r H'->∃r',R' r' H'/\∀m w v,E.Rel m w r v->E.Rel m w r' v):a0b E f args H R' :=
 h.imp fun r H' hr=>by
  obtain ⟨r',h1,h2⟩:=k r H' hr
  exact ⟨r',H',h1,b6j h2⟩
theorem b0E{E:Env}{m:Mu}{w:World}{a b:AV}(h:∀v,E.Rel m w a v->E.Rel m w b v):∀{xs:List AV} {us:List Value},E.RelL m w (xs++[a]) us->E.RelL m w (xs++[b]) us
 | [],us,h1=>by
  obtain ⟨u,r,rfl,h2,h3⟩:=a0o.1 h1
  exact RelL.cons (h _ h2) h3
 | x::xs,us,h1=>by
  obtain ⟨u,r,rfl,h2,h3⟩:=a0o.1 h1
  exact RelL.cons h2 (b0E h h3)
def sbF(s:Sb)(fv:AV):List AV:=[.int .i64 s.gen,.int .i64 s.phase,.int .i64 s.mig,.int .i64 s.tail,.int .i64 s.now,.int .i64 s.t.id,.int .i64 s.t.ver,.int .i64 s.t.rs,.int .i64 s.t.regs,.int .i64 s.h.id,.int .i64 s.h.ver,.int .i64 s.h.rs,.int .i64 s.h.regs,fv]
theorem a5f{E:Env}{m:Mu}{w:World}{s:Sb}{fv:AV}{v:Value}(h:∀v,E.Rel m w fv v->E.Rel m w (.sl 4 (s.fo.map laA)) v)(hr:E.Rel m w (.agg (sbF s fv)) v):E.Rel m w (sbA s) v:=by
 simp only [Env.Rel,Abs.Rel,sbA] at hr ⊢
 obtain ⟨us,rfl,h1⟩:=hr
 refine ⟨us,rfl,?_⟩
 exact b0E (E:=E) (xs:=[.int .i64 s.gen,.int .i64 s.phase,.int .i64 s.mig,.int .i64 s.tail,.int .i64 s.now,.int .i64 s.t.id,.int .i64 s.t.ver,.int .i64 s.t.rs,.int .i64 s.t.regs,.int .i64 s.h.id,.int .i64 s.h.ver,.int .i64 s.h.rs,.int .i64 s.h.regs]) h h1
theorem a5N{E:Env}{m:Mu}{w:World}{a b c:AV}(h:∀v,E.Rel m w a v->E.Rel m w b v)(v:Value)(hr:E.Rel m w (.tup [a,c]) v):E.Rel m w (.tup [b,c]) v:=by
 simp only [Env.Rel,Abs.Rel] at hr ⊢
 obtain ⟨us,rfl,h1⟩:=hr
 obtain ⟨u,r,rfl,h2,h3⟩:=a0o.1 h1
 exact ⟨_,rfl,RelL.cons (h _ h2) h3⟩
def b5f(bs:List UInt8):Sb :=
 ⟨(a0J ((bs.drop 0).take 5):Nat),(a0J ((bs.drop 5).take 1):Nat),(a0J ((bs.drop 6).take 4):Nat),(a0J ((bs.drop 10).take 6):Nat),(a0J ((bs.drop 16).take 5):Nat),a7R bs 21,a7R bs 28,
  if a0J ((bs.drop 35).take 1)=1 then [a7R bs 28] else if a0J ((bs.drop 35).take 1)=2 then [a7R bs 28,a7R bs 36] else []⟩
def a4Q:Sb:=⟨0,0,0,0,0,⟨0,0,0,0⟩,⟨0,0,0,0⟩,[]⟩
def b5e(o:Option Sb):AV:=match o with
 | some p=>.tup [sbA p,.bool true]
 | none=>.tup [sbA a4Q,.bool false]
def a6F(b:List UInt8)(sector:Nat):Option Sb:=match a2A 3 0 sector b with
 | none=>none
 | some pay=>if a3L (b5f pay) sector=some b then some (b5f pay) else none
theorem a7j{E:Env}(m:Mu)(w:World)(v:Value)(h:E.Rel m w .nils v):E.Rel m w (.sl 4 (([]:List La).map laA)) v:=a2P 4 h
theorem b6G{E:Env}{m:Mu}{w:World}(v:Value)(h:E.Rel m w (.tup [.agg (sbF a4Q .nils),.bool false]) v):E.Rel m w (b5e none) v :=
 a5N (fun v h=>a5f (s:=a4Q) (a7j m w) h) v h
theorem c5a(X:Nat->Prop)(bs:List UInt8)(lo w:Nat)(hw:1<=w)(hw6:w<=6)(h:lo+w<=bs.length)(hb:bs.length<=1000) :
  a0b (E0 X) 151 [.int .i64 (w:Int),.fp [.ptr 1 0]] (a2r bs lo) (fun r H'=>r=.int .i64 (a0J ((bs.drop lo).take w):Int)/\H'=a2r bs (lo+w)):=by
 have s1:=a0U (bs:=bs) (lo:=lo) (w:=w) hw6
 have c1:=b6H X bs lo w hw (by omega) h hb
 generalize a0J ((bs.drop lo).take w)=n at *
 refine Z0 Proofs.Tryz.func151 rfl Proofs.Tryz.ntmps151 (by kernel_rfl) rfl ?_
 repeat' (first|refine Zs rfl ?_|refine Zc rfl ?_|refine Qa rfl ?_)
 refine Cn rfl (c1) rfl rfl ?_
 repeat' (first|refine Zs rfl ?_|refine Zh ?_|refine Qs ?_)
 refine a0c ⟨_,rfl,?_,?_⟩
 ·exact congrArg (AV.int .i64) (a3i s1)
 ·rfl
theorem a6y(X:Nat->Prop)(bs:List UInt8)(lo w:Nat)(hw:1<=w)(hw6:w<=6)(h:lo+w<=bs.length)(hb:bs.length<=1000)(L R:Hp)(s:Nat)(hs:L.length=s) :
  a0b (E0 X) 151 [.int .i64 (w:Int),.fp [.ptr (1+s) 0]] (L++a6V bs s lo++R) (fun r H'=>r=.int .i64 (a0J ((bs.drop lo).take w):Int)/\H'=L++a6V bs s (lo+w)++R):=by
 subst hs
 have hm:∀lo,a1T (sh L.length R.length 2) (a2r bs lo)=a6V bs L.length lo:=fun lo=>a2Y _ 0 L.length bs lo (by simp [sh])
 refine a0b.conv (a0b.frameLR (E:=E0 X) (fun X=>c5a X bs lo w hw hw6 h hb) L R (a4I bs lo) ⟨trivial,⟨by simp [a0d,a2r],trivial⟩,trivial⟩ (a3N bs lo)) ?_ (by rw [show (a2r bs lo).length=2 from rfl,hm]) ?_
 ·simp [rnL,rnA,sh,a2r]
 rintro q H' ⟨r1,h',⟨rfl,rfl⟩,-,rfl,rfl⟩
 refine ⟨rfl,?_⟩
 show L++a1T (sh L.length R.length 2) (a2r bs (lo+w))++R++[]=_
 rw [hm,List.append_nil]
theorem c5e(X:Nat->Prop)(s:Sb)(fv:AV)(hfv:∀m w v,(E0 X).Rel m w fv v->(E0 X).Rel m w (.sl 4 (s.fo.map laA)) v)(sector:Nat)(hs:sector<1048576)(hfl:s.fo.length<=4611686018427387904) :
  a0b (E0 X) 142 [.agg (sbF s fv),.int .i64 (sector:Int)] [] (fun r H'=>r=(match a3L s sector with|some e=>.tup [.sl 1 (e.map u8A),.int .i64 0]|none=>.tup [.nils,.int .i64 4])/\H'=[]) :=
 a0b.weak (c5d X s sector hs hfl) fun m w vs h=>by
  obtain ⟨u1,r1,rfl,h1,h⟩:=a0o.1 h
  exact RelL.cons (a5f (hfv m w) h1) h
theorem c6g{n:Nat}(h:n<=1099511627775):a0J [a0i n 32,a0i n 24,a0i n 16,a0i n 8,a0i n 0]=n:=by
 simp only [a0J,List.foldl_cons,List.foldl_nil,a4B]
 have e1:(2:Nat) ^ 24=16777216:=by decide
 have e2:(2:Nat) ^ 16=65536:=by decide
 have e3:(2:Nat) ^ 8=256:=by decide
 have e4:(2:Nat) ^ 32=4294967296:=by decide
 rw [e1,e2,e3,e4]
 omega
def c6j(x0 x1 x2 x3 x4 x5 x6:UInt8):La :=
 ⟨(a0J [x0,x1,x2,x3]:Nat),(a0J [x4]:Nat),if 0<a0J [x0,x1,x2,x3] then ((2 ^ min (a0J [x5]) 30:Nat):Int) else 0,(a0J [x6]:Nat)⟩
def b9C(l:La):La:=c6j (a0i l.id.toNat 24) (a0i l.id.toNat 16) (a0i l.id.toNat 8) (a0i l.id.toNat 0) (UInt8.ofNat (l.ver.toNat%256)) (UInt8.ofNat ((a4P l.rs.toNat - 1)%256)) (UInt8.ofNat (l.regs.toNat%256))
def rdY(l:La):La:=rdL (a0i l.id.toNat 24) (a0i l.id.toNat 16) (a0i l.id.toNat 8) (a0i l.id.toNat 0) (UInt8.ofNat (l.ver.toNat%256)) (UInt8.ofNat ((a4P l.rs.toNat - 1)%256)) (UInt8.ofNat (l.regs.toNat%256))
theorem a7b{l:La}(hf:a1a l=true):b9C l=l/\rdY l=l:=by
 obtain ⟨id,ver,rs,regs⟩:=l
 simp only [a1a,Bool.and_eq_true,Bool.or_eq_true,decide_eq_true_eq] at hf
 obtain ⟨f1,f2,f3,f4,f5,f6,f7,f8⟩:=hf
 have hrs:=b2g ⟨f4,f5⟩ f6
 have hrs2:=b0M ⟨f4,f5⟩ f6
 have h10:a4P rs.toNat - 1=(a4P rs.toNat - 1)%256:=by have:=hrs.2;omega
 refine ⟨?_,?_⟩
 ·unfold b9C c6j
  dsimp only
  rw [c0S (by omega),b5c (by omega),b5c hrs.2,b5c (by omega),if_pos (by omega),h10,hrs.1]
  simp only [La.mk.injEq]
  exact ⟨by omega,by omega,trivial,by omega⟩
 unfold rdY rdL
 dsimp only
 rw [c0S (by omega),a3T (by omega),a3T hrs.2,a3T (by omega),if_neg (by omega),h10,hrs2]
 simp only [La.mk.injEq]
 exact ⟨by omega,by omega,trivial,by omega⟩
theorem b9l:b9C ⟨0,0,0,0⟩=⟨0,0,0,0⟩/\rdY ⟨0,0,0,0⟩=⟨0,0,0,0⟩:=⟨by kernel_rfl,by kernel_rfl⟩
def c3u(l:La)(z:List UInt8):List UInt8:=a0i l.id.toNat 24::a0i l.id.toNat 16::a0i l.id.toNat 8::a0i l.id.toNat 0::UInt8.ofNat (l.ver.toNat%256)::UInt8.ofNat ((a4P l.rs.toNat - 1)%256)::UInt8.ofNat (l.regs.toNat%256)::z
def a7S(s:Sb)(z:List UInt8):List UInt8:=a0i s.gen.toNat 32::a0i s.gen.toNat 24::a0i s.gen.toNat 16::a0i s.gen.toNat 8::a0i s.gen.toNat 0::UInt8.ofNat (s.phase.toNat%256) ::
 a0i s.mig.toNat 24::a0i s.mig.toNat 16::a0i s.mig.toNat 8::a0i s.mig.toNat 0 ::
 a0i s.tail.toNat 40::a0i s.tail.toNat 32::a0i s.tail.toNat 24::a0i s.tail.toNat 16::a0i s.tail.toNat 8::a0i s.tail.toNat 0 ::
 a0i s.now.toNat 32::a0i s.now.toNat 24::a0i s.now.toNat 16::a0i s.now.toNat 8::a0i s.now.toNat 0::c3u s.t (c3u s.h (UInt8.ofNat (s.fo.length%256)::z))
theorem c0T(s:Sb)(z:List UInt8):p36 s++z=a7S s z:=rfl
theorem c2n(s:Sb)(f:La)(z:List UInt8):a3c (p36 s) f++z=a7S s (c3u f z):=rfl
def a9E(bs:List UInt8):Sb :=
 ⟨(a0J ((bs.drop 0).take 5):Nat),((bs[5]?.getD 0).toNat:Nat),(a0J ((bs.drop 6).take 4):Nat),(a0J ((bs.drop 10).take 6):Nat),(a0J ((bs.drop 16).take 5):Nat),rdV ((bs.drop 21).take 7),rdV ((bs.drop 28).take 7),
  if 1<=(bs[35]?.getD 0).toNat then (if 2<=(bs[35]?.getD 0).toNat then [rdV ((bs.drop 28).take 7),rdV ((bs.drop 36).take 7)] else [rdV ((bs.drop 28).take 7)]) else []⟩
theorem c5T(s:Sb)(z:List UInt8):b5f (a7S s z)=⟨(a0J [a0i s.gen.toNat 32,a0i s.gen.toNat 24,a0i s.gen.toNat 16,a0i s.gen.toNat 8,a0i s.gen.toNat 0]:Nat),(a0J [UInt8.ofNat (s.phase.toNat%256)]:Nat),
  (a0J [a0i s.mig.toNat 24,a0i s.mig.toNat 16,a0i s.mig.toNat 8,a0i s.mig.toNat 0]:Nat),(a0J [a0i s.tail.toNat 40,a0i s.tail.toNat 32,a0i s.tail.toNat 24,a0i s.tail.toNat 16,a0i s.tail.toNat 8,a0i s.tail.toNat 0]:Nat),
  (a0J [a0i s.now.toNat 32,a0i s.now.toNat 24,a0i s.now.toNat 16,a0i s.now.toNat 8,a0i s.now.toNat 0]:Nat),b9C s.t,b9C s.h,
  if a0J [UInt8.ofNat (s.fo.length%256)]=1 then [b9C s.h] else if a0J [UInt8.ofNat (s.fo.length%256)]=2 then [b9C s.h,a7R (a7S s z) 36] else []⟩:=rfl
theorem c4X(s:Sb)(z:List UInt8):a9E (a7S s z)=⟨(a0J [a0i s.gen.toNat 32,a0i s.gen.toNat 24,a0i s.gen.toNat 16,a0i s.gen.toNat 8,a0i s.gen.toNat 0]:Nat),((UInt8.ofNat (s.phase.toNat%256)).toNat:Nat),
  (a0J [a0i s.mig.toNat 24,a0i s.mig.toNat 16,a0i s.mig.toNat 8,a0i s.mig.toNat 0]:Nat),(a0J [a0i s.tail.toNat 40,a0i s.tail.toNat 32,a0i s.tail.toNat 24,a0i s.tail.toNat 16,a0i s.tail.toNat 8,a0i s.tail.toNat 0]:Nat),
  (a0J [a0i s.now.toNat 32,a0i s.now.toNat 24,a0i s.now.toNat 16,a0i s.now.toNat 8,a0i s.now.toNat 0]:Nat),rdY s.t,rdY s.h,
  if 1<=(UInt8.ofNat (s.fo.length%256)).toNat then (if 2<=(UInt8.ofNat (s.fo.length%256)).toNat then [rdY s.h,rdV (((a7S s z).drop 36).take 7)] else [rdY s.h]) else []⟩:=rfl
theorem c2p(s:Sb)(f:La)(z:List UInt8):a7R (a7S s (c3u f z)) 36=b9C f:=rfl
theorem b9Q(s:Sb)(f:La)(z:List UInt8):rdV (((a7S s (c3u f z)).drop 36).take 7)=rdY f:=rfl
theorem b3y{s:Sb}(hv:sbB s=true)(z:List UInt8):b5f (a6U s++z)=s/\a9E (a6U s++z)=s:=by
 have hok:=b4M hv
 obtain ⟨g,ph,mg,tl,nw,ht,hh⟩:=hok
 have htl:=a7b ht
 have key:∀y,a6U s++z=a7S s y->b9C s.h=s.h/\rdY s.h=s.h ->
   ((if s.fo.length=1 then [s.h] else if s.fo.length=2 then [s.h,a7R (a7S s y) 36] else [])=s.fo) ->
   ((if 1<=s.fo.length then (if 2<=s.fo.length then [s.h,rdV (((a7S s y).drop 36).take 7)] else [s.h]) else [])=s.fo)->s.fo.length<=255 ->
   b5f (a6U s++z)=s/\a9E (a6U s++z)=s:=by
  intro y hy hhb h1 h2 hfl
  rw [hy,c5T,c4X,c6g (by omega),b5c (by omega),c0S (by omega),c4t (by omega),c6g (by omega),a3T (by omega),b5c hfl,a3T hfl,htl.1,htl.2,hhb.1,hhb.2,h1,h2]
  obtain ⟨a,b,c,d,e,t,h,f⟩:=s
  simp only [Sb.mk.injEq]
  simp only at g ph mg tl nw
  refine ⟨⟨?_,?_,?_,?_,?_,trivial,trivial,trivial⟩,?_,?_,?_,?_,?_,trivial,trivial,trivial⟩<;>omega
 rcases hh with ⟨h1,h2⟩|⟨h1,h2|⟨b,h2,h3⟩⟩
 ·refine key z ?_ (by rw [h1];exact b9l) (by rw [h2];rfl) (by rw [h2];rfl) (by rw [h2];simp)
  have:a6U s=p36 s:=by unfold a6U;rw [h2]
  rw [this];exact c0T s z
 ·refine key z ?_ (a7b h1) (by rw [h2];rfl) (by rw [h2];rfl) (by rw [h2];simp)
  have:a6U s=p36 s:=by unfold a6U;rw [h2]
  rw [this];exact c0T s z
 have hb:=a7b h3
 refine key (c3u b z) ?_ (a7b h1) ?_ ?_ (by rw [h2];simp)
 ·have:a6U s=a3c (p36 s) b:=by unfold a6U;rw [h2]
  rw [this];exact c2n s b z
 ·rw [c2p,hb.1,h2];rfl
 ·rw [b9Q,hb.2,h2];rfl
theorem b5J{s:Sb}(hv:sbB s=true)(k:Nat):a6F (a3D s k) k=some s:=by
 have hl:=a5H s
 have h1:a2A 3 0 k (a3D s k)=some (a6U s++List.replicate (59 - (a6U s).length) 0):=a5u (by omega)
 unfold a6F
 rw [h1]
 simp only
 rw [(b3y hv _).1]
 have h2:a3L s k=some (a3D s k):=by
  unfold a3L
  rw [if_pos hv]
 rw [if_pos h2]
theorem a6f{b:List UInt8}{k:Nat}{s:Sb}(h:a6F b k=some s):sbB s=true/\a3D s k=b:=by
 unfold a6F at h
 split at h
 ·cases h
 rename_i pay _
 split at h
 ·rename_i h2
  injection h with h
  rw [h] at h2
  unfold a3L at h2
  split at h2
  ·rename_i h3
   exact ⟨h3,by injection h2⟩
  ·cases h2
 ·cases h
theorem a7y(k:Nat):a6F (List.replicate 64 0) k=none:=by
 have h:a2A 3 0 k (List.replicate 64 0)=none:=by
  unfold a2A
  rw [if_neg]
  rintro ⟨_,h2⟩
  have h3:=congrArg (fun l=>l[0]?) h2
  have e:∀p,(a3C 3 0 k p)[0]?=some 3:=fun p=>rfl
  simp only [e] at h3
  exact absurd h3 (by decide)
 unfold a6F
 rw [h]
theorem b4E{k:Nat}{b bs:List UInt8}(h:a2A 3 0 k b=some bs):a6F b k=if a3L (a9E bs) k=some b then some (a9E bs) else none:=by
 have key:∀q:Sb,a3L q k=some b->b5f bs=q/\a9E bs=q:=by
  intro q he
  unfold a3L at he
  split at he
  ·rename_i hv
   have he:a3D q k=b:=by injection he
   have hl:=a5H q
   have h1:a2A 3 0 k (a3D q k)=some (a6U q++List.replicate (59 - (a6U q).length) 0):=a5u (by omega)
   rw [he,h] at h1
   injection h1 with h1
   subst h1
   exact b3y hv _
  ·cases he
 have e:a6F b k=if a3L (b5f bs) k=some b then some (b5f bs) else none:=by simp only [a6F,h]
 rw [e]
 by_cases h1:a3L (b5f bs) k=some b
 ·have:=(key _ h1).2
  rw [this]
 rw [if_neg h1]
 by_cases h2:a3L (a9E bs) k=some b
 ·have:=(key _ h2).1
  rw [this] at h1
  exact absurd h2 h1
 ·rw [if_neg h2]
theorem a9i(s:Sb){fv:AV}(h:a0d 2 fv):HOk 2 [some (.cells (sbF a4Q .nils) 26),some (.cells (sbF s fv) 26)]:=fun j o ho=>by
 match j,ho with
 | 0,ho=>cases ho;exact ⟨trivial,trivial,trivial,trivial,trivial,trivial,trivial,trivial,trivial,trivial,trivial,trivial,trivial,trivial,trivial⟩
 | 1,ho=>cases ho;exact ⟨trivial,trivial,trivial,trivial,trivial,trivial,trivial,trivial,trivial,trivial,trivial,trivial,trivial,h,trivial⟩
theorem b7J(X:Nat->Prop)(s:Sb)(fv:AV)(hfv:∀m w v,(E0 X).Rel m w fv v->(E0 X).Rel m w (.sl 4 (s.fo.map laA)) v) :
  a0b (E0 X) 30 [.agg (sbF s fv)] [] (fun r H'=>r=.bool (sbB s)/\H'=[]) :=
 a0b.weak (a7X X s) fun m w vs h=>by
  obtain ⟨u1,r1,rfl,h1,h⟩:=a0o.1 h
  exact RelL.cons (a5f (hfv m w) h1) h
theorem c2X(X:Nat->Prop)(s:Sb)(fv:AV)(hfv:∀m w v,(E0 X).Rel m w fv v->(E0 X).Rel m w (.sl 4 (s.fo.map laA)) v)(sector:Nat)(hv:sbB s=true)(hs:sector<1048576) :
  a0b (E0 X) 33 [.agg (sbF s fv),.int .i64 (sector:Int)] [] (fun r H'=>r=.sl 1 ((a3D s sector).map u8A)/\H'=[]) :=
 a0b.weak (b2h X s sector hv hs) fun m w vs h=>by
  obtain ⟨u1,r1,rfl,h1,h⟩:=a0o.1 h
  exact RelL.cons (a5f (hfv m w) h1) h
theorem b9x(l:List La):a2R (l.map laA):=fun y hy=>by
 obtain ⟨b,_,rfl⟩:=List.mem_map.1 hy;exact ⟨rfl,rfl⟩
theorem b8M{E:Env}{N n0:Nat}{Q Q2:Exit->St->Prop}{s:St}{c1 c2 c4:Code}{ι:Type}(σ:ι->St)(I:ι->Prop)(h1:∀T:St->Prop,(∀i s,I i->Imp E N n0 s (σ i)->T s)->AWp E N n0 c1 (a5W (AWp E N n0 c2 (a5W T Q2)) Q) s)
  (h2:∀i,I i->AWp E N n0 c4 Q2 (σ i)):AWp E N n0 c1 (a5W (AWp E N n0 (.seq c2 c4) Q2) Q) s:=by
 refine a2L (h1 (AWp E N n0 c4 Q2) fun i s hi im=>a0t im (h2 i hi)) fun e s h=>?_
 cases e with
 | normal=>exact a0u h
 | _=>exact h
theorem c2W(X:Nat->Prop)(b:List UInt8)(sector:Nat)(hs:sector<1048576)(hb:b.length<=1000) :
  a0b (E0 X) 124 [.sl 1 (b.map u8A),.int .i64 (sector:Int)] [] (fun r H'=>r=b5e (a6F b sector)/\H'=[]):=by
 refine a0b.cut0 ?_ (by unfold b5e;split<;>exact ⟨a1J,trivial,trivial⟩)
 refine a0b.weakR (R:=fun r _=>(r=.tup [.agg (sbF a4Q .nils),.bool false]/\a6F b sector=none)\/(∃s fv,r=.tup [.agg (sbF s fv),.bool true]/\a6F b sector=some s/\∀m w v,(E0 X).Rel m w fv v->(E0 X).Rel m w (.sl 4 (s.fo.map laA)) v)) ?_ ?_
 rotate_left
 ·rintro r H' (⟨rfl,h2⟩|⟨s,fv,rfl,h2,h3⟩)
  ·exact ⟨_,rfl,fun m w v h=>by rw [h2];exact b6G v h⟩
  ·exact ⟨_,rfl,fun m w v h=>by rw [h2];exact a5N (fun v h=>a5f (h3 m w) h) v h⟩
 have hdec:=fun X=>a9A X 3 0 sector b ⟨by decide,by decide,hs⟩ (by decide) (by omega)
 refine Z0 Proofs.Tryz.func124 rfl Proofs.Tryz.ntmps124 (by kernel_rfl) rfl ?_
 repeat' (first|refine Zs rfl ?_|refine Zc rfl ?_|refine Qa rfl ?_)
 refine Ck (fun _=>rfl) rfl (a0f (E:=E0 X) hdec (by simp [a0e,a0d]) _) ?_
 cases hd:a2A 3 0 sector b with
 | none =>
  have e:a6F b sector=none:=by simp only [a6F,hd]
  rw [e]
  show Nx _ (.tup [.nils,.bool false]) _
  refine nx rfl rfl ?_
  repeat' (first|refine Zs rfl ?_|refine Zc rfl ?_|refine Zh ?_|refine Qs ?_)
  exact a0c ⟨_,rfl,.inl ⟨rfl,rfl⟩⟩
 | some bs =>
  obtain ⟨hbl,-⟩:=a2e hd
  rw [b4E hd]
  show Nx _ (.tup [.sl 1 (bs.map u8A),.bool true]) _
  refine nx rfl rfl ?_
  obtain ⟨x5,hx5⟩:∃x,bs[5]?=some x:=⟨_,List.getElem?_eq_getElem (by omega)⟩
  obtain ⟨x35,hx35⟩:∃x,bs[35]?=some x:=⟨_,List.getElem?_eq_getElem (by omega)⟩
  have hp:a9E bs=⟨(a0J ((bs.drop 0).take 5):Nat),(x5.toNat:Nat),(a0J ((bs.drop 6).take 4):Nat),(a0J ((bs.drop 10).take 6):Nat),(a0J ((bs.drop 16).take 5):Nat),rdV ((bs.drop 21).take 7),rdV ((bs.drop 28).take 7),
   if 1<=x35.toNat then (if 2<=x35.toNat then [rdV ((bs.drop 28).take 7),rdV ((bs.drop 36).take 7)] else [rdV ((bs.drop 28).take 7)]) else []⟩:=by simp [a9E,hx5,hx35]
  have hw5:=x5.toNat_lt
  have w5:IntKind.i64.wrap (x5.toNat:Int)=(x5.toNat:Int):=a0r (by omega) (by omega)
  have q1:=fun X=>a3e X ((bs.drop 0).take 5) (by simp;omega)
  have q2:=fun X=>a3e X ((bs.drop 6).take 4) (by simp;omega)
  have q3:=fun X=>a3e X ((bs.drop 10).take 6) (by simp;omega)
  have q4:=fun X=>a3e X ((bs.drop 16).take 5) (by simp;omega)
  have q5:=fun X=>a9G X ((bs.drop 21).take 7) (by simp;omega)
  have q6:=fun X=>a9G X ((bs.drop 28).take 7) (by simp;omega)
  have q7:=fun X=>a9G X ((bs.drop 36).take 7) (by simp;omega)
  have s1:=a0U (bs:=bs) (lo:=0) (w:=5) (by decide)
  have s2:=a0U (bs:=bs) (lo:=6) (w:=4) (by decide)
  have s3:=a0U (bs:=bs) (lo:=10) (w:=6) (by decide)
  have s4:=a0U (bs:=bs) (lo:=16) (w:=5) (by decide)
  have l1:((bs.drop 0).take 5).length=5:=by simp;omega
  have l2:((bs.drop 6).take 4).length=4:=by simp;omega
  have l3:((bs.drop 10).take 6).length=6:=by simp;omega
  have l4:((bs.drop 16).take 5).length=5:=by simp;omega
  have l5:((bs.drop 21).take 7).length=7:=by simp;omega
  have l6:((bs.drop 28).take 7).length=7:=by simp;omega
  have l7:((bs.drop 36).take 7).length=7:=by simp;omega
  repeat' (first|refine Zs rfl ?_|refine Zc rfl ?_)
  refine a2T (s1:=⟨[(0,.sl 1 (b.map u8A)),(1,.int .i64 (sector:Int)),(4,.ptr 0 0),(6,.sl 1 (bs.map u8A)),(8,.ptr 1 0)],[some (.cells (sbF a4Q .nils) 26),some (.cells (sbF ⟨(a0J ((bs.drop 0).take 5):Nat),(x5.toNat:Nat),(a0J ((bs.drop 6).take 4):Nat),(a0J ((bs.drop 10).take 6):Nat),(a0J ((bs.drop 16).take 5):Nat),rdV ((bs.drop 21).take 7),rdV ((bs.drop 28).take 7),[]⟩ .nils) 26)]⟩) ?_ ?_
  ·refine a0n [27,28] [0,1,2,3,4,5,6,7,8,9,10,11,12,13,14,15,16,17,18,19,20,21,22,23,24,25,26] (by exact rfl) ?_
   refine a0y (fuel:=0) [0,1,2,3,4,5,6,7,8,9,10,11,12,13,14,15,16,17,18,19,20,21,22,23,24,25,26,27,28] (by exact rfl) (by kernel_rfl) (by kernel_rfl) ?_
   repeat' ((apply Qe rfl rfl rfl rfl;intro H9);(refine Q0 ?_);(exact QY rfl ⟨rfl,rfl⟩))
   apply a0O rfl rfl rfl rfl
   ·intro H9
    refine a1f (l:=0) (h:=5) (ys:=(bs.drop 0).take 5) (a1u) (a0q rfl rfl) (by omega) (by omega) (by rw [List.drop_take]) rfl rfl rfl rfl rfl ?_
    exact nx0 ⟨rfl,rfl⟩
   generalize (bs.drop 0).take 5=b1 at *
   skip
   apply a0O rfl rfl rfl rfl
   ·intro H9
    refine Ck (fun _=>rfl) rfl (a0f (E:=E0 X) (fun X=>q1 X) (by simp [a0e,a0d]) _) ?_
    exact nxs rfl ⟨rfl,rfl⟩
   repeat' ((apply Qe rfl rfl rfl rfl;intro H9);(first|refine Q0 ?_|refine QG rfl rfl rfl rfl ?_);(exact QY rfl ⟨rfl,rfl⟩))
   apply a0O rfl rfl rfl rfl
   ·intro H9
    refine a0C hx5 rfl rfl rfl rfl rfl rfl rfl (by first|rfl|omega) rfl ?_
    exact nxs rfl ⟨rfl,rfl⟩
   repeat' ((apply Qe rfl rfl rfl rfl;intro H9);(first|refine Q0 ?_|refine Q3 rfl rfl rfl ?_|refine QG rfl rfl rfl rfl ?_);(exact QY rfl ⟨rfl,rfl⟩))
   apply a0O rfl rfl rfl rfl
   ·intro H9
    refine a1f (l:=6) (h:=10) (ys:=(bs.drop 6).take 4) (a0q rfl rfl) (a0q rfl rfl) (by omega) (by omega) (by rw [List.drop_take]) rfl rfl rfl rfl rfl ?_
    exact nx0 ⟨rfl,rfl⟩
   generalize (bs.drop 6).take 4=b2 at *
   skip
   apply a0O rfl rfl rfl rfl
   ·intro H9
    refine Ck (fun _=>rfl) rfl (a0f (E:=E0 X) (fun X=>q2 X) (by simp [a0e,a0d]) _) ?_
    exact nxs rfl ⟨rfl,rfl⟩
   repeat' ((apply Qe rfl rfl rfl rfl;intro H9);(first|refine Q0 ?_|refine QG rfl rfl rfl rfl ?_);(exact QY rfl ⟨rfl,rfl⟩))
   apply a0O rfl rfl rfl rfl
   ·intro H9
    refine a1f (l:=10) (h:=16) (ys:=(bs.drop 10).take 6) (a0q rfl rfl) (a0q rfl rfl) (by omega) (by omega) (by rw [List.drop_take]) rfl rfl rfl rfl rfl ?_
    exact nx0 ⟨rfl,rfl⟩
   generalize (bs.drop 10).take 6=b3 at *
   skip
   apply a0O rfl rfl rfl rfl
   ·intro H9
    refine Ck (fun _=>rfl) rfl (a0f (E:=E0 X) (fun X=>q3 X) (by simp [a0e,a0d]) _) ?_
    exact nxs rfl ⟨rfl,rfl⟩
   repeat' ((apply Qe rfl rfl rfl rfl;intro H9);(first|refine Q0 ?_|refine QG rfl rfl rfl rfl ?_);(exact QY rfl ⟨rfl,rfl⟩))
   apply a0O rfl rfl rfl rfl
   ·intro H9
    refine a1f (l:=16) (h:=21) (ys:=(bs.drop 16).take 5) (a0q rfl rfl) (a0q rfl rfl) (by omega) (by omega) (by rw [List.drop_take]) rfl rfl rfl rfl rfl ?_
    exact nx0 ⟨rfl,rfl⟩
   generalize (bs.drop 16).take 5=b4 at *
   skip
   apply a0O rfl rfl rfl rfl
   ·intro H9
    refine Ck (fun _=>rfl) rfl (a0f (E:=E0 X) (fun X=>q4 X) (by simp [a0e,a0d]) _) ?_
    exact nxs rfl ⟨rfl,rfl⟩
   repeat' ((apply Qe rfl rfl rfl rfl;intro H9);(first|refine Q0 ?_|refine QG rfl rfl rfl rfl ?_);(exact QY rfl ⟨rfl,rfl⟩))
   apply a0O rfl rfl rfl rfl
   ·intro H9
    refine a1f (l:=21) (h:=28) (ys:=(bs.drop 21).take 7) (a0q rfl rfl) (a0q rfl rfl) (by omega) (by omega) (by rw [List.drop_take]) rfl rfl rfl rfl rfl ?_
    exact nx0 ⟨rfl,rfl⟩
   generalize (bs.drop 21).take 7=b5 at *
   skip
   apply a0O rfl rfl rfl rfl
   ·intro H9
    refine Ck (fun _=>rfl) rfl (a0f (E:=E0 X) (fun X=>q5 X) (by simp [a0e,a0d]) _) ?_
    exact nxs rfl ⟨rfl,rfl⟩
   repeat' ((apply Qe rfl rfl rfl rfl;intro H9);(refine Q0 ?_);(exact QY rfl ⟨rfl,rfl⟩))
   apply a0O rfl rfl rfl rfl
   ·intro H9
    refine a1f (l:=28) (h:=35) (ys:=(bs.drop 28).take 7) (a0q rfl rfl) (a0q rfl rfl) (by omega) (by omega) (by rw [List.drop_take]) rfl rfl rfl rfl rfl ?_
    exact nx0 ⟨rfl,rfl⟩
   generalize (bs.drop 28).take 7=b6 at *
   skip
   apply a0O rfl rfl rfl rfl
   ·intro H9
    refine Ck (fun _=>rfl) rfl (a0f (E:=E0 X) (fun X=>q6 X) (by simp [a0e,a0d]) _) ?_
    exact nxs rfl ⟨rfl,rfl⟩
   repeat' (first|((first|refine Qc rfl rfl rfl ?_|(apply Qe rfl rfl rfl rfl;intro H9));(first|refine QJ rfl rfl ?_|refine QP rfl rfl rfl rfl rfl rfl ?_);(first|exact QY rfl ⟨rfl,rfl⟩|refine QX rfl rfl ?_))|(refine Qf rfl rfl rfl ?_;refine QS rfl rfl rfl rfl rfl rfl rfl ?_;(refine QX rfl rfl ?_))|refine Qk ?_|refine Qw (by kernel_rfl) ?_)
   rw [w5,a3i s1,a3i s2,a3i s3,a3i s4]
   exact ⟨rfl,kk 2 (a9i _ (fv:=.nils) trivial) rfl (by simp [a0d,a0e])⟩
  rw [hp]
  generalize ((a0J ((bs.drop 0).take 5):Nat):Int)=n1 at *
  generalize ((a0J ((bs.drop 6).take 4):Nat):Int)=n3 at *
  generalize ((a0J ((bs.drop 10).take 6):Nat):Int)=n4 at *
  generalize ((a0J ((bs.drop 16).take 5):Nat):Int)=n5 at *
  generalize rdV ((bs.drop 21).take 7)=la at *
  generalize rdV ((bs.drop 28).take 7)=lh at *
  generalize (x5.toNat:Int)=n2 at *
  have hx:=x35.toNat_lt
  repeat' (first|refine Zs rfl ?_|refine Zc rfl ?_|refine Qa rfl ?_)
  refine a0C hx35 rfl rfl rfl rfl rfl rfl rfl (by first|rfl|omega) rfl ?_
  refine nx rfl rfl ?_
  repeat' (first|refine Zs rfl ?_|refine Zh ?_|refine Qs ?_)
  generalize hfo:(if 1<=x35.toNat then (if 2<=x35.toNat then [lh,rdV ((bs.drop 36).take 7)] else [lh]) else [])=tot
  refine b8M (fun p:List La × AV=>⟨[(0,.sl 1 (b.map u8A)),(1,.int .i64 (sector:Int)),(4,.ptr 0 0),(8,.ptr 1 0)],[some (.cells (sbF a4Q .nils) 26),some (.cells (sbF ⟨n1,n2,n3,n4,n5,la,lh,p.1⟩ p.2) 26)]⟩) (fun p=>p.1=tot/\a0d 0 p.2/\(p.2=.nils\/p.2=.sl 4 (p.1.map laA))/\∀X m w v,(E0 X).Rel m w p.2 v->(E0 X).Rel m w (.sl 4 (p.1.map laA)) v) (fun T hT=>?_) ?_
  ·by_cases h2':2<=x35.toNat
   ·have h1':1<=x35.toNat:=by omega
    rw [if_pos h1',if_pos h2'] at hfo
    subst hfo
    refine a0g rfl (fun h1=>?_) (fun h1=>?_)
    rotate_left
    ·omega
    repeat' (first|((refine Qa rfl ?_);(first|refine Q3 rfl rfl rfl ?_|refine Q4 rfl rfl rfl rfl rfl ?_);(refine QX rfl rfl ?_))|refine Qa rfl ?_|refine Qo rfl ?_)
    refine a1o rfl rfl rfl rfl rfl rfl rfl (.inl rfl) rfl (.inl rfl) ?_
    refine nx rfl rfl ?_
    repeat' (first|((refine Qa rfl ?_);(first|refine Q0 ?_|refine Q4 rfl rfl rfl rfl rfl ?_);(refine QX rfl rfl ?_))|refine Qa rfl ?_|(refine Qb rfl ?_;try (refine QS rfl rfl rfl rfl rfl rfl rfl ?_;(refine QX rfl rfl ?_)))|refine Qh ?_|refine Ql ?_|refine Qo rfl ?_)
    refine a0C hx35 rfl rfl rfl rfl rfl rfl rfl (by first|rfl|omega) rfl ?_
    refine nx rfl rfl ?_
    repeat' (first|refine Zs rfl ?_|refine Zh ?_|refine Qs ?_)
    refine a0g rfl (fun h2=>?_) (fun h2=>?_)
    rotate_left
    ·omega
    refine a0n [6,8] [0,2,3,4,5,7] (by exact rfl) ?_
    refine a0y (fuel:=0) [0,2,3,4,5,1,6,7,8] (by exact rfl) (by kernel_rfl) (by kernel_rfl) ?_
    repeat' ((apply Qe rfl rfl rfl rfl;intro H9);(first|refine Q0 ?_|refine Q4 rfl rfl rfl rfl rfl ?_);(exact QY rfl ⟨rfl,rfl⟩))
    apply a0O rfl rfl rfl rfl
    ·intro H9
     refine a1f (l:=36) (h:=43) (ys:=(bs.drop 36).take 7) (a0q rfl rfl) (a0q rfl rfl) (by omega) (by omega) (by rw [List.drop_take]) rfl rfl rfl rfl rfl ?_
     exact nx0 ⟨rfl,rfl⟩
    generalize (bs.drop 36).take 7=b7 at *
    skip
    apply a0O rfl rfl rfl rfl
    ·intro H9
     refine Ck (fun _=>rfl) rfl (a0f (E:=E0 X) (fun X=>q7 X) (by simp [a0e,a0d]) _) ?_
     exact nxs rfl ⟨rfl,rfl⟩
    repeat' ((first|refine Qc rfl rfl rfl ?_|apply Qd rfl rfl rfl rfl|(apply Qe rfl rfl rfl rfl;intro H9));(first|refine Q3 rfl rfl rfl ?_|refine QQ rfl rfl rfl rfl rfl rfl rfl rfl rfl rfl rfl ?_);(first|exact QX rfl rfl ⟨rfl,rfl⟩|exact QY rfl ⟨rfl,rfl⟩))
    generalize rdV b7=lf at *
    refine a1E rfl rfl rfl ?_
    refine a0V (oid:=some 2) (es:=[lh].map laA) (out:=[lh,lf].map laA) (n:=2) (a0M rfl rfl) (rfl) (b9x [lf]) (rfl) (rfl) (by show _<=9223372036854775807;omega) (by show _*32<=_;omega) rfl rfl rfl rfl rfl rfl rfl rfl ?_
    refine nx rfl rfl ?_
    repeat' (first|((apply Qe rfl rfl rfl rfl;intro H9);(refine Q4 rfl rfl rfl rfl rfl ?_);(exact QY rfl ⟨rfl,rfl⟩))|(refine Qf rfl rfl rfl ?_;refine QS rfl rfl rfl rfl rfl rfl rfl ?_;(refine QX rfl rfl ?_))|refine Qk ?_|refine Qw (by kernel_rfl) ?_)
    refine hT ([lh,lf],.sl 4 ([lh,lf].map laA)) _ ⟨rfl,a1w _,.inr rfl,fun _ _ _ _ h=>h⟩ ?_
    exact Imp.trans (a3O (id:=3) (k:=4) (es:=[lh,lf].map laA) (e:=23) rfl rfl rfl) (ik 2 (a9i ⟨n1,n2,n3,n4,n5,la,lh,[lh,lf]⟩ (a1w [lh,lf])) rfl rfl rfl rfl (by simp [a0e,a0d]))
   rw [if_neg h2'] at hfo
   refine a0g rfl (fun h1=>?_) (fun h1=>?_)
   ·rw [if_pos (by omega)] at hfo
    subst hfo
    repeat' (first|refine Zs rfl ?_|refine Zc rfl ?_|refine Qa rfl ?_)
    refine a0C hx35 rfl rfl rfl rfl rfl rfl rfl (by first|rfl|omega) rfl ?_
    refine nx rfl rfl ?_
    repeat' (first|refine Zs rfl ?_|refine Zh ?_|refine Qs ?_)
    refine a0g rfl (fun h2=>?_) (fun h2=>?_)
    ·omega
    repeat' (first|refine Zc rfl ?_|refine Qs ?_)
    refine hT ([lh],.sl 4 ([lh].map laA)) _ ⟨rfl,a1w _,.inr rfl,fun _ _ _ _ h=>h⟩ ?_
    exact ik 2 (a9i ⟨n1,n2,n3,n4,n5,la,lh,[lh]⟩ (a1w [lh])) rfl rfl rfl rfl (by simp [a0e,a0d])
   rw [if_neg (by omega)] at hfo
   subst hfo
   repeat' (first|refine Zs rfl ?_|refine Zc rfl ?_|refine Qa rfl ?_)
   refine a0C hx35 rfl rfl rfl rfl rfl rfl rfl (by first|rfl|omega) rfl ?_
   refine nx rfl rfl ?_
   repeat' (first|refine Zs rfl ?_|refine Zh ?_|refine Qs ?_)
   refine a0g rfl (fun h2=>?_) (fun h2=>?_)
   ·omega
   repeat' (first|refine Zc rfl ?_|refine Qs ?_)
   refine hT ([],.nils) _ ⟨rfl,trivial,.inl rfl,fun _=>a7j⟩ ?_
   exact ik 2 (a9i ⟨n1,n2,n3,n4,n5,la,lh,[]⟩ (fv:=.nils) trivial) rfl rfl rfl rfl (by simp [a0e,a0d])
  rintro ⟨fo,fv⟩ ⟨rfl,i0,hv,hrel⟩
  simp only at i0 hv hrel ⊢
  clear hfo
  repeat' (first|refine Zc rfl ?_|((refine Qa rfl ?_);(refine Q3 rfl rfl rfl ?_);(refine QZ ?_))|refine Qa rfl ?_)
  refine Ck (fun _=>rfl) rfl (a0f (E:=E0 X) (fun X=>b7J X ⟨n1,n2,n3,n4,n5,la,lh,fo⟩ fv (hrel X)) ⟨⟨trivial,trivial,trivial,trivial,trivial,trivial,trivial,trivial,trivial,trivial,trivial,trivial,trivial,i0,trivial⟩,trivial⟩ _) ?_
  refine nx0 ?_
  cases hs9:sbB ⟨n1,n2,n3,n4,n5,la,lh,fo⟩ with
  | false =>
   have e9:a3L ⟨n1,n2,n3,n4,n5,la,lh,fo⟩ sector=none:=by unfold a3L;rw [if_neg (by simp [hs9])]
   repeat' (first|refine Zs rfl ?_|refine Zc rfl ?_|refine Zh ?_|(refine Qb rfl ?_;try (refine QS rfl rfl rfl rfl rfl rfl rfl ?_;(refine QZ ?_)))|refine Qs ?_)
   exact a0c ⟨_,rfl,.inl ⟨rfl,if_neg (by rw [e9];simp)⟩⟩
  | true =>
   have henc:=fun X=>c2X X ⟨n1,n2,n3,n4,n5,la,lh,fo⟩ fv (hrel X) sector hs9 hs
   have e9:a3L ⟨n1,n2,n3,n4,n5,la,lh,fo⟩ sector=some (a3D ⟨n1,n2,n3,n4,n5,la,lh,fo⟩ sector):=by unfold a3L;rw [if_pos hs9]
   have hel:(a3D ⟨n1,n2,n3,n4,n5,la,lh,fo⟩ sector).length=64:=a3k _ _
   rw [e9]
   generalize a3D ⟨n1,n2,n3,n4,n5,la,lh,fo⟩ sector=eb at *
   repeat' (first|refine Zs rfl ?_|((refine Qa rfl ?_);(refine Q3 rfl rfl rfl ?_);(refine QZ ?_))|refine Qa rfl ?_)
   refine Ck (fun _=>rfl) rfl (a0f (E:=E0 X) henc ⟨⟨trivial,trivial,trivial,trivial,trivial,trivial,trivial,trivial,trivial,trivial,trivial,trivial,trivial,i0,trivial⟩,trivial,trivial⟩ _) ?_
   refine nx0 ?_
   repeat' (first|refine Zs rfl ?_|refine Qa rfl ?_)
   refine Ck (fun _=>rfl) rfl (a0f (E:=E0 X) (fun X=>b4q X eb b (by omega)) (by simp [a0e,a0d]) _) ?_
   refine nx0 ?_
   repeat' (first|refine Zs rfl ?_|refine Zh ?_|refine Qs ?_)
   refine a0I rfl (fun h9=>?_) (fun h9=>?_)
   ·have h8:¬ eb=b:=by simpa using h9
    repeat' (first|refine Zs rfl ?_|refine Zc rfl ?_|refine Zh ?_|(refine Qb rfl ?_;try (refine QS rfl rfl rfl rfl rfl rfl rfl ?_;(refine QZ ?_)))|refine Qs ?_)
    exact a0c ⟨_,rfl,.inl ⟨rfl,if_neg (by simpa using h8)⟩⟩
   have h8:eb=b:=by simpa using h9
   rcases hv with rfl|rfl
   ·repeat' (first|refine Zs rfl ?_|refine Zc rfl ?_|refine Zh ?_|refine Qs ?_)
    exact a0c ⟨_,rfl,.inr ⟨⟨n1,n2,n3,n4,n5,la,lh,fo⟩,_,rfl,if_pos (by rw [h8]),hrel X⟩⟩
   repeat' (first|refine Zs rfl ?_|refine Zc rfl ?_|refine Zh ?_|refine Qs ?_)
   exact a0c ⟨_,rfl,.inr ⟨⟨n1,n2,n3,n4,n5,la,lh,fo⟩,_,rfl,if_pos (by rw [h8]),hrel X⟩⟩
end Go.Abs
