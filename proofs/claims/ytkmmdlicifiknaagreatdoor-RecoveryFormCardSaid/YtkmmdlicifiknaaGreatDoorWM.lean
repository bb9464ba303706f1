/- Superblocks: Valid. Joined texts, each with what its own name promises; no condition beyond those stated. -/
import Derived.Test.YtkmmdlicifiknaaGreatDoorWG
import Derived.Test.YtkmmdlicifiknaaGreatDoorWC
import Derived.Test.YtkmmdlicifiknaaGreatDoorWE
import Derived.Test.YtkmmdlicifiknaaGreatDoorWF
set_option maxHeartbeats 0
set_option maxRecDepth 100000
set_option linter.all false
namespace Go.Abs
structure Sb where
 gen:Int
 phase:Int
 mig:Int
 tail:Int
 now:Int
 t:La
 h:La
 fo:List La
def sbL(s:Sb):List AV:=[.int .i64 s.gen,.int .i64 s.phase,.int .i64 s.mig,.int .i64 s.tail,.int .i64 s.now,.int .i64 s.t.id,.int .i64 s.t.ver,.int .i64 s.t.rs,.int .i64 s.t.regs,.int .i64 s.h.id,.int .i64 s.h.ver,.int .i64 s.h.rs,.int .i64 s.h.regs,.sl 4 (s.fo.map laA)]
def sbA(s:Sb):AV:=.agg (sbL s)
theorem a1k(l:List La){n:Nat}:a0e n (l.map laA):=a0h fun _=>a1u
@[simp] theorem a1P{n:Nat}{s:Sb}:a0g n (sbA s):=⟨trivial,trivial,trivial,trivial,trivial,trivial,trivial,trivial,trivial,trivial,trivial,trivial,trivial,a1k _,trivial⟩
theorem a4b(p q:La):(decide (p.id=q.id)&&(decide (p.ver=q.ver)&&(decide (p.rs=q.rs)&&(decide (p.regs=q.regs)&&true))))=decide (p=q):=by
 obtain ⟨p1,p2,p3,p4⟩:=p
 obtain ⟨q1,q2,q3,q4⟩:=q
 rw [Bool.eq_iff_iff]
 simp only [Bool.and_eq_true,decide_eq_true_eq,Bool.and_true,La.mk.injEq]
def b1R(s:Sb):Bool:=match s.fo with
 | [a,b]=>decide (a=s.h)&&(a1f b&&(decide (s.h.id≠b.id)&&(decide (s.h.id≠s.t.id)&&(decide (b.id≠s.t.id)&&decide (s.t=⟨s.t.id,s.h.ver,s.h.rs,s.h.regs⟩)))))
 | _=>false
def phB(s:Sb):Bool:=if s.phase=1 then decide (s.h=⟨0,0,0,0⟩)&&s.fo.isEmpty else
 if s.phase=2 then decide (0<s.mig)&&(a1f s.h&&(decide (s.fo=[s.h])&&decide (s.t.id≠s.h.id))) else
 if s.phase=3 then decide (0<s.mig)&&(a1f s.h&&b1R s) else false
def sbB(s:Sb):Bool:=decide (1<=s.gen)&&(decide (s.gen<=1099511627775)&&(decide (0<=s.mig)&&(decide (s.mig<=4294967295)&&(decide (0<=s.tail)&&(decide (s.tail<=281474976710655)&&(decide (0<=s.now)&&(decide (s.now<=549755813888)&&(a1f s.t&&phB s))))))))
attribute [local irreducible] a0B a1G AWp Nx awM
theorem c8F(X:Nat->Prop)(a b:List La)(ha:a.length<=4611686018427387904) :
  a0b (E0 X) 214 [.sl 4 (a.map laA),.sl 4 (b.map laA)] [] (fun r H'=>r=.bool (decide (a=b))/\H'=[]):=by
 refine Z0 Proofs.Tryz.func214 rfl Proofs.Tryz.ntmps214 (by kernel_rfl) rfl ?_
 repeat' (first|refine Zs rfl ?_|refine Zc rfl ?_|refine Zh ?_|refine Qs ?_)
 refine a0d rfl (fun h1=>?_) (fun h1=>?_)
 ·have h2:¬ a=b:=fun h=>by subst h;simp at h1
  repeat' (first|refine Zs rfl ?_|refine Zc rfl ?_|refine Zh ?_|refine Qs ?_)
  refine a0c ⟨_,rfl,?_,?_⟩
  ·rw [decide_eq_false h2];rfl
  ·rfl
 have hlen:a.length=b.length:=by simp at h1;omega
 repeat' (first|refine Zs rfl ?_|refine Zc rfl ?_)
 refine a0q (fun k:Nat=>⟨[(0,.sl 4 (a.map laA)),(1,.sl 4 (b.map laA)),(12,.int .i64 a.length),(13,.int .i64 (k:Int))],[]⟩) (fun k=>k<=a.length/\∀j,j<k->a[j]?=b[j]?) (fun k=>a.length - k) 0 ⟨Nat.zero_le _,fun j h=>absurd h (Nat.not_lt_zero j)⟩ ?_ ?_
 ·refine a0i 0 (Nat.zero_le _) a0T rfl (by simp) ?_
  repeat' (first|exact a0k|refine a0a ⟨?_,?_⟩ ?_)
  all_goals (try first|exact rfl|exact trivial|(simp [a0g,a0e];done)|(simp [a0R];done))
 rintro k ⟨hk,h⟩
 repeat' (first|refine Zs rfl ?_|refine Zc rfl ?_)
 refine a0d rfl (fun h3=>?_) (fun h3=>?_)
 ·have hka:k<a.length:=by omega
  obtain ⟨p,hp⟩:∃p,a[k]?=some p:=⟨_,List.getElem?_eq_getElem hka⟩
  obtain ⟨q,hq⟩:∃q,b[k]?=some q:=⟨_,List.getElem?_eq_getElem (hlen ▸ hka)⟩
  repeat' (first|refine Zs rfl ?_|refine Zc rfl ?_)
  refine a0m [] [] (by exact rfl) (by kernel_rfl) ?_
  repeat' (refine Zd rfl ?_)
  apply ds rfl rfl rfl rfl
  ·refine a0y hp rfl rfl rfl rfl rfl rfl rfl (by first|rfl|omega) rfl ?_
   exact nx rfl rfl ⟨rfl,rfl⟩
  repeat' (refine Zd rfl ?_)
  apply ds rfl rfl rfl rfl
  ·refine a0y hq rfl rfl rfl rfl rfl rfl rfl (by first|rfl|omega) rfl ?_
   exact nx rfl rfl ⟨rfl,rfl⟩
  repeat' (first|refine Zd rfl ?_|refine Zk ?_|refine Qs ?_)
  rw [a4b]
  refine a0H rfl (fun h4=>?_) (fun h4=>?_)
  ·have h5:¬ p=q:=by simpa using h4
   have h6:¬ a=b:=fun e=>by subst e;rw [hp] at hq;exact h5 (Option.some.inj hq)
   repeat' (first|refine Zs rfl ?_|refine Zc rfl ?_|refine Zh ?_|refine Qs ?_)
   refine a0c ⟨_,rfl,?_,?_⟩
   ·rw [decide_eq_false h6];rfl
   ·rfl
  have h5:p=q:=by simpa using h4
  repeat' (first|refine Zs rfl ?_|refine Zc rfl ?_|refine Zh ?_|refine Qs ?_)
  refine ⟨k+1,⟨by omega,fun j hj=>?_⟩,by omega,a0i 0 (Nat.zero_le _) a0T rfl (by simp) ?_⟩
  ·rcases Nat.lt_or_ge j k with h1|h1
   ·exact h j h1
   have:j=k:=by omega
   subst this
   rw [hp,hq,h5]
  ·repeat' (first|exact a0k|refine a0a ⟨?_,?_⟩ ?_)
   all_goals (try first|exact rfl|exact trivial|(simp [a0g,a0e];done)|(refine congrArg (AV.int .i64) (a0u ?_ ?_ ?_)<;>(first|omega|(simp;omega))))
 have hkl:k=a.length:=by omega
 have hab:a=b:=by
  refine List.ext_getElem? fun j=>?_
  rcases Nat.lt_or_ge j k with h1|h1
  ·exact h j h1
  ·rw [List.getElem?_eq_none (by omega),List.getElem?_eq_none (by omega)]
 repeat' (first|refine Zs rfl ?_|refine Zc rfl ?_|refine Zh ?_|refine Qs ?_)
 refine a0c ⟨_,rfl,?_,?_⟩
 ·rw [decide_eq_true hab];rfl
 ·rfl
def orF:FuncId->List AV->Option AV
 | 109,[.agg [.int .i64 a,.int .i64 b,.int .i64 c,.int .i64 d]]=>some (.bool (a1f ⟨a,b,c,d⟩))
 | _,_=>none
theorem b7B{X:Nat->Prop}:∀k xs r,orF k xs=some r->Pur (E0 X) k xs r:=fun k xs r h=>by
 unfold orF at h
 split at h
 ·cases h
  exact ⟨⟨a1u (l:=⟨_,_,_,_⟩),trivial⟩,fun Y=>a6R Y ⟨_,_,_,_⟩⟩
 ·cases h
theorem c7l(X:Nat->Prop)(s:Sb)(a b:La)(hfo:s.fo=[a,b]):a0b (E0 X) 215 [sbA s] [] (fun r H'=>r=.bool (b1R s)/\H'=[]):=by
 refine a0b.cut0 ?_ trivial
 obtain ⟨gen,phase,mig,tail,now,⟨t1,t2,t3,t4⟩,⟨h1,h2,h3,h4⟩,fo⟩:=s
 obtain ⟨a1,a2,a3,a4⟩:=a
 obtain ⟨b1,b2,b3,b4⟩:=b
 cases hfo
 refine Z0 Proofs.Tryz.func215 rfl Proofs.Tryz.ntmps215 (by kernel_rfl) rfl ?_
 repeat' (first|refine Zg b7B rfl rfl (by kernel_rfl) ?_|refine Zs rfl ?_|refine Zc rfl ?_)
 refine a0H rfl (fun h1=>?_) (fun h1=>?_)
 ·repeat' (first|refine Zb rfl rfl ?_|refine Zc rfl ?_)
  refine a0c ⟨_,rfl,congrArg AV.bool ?_⟩
  simp at h1
  grind [b1R]
 simp at h1
 repeat' (first|refine Za b7B rfl rfl ?_|refine Zg b7B rfl rfl (by kernel_rfl) ?_|refine Zs rfl ?_|refine Zc rfl ?_)
 refine a0c ⟨_,rfl,congrArg AV.bool ?_⟩
 grind [b1R]
theorem c8R(X:Nat->Prop)(s:Sb):a0b (E0 X) 215 [sbA s] [] (fun r H'=>r=.bool (b1R s)/\H'=[]):=by
 by_cases hl:s.fo.length=2
 ·match hfo:s.fo,hl with
  | [a,b],_=>exact c7l X s a b hfo
 have hr:b1R s=false:=by
  unfold b1R
  split
  ·rename_i a b he;rw [he] at hl;exact absurd rfl hl
  ·rfl
 rw [hr]
 refine a0b.cut0 ?_ trivial
 have hl2:decide (((s.fo.map laA).length:Int)≠2)=true:=by simp at hl ⊢;omega
 refine Z0 Proofs.Tryz.func215 rfl Proofs.Tryz.ntmps215 (by kernel_rfl) rfl ?_
 repeat' (first|refine Zs rfl ?_|refine Zc rfl ?_)
 refine a0m [] [] (by exact rfl) (by kernel_rfl) ?_
 repeat' (refine Zd rfl ?_)
 rw [hl2]
 repeat' (first|refine Zb rfl rfl ?_|refine Zc rfl ?_|refine Zd rfl ?_)
 exact a0c ⟨_,rfl,rfl⟩
theorem c4v(X:Nat->Prop)(s:Sb)(hfl:s.fo.length<=4611686018427387904):a0b (E0 X) 179 [sbA s] [] (fun r H'=>r=.bool (phB s)/\H'=[]):=by
 refine a0b.cut0 ?_ trivial
 have hret:=fun X=>c8R X s
 obtain ⟨gen,phase,mig,tail,now,t,h,fo⟩:=s
 simp only at hfl
 show a0b (E0 X) 179 [.agg [.int .i64 gen,.int .i64 phase,.int .i64 mig,.int .i64 tail,.int .i64 now,.int .i64 t.id,.int .i64 t.ver,.int .i64 t.rs,.int .i64 t.regs,.int .i64 h.id,.int .i64 h.ver,.int .i64 h.rs,.int .i64 h.regs,.sl 4 (fo.map laA)]] [] _
 refine Z0 Proofs.Tryz.func179 rfl Proofs.Tryz.ntmps179 (by kernel_rfl) rfl ?_
 repeat' (first|refine Zs rfl ?_|refine Zc rfl ?_|refine Zh ?_|refine Qs ?_)
 refine a0d rfl (fun h1=>?_) (fun h1=>?_)
 ·repeat' (first|refine Zs rfl ?_|refine Zc rfl ?_|refine Zh ?_|refine Qs ?_|((fail_if_success refine QV rfl ?_);refine Qz rfl rfl (fun _=>?_) (fun _=>?_)))
  ·rename_i e1
   have e2:=(a4b h ⟨0,0,0,0⟩).symm.trans e1
   refine a0c ⟨_,rfl,congrArg AV.bool ?_⟩
   simp only [phB,if_pos h1,e2]
   cases fo<;>simp<;>omega
  rename_i e1
  have e2:=(a4b h ⟨0,0,0,0⟩).symm.trans e1
  refine a0c ⟨_,rfl,congrArg AV.bool ?_⟩
  simp only [phB,if_pos h1,e2]
  rfl
 repeat' (first|refine Zs rfl ?_|refine Zc rfl ?_|refine Zh ?_|refine Qs ?_)
 refine a0d rfl (fun h2=>?_) (fun h2=>?_)
 ·repeat' (first|refine Zs rfl ?_|refine Zc rfl ?_|refine Zh ?_|refine Qa rfl ?_|refine Qs ?_|((fail_if_success refine QV rfl ?_);refine Qy rfl rfl (fun _=>?_) (fun _=>?_)))
  ·rename_i e1
   refine Cn rfl (a0f (E:=E0 X) (fun X=>a6R X h) (by simp [a0e,a0g]) _) rfl rfl ?_
   cases hf:a1f h with
   | false =>
    repeat' (first|refine Zs rfl ?_|refine Zh ?_|refine Qs ?_)
    exact a0c ⟨_,rfl,congrArg AV.bool (by simp [phB,h1,h2,e1,hf])⟩
   | true =>
    repeat' (first|refine Zs rfl ?_|refine Qa rfl ?_)
    refine Cn rfl (a0f (E:=E0 X) (fun X=>c8F X fo [h] hfl) (by simp [a0e,a0g]) _) rfl rfl ?_
    repeat' (first|refine Zs rfl ?_|refine Zh ?_|refine Qs ?_|((fail_if_success refine QV rfl ?_);refine Qy rfl rfl (fun _=>?_) (fun _=>?_)))
    ·rename_i e2
     exact a0c ⟨_,rfl,congrArg AV.bool (by simp [phB,h1,h2,e1,hf,e2])⟩
    ·rename_i e2
     exact a0c ⟨_,rfl,congrArg AV.bool (by simp [phB,h1,h2,e1,hf,e2])⟩
  ·rename_i e1
   exact a0c ⟨_,rfl,congrArg AV.bool (by simp [phB,h1,h2,e1])⟩
 repeat' (first|refine Zs rfl ?_|refine Zc rfl ?_|refine Zh ?_|refine Qs ?_)
 refine a0d rfl (fun h3=>?_) (fun h3=>?_)
 ·repeat' (first|refine Zs rfl ?_|refine Zc rfl ?_|refine Zh ?_|refine Qa rfl ?_|refine Qs ?_|((fail_if_success refine QV rfl ?_);refine Qy rfl rfl (fun _=>?_) (fun _=>?_)))
  ·rename_i e1
   refine Cn rfl (a0f (E:=E0 X) (fun X=>a6R X h) (by simp [a0e,a0g]) _) rfl rfl ?_
   cases hf:a1f h with
   | false =>
    repeat' (first|refine Zs rfl ?_|refine Zh ?_|refine Qs ?_)
    exact a0c ⟨_,rfl,congrArg AV.bool (by simp [phB,h1,h2,h3,e1,hf])⟩
   | true =>
    repeat' (first|refine Zs rfl ?_|refine Qa rfl ?_)
    refine Cn rfl (a0f (E:=E0 X) (fun X=>hret X) (by simp [a0e,a0g]) _) rfl rfl ?_
    repeat' (first|refine Zs rfl ?_|refine Zh ?_|refine Qs ?_)
    exact a0c ⟨_,rfl,congrArg AV.bool (by simp [phB,h1,h2,h3,e1,hf])⟩
  ·rename_i e1
   exact a0c ⟨_,rfl,congrArg AV.bool (by simp [phB,h1,h2,h3,e1])⟩
 skip
 repeat' (first|refine Zs rfl ?_|refine Zc rfl ?_|refine Zh ?_|refine Qs ?_)
 exact a0c ⟨_,rfl,congrArg AV.bool (by simp [phB,h1,h2,h3])⟩
theorem b4A(X:Nat->Prop)(s:Sb)(hfl:s.fo.length<=4611686018427387904):a0b (E0 X) 141 [sbA s] [] (fun r H'=>r=.bool (sbB s)/\H'=[]):=by
 refine a0b.cut0 ?_ trivial
 have hph:=fun X=>c4v X s hfl
 obtain ⟨gen,phase,mig,tail,now,t,h,fo⟩:=s
 show a0b (E0 X) 141 [.agg [.int .i64 gen,.int .i64 phase,.int .i64 mig,.int .i64 tail,.int .i64 now,.int .i64 t.id,.int .i64 t.ver,.int .i64 t.rs,.int .i64 t.regs,.int .i64 h.id,.int .i64 h.ver,.int .i64 h.rs,.int .i64 h.regs,.sl 4 (fo.map laA)]] [] _
 refine Z0 Proofs.Tryz.func141 rfl Proofs.Tryz.ntmps141 (by kernel_rfl) rfl ?_
 repeat' (first|refine Zs rfl ?_|refine Zc rfl ?_|refine Zh ?_|refine Qa rfl ?_|refine Qs ?_|((fail_if_success refine QV rfl ?_);refine Qy rfl rfl (fun _=>?_) (fun _=>?_)))
 any_goals (refine a0c ?_;refine ⟨_,rfl,?_⟩;refine congrArg AV.bool ?_;simp [sbB, *];done)
 refine Cn rfl (a0f (E:=E0 X) (fun X=>a6R X t) (by simp [a0e,a0g]) _) rfl rfl ?_
 cases hf:a1f t with
 | false =>
  repeat' (first|refine Zs rfl ?_|refine Zh ?_|refine Qs ?_)
  exact a0c ⟨_,rfl,congrArg AV.bool (by simp [sbB, *])⟩
 | true =>
  repeat' (first|refine Zs rfl ?_|refine Qa rfl ?_)
  refine Cn rfl (a0f (E:=E0 X) (fun X=>hph X) (by simp [a0e,a0g]) _) rfl rfl ?_
  repeat' (first|refine Zs rfl ?_|refine Zh ?_|refine Qs ?_)
  exact a0c ⟨_,rfl,congrArg AV.bool (by simp [sbB, *])⟩
deriving instance DecidableEq for Sb
theorem c4I{s:Sb}(h:¬ s.fo.length=2):b1R s=false:=by
 unfold b1R
 split
 ·rename_i a b he;rw [he] at h;exact absurd rfl h
 ·rfl
theorem a9e(p q:La):(!(decide (p.id=q.id)&&(decide (p.ver=q.ver)&&(decide (p.rs=q.rs)&&(decide (p.regs=q.regs)&&true)))))=!decide (p=q):=by rw [a4b]
theorem c4J{gen phase mig tail now:Int}{t h b:La}(hb:a1f b=true):b1R ⟨gen,phase,mig,tail,now,t,h,[h,b]⟩=decide (t.id≠h.id/\t.id≠b.id/\h.id≠b.id/\t.ver=h.ver/\t.rs=h.rs/\t.regs=h.regs):=by
 obtain ⟨t1,t2,t3,t4⟩:=t
 rw [Bool.eq_iff_iff]
 simp only [b1R,hb,Bool.and_eq_true,decide_eq_true_eq,La.mk.injEq,true_and]
 omega
theorem br3{P:Nat->Prop}{a b c:Nat}(h1:P a)(h2:P b)(h3:P c):∀i∈[a,b,c],P i:=fun i hi=>by
 simp only [List.mem_cons,List.not_mem_nil,or_false] at hi
 rcases hi with rfl|rfl|rfl
 ·exact h1
 ·exact h2
 ·exact h3
theorem a9t{E:Env}{N:Nat}{sl sl':List (Nat × AV)}{hp:Hp}{o1 o2 o3:AO}(ids:List Nat)(hnd:ids.Nodup)(hlen:[o1,o2,o3].length=ids.length)(hsl:∀p∈sl',Ren (gcF 0 ids) (get sl p.1) p.2)(hos:b9H hp (gcF 0 ids) ids [o1,o2,o3]):Imp E N 0 ⟨sl,hp⟩ ⟨sl',[some o1,some o2,some o3]⟩ :=
 a0L 0 ids (os:=[o1,o2,o3]) (Nat.le_refl _) (Nat.zero_le _) hnd (fun _ _=>Nat.zero_le _) (fun j o h=>by simp at h) hlen rfl hsl hos
theorem oL{hp:Hp}{g:Nat->Option Nat}{i:Nat}{ids:List Nat}{os:List AO}{l:La}(h:hp[i]?=some (some (.cells (laL l) 23)))(t:b9H hp g ids os):b9H hp g (i::ids) (.cells (laL l) 23::os) :=
 a0v h (a0A 0 (fun i h=>absurd h (Nat.not_lt_zero i)) ⟨trivial,trivial,trivial,trivial,trivial⟩) t
theorem a8z(X:Nat->Prop)(s:Sb):a0b (E0 X) 30 [sbA s] [] (fun r H'=>r=.bool (sbB s)/\H'=[]):=by
 refine a0b.cut0 ?_ trivial
 obtain ⟨gen,phase,mig,tail,now,t,h,fo⟩:=s
 show a0b (E0 X) 30 [.agg [.int .i64 gen,.int .i64 phase,.int .i64 mig,.int .i64 tail,.int .i64 now,.int .i64 t.id,.int .i64 t.ver,.int .i64 t.rs,.int .i64 t.regs,.int .i64 h.id,.int .i64 h.ver,.int .i64 h.rs,.int .i64 h.regs,.sl 4 (fo.map laA)]] [] _
 refine Z0 Proofs.Tryz.func30 rfl Proofs.Tryz.ntmps30 (by kernel_rfl) rfl ?_
 repeat' (first|refine Zs rfl ?_|refine Zc rfl ?_|refine Zh ?_|refine Qa rfl ?_|refine Qs ?_|((fail_if_success refine QV rfl ?_);refine Qy rfl rfl (fun _=>?_) (fun _=>?_)))
 any_goals (refine a0c ?_;refine ⟨_,rfl,?_⟩;refine congrArg AV.bool (Eq.symm ?_);rw [Bool.eq_false_iff];intro hh;simp only [sbB,Bool.and_eq_true,decide_eq_true_eq] at hh;omega)
 rename_i g0 g1 g2 g3 g4 g5 g6 g7
 have g9:sbB ⟨gen,phase,mig,tail,now,t,h,fo⟩=(a1f t&&phB ⟨gen,phase,mig,tail,now,t,h,fo⟩):=by
  have e1:1<=gen:=by omega
  have e2:gen<=1099511627775:=by omega
  have e3:0<=mig:=by omega
  have e4:mig<=4294967295:=by omega
  have e5:0<=tail:=by omega
  have e6:tail<=281474976710655:=by omega
  have e7:0<=now:=by omega
  have e8:now<=549755813888:=by omega
  simp [sbB,e1,e2,e3,e4,e5,e6,e7,e8]
 have hmig:0<=mig:=by omega
 rw [g9]
 clear g0 g1 g2 g3 g4 g5 g6 g7 g9
 refine Cn rfl (a0f (E:=E0 X) (fun X=>a4H X t) (by simp [a0e,a0g]) _) rfl rfl ?_
 cases hft:a1f t with
 | false =>
  repeat' (first|refine Zs rfl ?_|refine Zc rfl ?_|refine Zh ?_|refine Qs ?_)
  exact a0c ⟨_,rfl,rfl⟩
 | true =>
 rw [Bool.true_and]
 repeat' (first|refine Zs rfl ?_|refine Zc rfl ?_|refine Zh ?_|refine Qs ?_)
 refine a0d rfl (fun h1=>?_) (fun h1=>?_)
 ·repeat' (first|refine Zs rfl ?_|refine Zc rfl ?_|refine Zh ?_|refine Qs ?_|((fail_if_success refine QV rfl ?_);refine Qz rfl rfl (fun _=>?_) (fun _=>?_)))
  ·rename_i e1
   have e2:=(a4b h ⟨0,0,0,0⟩).symm.trans e1
   refine a0c ⟨_,rfl,congrArg AV.bool ?_⟩
   simp only [phB,if_pos h1,e2]
   cases fo<;>simp<;>omega
  rename_i e1
  have e2:=(a4b h ⟨0,0,0,0⟩).symm.trans e1
  refine a0c ⟨_,rfl,congrArg AV.bool ?_⟩
  simp only [phB,if_pos h1,e2]
  rfl
 repeat' (first|refine Zs rfl ?_|refine Zc rfl ?_|refine Zh ?_|refine Qs ?_)
 refine a0d rfl (fun h2=>?_) (fun h2=>?_)
 ·repeat' (refine Zc rfl ?_)
  refine a0m [] [] (by exact rfl) (by kernel_rfl) ?_
  repeat' (first|refine Zd rfl ?_|refine Zk ?_|refine Qs ?_|((fail_if_success refine QW rfl rfl ?_);refine QT rfl rfl rfl (fun _=>?_) (fun _=>?_)))
  ·rename_i e1
   apply ds rfl rfl rfl rfl
   ·refine Ck (fun _=>rfl) rfl (a0f (E:=E0 X) (fun X=>a4H X h) (by simp [a0e,a0g]) _) ?_
    exact nx rfl rfl ⟨rfl,rfl⟩
   cases hf:a1f h with
   | false =>
    repeat' (first|refine Zd rfl ?_|refine Zk ?_|refine Qs ?_)
    exact a0c ⟨_,rfl,congrArg AV.bool (by simp [phB,h1,h2,e1,hf])⟩
   | true =>
    repeat' (first|refine Zd rfl ?_|refine Zk ?_|refine Qs ?_|((fail_if_success refine QW rfl rfl ?_);refine QT rfl rfl rfl (fun _=>?_) (fun _=>?_)))
    ·rename_i e2
     obtain ⟨a,rfl⟩:∃a,fo=[a]:=by
      have e3:fo.length=1:=by simp at e2;omega
      match fo,e3 with
      | [a],_=>exact ⟨a,rfl⟩
     apply ds rfl rfl rfl rfl
     ·refine a0y (show [a][0]?=some a from rfl) rfl rfl rfl rfl rfl rfl rfl (by first|rfl|omega) rfl ?_
      exact nx rfl rfl ⟨rfl,rfl⟩
     repeat' (first|refine Zd rfl ?_|refine Zk ?_|refine Qs ?_|((fail_if_success refine QW rfl rfl ?_);refine QU rfl rfl rfl (fun _=>?_) (fun _=>?_)))
     ·rename_i e3
      have e4:=(a4b a h).symm.trans e3
      refine a0c ⟨_,rfl,congrArg AV.bool ?_⟩
      have e5:a=h:=of_decide_eq_true e4
      simp [phB,h2,e1,hf,e5]
     rename_i e3
     have e4:=(a4b a h).symm.trans e3
     refine a0c ⟨_,rfl,congrArg AV.bool ?_⟩
     have e5:¬ a=h:=of_decide_eq_false e4
     simp [phB,h2,e1,hf,e5]
    rename_i e2
    have e3:¬ fo=[h]:=fun e=>by subst e;exact e2 rfl
    exact a0c ⟨_,rfl,congrArg AV.bool (by simp [phB,h2,e1,hf,e3])⟩
  ·rename_i e1
   exact a0c ⟨_,rfl,congrArg AV.bool (by simp [phB,h2,e1])⟩
 repeat' (first|refine Zs rfl ?_|refine Zc rfl ?_|refine Zh ?_|refine Qs ?_)
 refine a0d rfl (fun h3=>?_) (fun h3=>?_)
 ·repeat' (refine Zc rfl ?_)
  refine a0m [] [] (by exact rfl) (by kernel_rfl) ?_
  repeat' (first|refine Zs rfl ?_|refine Zd rfl ?_|refine Zc rfl ?_|refine Zh ?_|refine Qs ?_|((fail_if_success refine QW rfl rfl ?_);refine QT rfl rfl rfl (fun _=>?_) (fun _=>?_)))
  ·rename_i e1
   exact a0c ⟨_,rfl,congrArg AV.bool (by simp [phB,h3,e1])⟩
  rename_i e1
  have e2:0<mig:=by omega
  have hph:phB ⟨gen,phase,mig,tail,now,t,h,fo⟩=(a1f h&&b1R ⟨gen,phase,mig,tail,now,t,h,fo⟩):=by simp [phB,h3,e2]
  rw [hph]
  apply ds rfl rfl rfl rfl
  ·refine Ck (fun _=>rfl) rfl (a0f (E:=E0 X) (fun X=>a4H X h) (by simp [a0e,a0g]) _) ?_
   exact nx rfl rfl ⟨rfl,rfl⟩
  cases hf:a1f h with
  | false =>
   repeat' (first|refine Zs rfl ?_|refine Zd rfl ?_|refine Zc rfl ?_|refine Zh ?_|refine Qs ?_)
   exact a0c ⟨_,rfl,rfl⟩
  | true =>
  rw [Bool.true_and]
  repeat' (first|refine Zs rfl ?_|refine Zd rfl ?_|refine Zc rfl ?_|refine Zh ?_|refine Qs ?_|((fail_if_success refine QW rfl rfl ?_);refine QT rfl rfl rfl (fun _=>?_) (fun _=>?_)))
  ·rename_i e3
   rw [c4I (by simp at e3 ⊢;omega)]
   exact a0c ⟨_,rfl,rfl⟩
  rename_i e3
  obtain ⟨a,b,rfl⟩:∃a b,fo=[a,b]:=by
   have e3:fo.length=2:=by simp at e3;omega
   match fo,e3 with
   | [a,b],_=>exact ⟨a,b,rfl⟩
  apply ds rfl rfl rfl rfl
  ·refine a0y (show [a,b][0]?=some a from rfl) rfl rfl rfl rfl rfl rfl rfl (by first|rfl|omega) rfl ?_
   exact nx rfl rfl ⟨rfl,rfl⟩
  repeat' (first|refine Zs rfl ?_|refine Zd rfl ?_|refine Zc rfl ?_|refine Zh ?_|refine Qs ?_|((fail_if_success refine QW rfl rfl ?_);refine QU rfl rfl rfl (fun _=>?_) (fun _=>?_)))
  ·rename_i e4
   have e5:¬ a=h:=by have:=(a9e a h).symm.trans e4;simpa using this
   exact a0c ⟨_,rfl,congrArg AV.bool (by simp [b1R,e5])⟩
  rename_i e4
  have e5:a=h:=by have:=(a9e a h).symm.trans e4;simpa using this
  subst e5
  apply ds rfl rfl rfl rfl
  ·refine a0y (show [a,b][1]?=some b from rfl) rfl rfl rfl rfl rfl rfl rfl (by first|rfl|omega) rfl ?_
   exact nx rfl rfl ⟨rfl,rfl⟩
  repeat' (refine Zd rfl ?_)
  apply ds rfl rfl rfl rfl
  ·refine Ck (fun _=>rfl) rfl (a0f (E:=E0 X) (fun X=>a4H X b) (by simp [a0e,a0g]) _) ?_
   exact nx rfl rfl ⟨rfl,rfl⟩
  cases hb:a1f b with
  | false =>
   repeat' (first|refine Zs rfl ?_|refine Zd rfl ?_|refine Zc rfl ?_|refine Zh ?_|refine Qs ?_)
   exact a0c ⟨_,rfl,congrArg AV.bool (by simp [b1R,hb])⟩
  | true =>
   rw [c4J hb]
   repeat' (first|refine Zd rfl ?_|refine Zc rfl ?_)
   refine a0t (a0X (id:=0) (cs:=[.int .i64 gen,.int .i64 phase,.int .i64 mig,.int .i64 tail,.int .i64 now,.int .i64 t.id,.int .i64 t.ver,.int .i64 t.rs,.int .i64 t.regs,.int .i64 a.id,.int .i64 a.ver,.int .i64 a.rs,.int .i64 a.regs,.sl 4 ([a,b].map laA)]) rfl) ?_
   refine a0t (a0i 0 (Nat.zero_le _) a0T rfl (Nat.zero_le _) (sl':=[(1,.fp [.int .i64 gen,.int .i64 phase,.int .i64 mig,.int .i64 tail,.int .i64 now,.int .i64 t.id,.int .i64 t.ver,.int .i64 t.rs,.int .i64 t.regs,.int .i64 a.id,.int .i64 a.ver,.int .i64 a.rs,.int .i64 a.regs,.sl 4 ([a,b].map laA)])]) ?_) ?_
   ·refine a0a ⟨rfl,trivial,trivial,trivial,trivial,trivial,trivial,trivial,trivial,trivial,trivial,trivial,trivial,trivial,a1k _,trivial⟩ a0k
   refine a3f (s1:=⟨[(3,.ptr 0 0),(4,.ptr 1 0),(5,.ptr 2 0)],[some (.cells (laL t) 23),some (.cells (laL a) 23),some (.cells (laL b) 23)]⟩) ?_ ?_
   rotate_left
   ·repeat' (first|refine Zs rfl ?_|refine Zc rfl ?_|refine Zh ?_|refine Qs ?_|((fail_if_success refine QV rfl ?_);refine Qy rfl rfl (fun _=>?_) (fun _=>?_)))
    all_goals (refine a0c ?_;refine ⟨_,rfl,congrArg AV.bool ?_⟩;first|exact (decide_eq_false (by omega)).symm|exact decide_eq_decide.2 (by omega))
   refine a0o [8,9,10,11,12,13] [0,1,2,3,4,5,6,7] (by exact rfl) ?_
   refine a0C (fuel:=6) [0,1,2,3,4,5,6,7] (by exact rfl) (by kernel_rfl) (by kernel_rfl) ?_
   repeat' ((apply Qe rfl rfl rfl rfl;intro H9);(first|refine Q3 rfl rfl rfl ?_|refine Q4 rfl rfl rfl rfl rfl ?_);(exact QY rfl ⟨rfl,rfl⟩))
   apply a0Q rfl rfl rfl rfl
   ·intro H9
    refine a0y (show [a,b][1]?=some b from rfl) rfl rfl rfl rfl rfl rfl rfl (by first|rfl|omega) rfl ?_
    exact nxs rfl ⟨rfl,rfl⟩
   repeat' (first|((apply Qe rfl rfl rfl rfl;intro H9);(refine Q3 rfl rfl rfl ?_);(exact QY rfl ⟨rfl,rfl⟩))|refine Qk ?_)
   refine a2e [8,9,10] (by kernel_rfl) (br3 ?_ ?_ ?_)
   ·refine a1v rfl rfl rfl ?_
    refine a1S rfl rfl ?_
    refine nx rfl rfl ?_
    refine a2e [9,10] (by kernel_rfl) (br2 ?_ ?_)
    ·refine a1v rfl rfl rfl ?_
     refine a1S rfl rfl ?_
     refine nx rfl rfl ?_
     refine a0C (fuel:=0) [10,11,12,13] (by exact rfl) (by kernel_rfl) (by kernel_rfl) ?_
     repeat' (first|((refine Qc rfl rfl rfl ?_);(refine QJ rfl rfl ?_);(refine QX rfl rfl ?_))|(refine Qf rfl rfl rfl ?_;refine QS rfl rfl rfl rfl rfl rfl rfl ?_;(refine QX rfl rfl ?_))|refine Qk ?_|refine Qw (by kernel_rfl) ?_)
     exact ⟨rfl,a9t [0,1,2] (by simp) rfl (a0a (a1g rfl) (a0a (a1g rfl) (a0a (a1g rfl) a0k))) (oL rfl (oL rfl (oL rfl a0N)))⟩
    refine a1v rfl rfl rfl ?_
    refine a1S rfl rfl ?_
    refine nx rfl rfl ?_
    refine a0C (fuel:=0) [9,11,12,13] (by exact rfl) (by kernel_rfl) (by kernel_rfl) ?_
    repeat' (first|((refine Qc rfl rfl rfl ?_);(refine QJ rfl rfl ?_);(refine QX rfl rfl ?_))|(refine Qf rfl rfl rfl ?_;refine QS rfl rfl rfl rfl rfl rfl rfl ?_;(refine QX rfl rfl ?_))|refine Qk ?_|refine Qw (by kernel_rfl) ?_)
    exact ⟨rfl,a9t [0,2,1] (by simp) rfl (a0a (a1g rfl) (a0a (a1g rfl) (a0a (a1g rfl) a0k))) (oL rfl (oL rfl (oL rfl a0N)))⟩
   ·refine a1v rfl rfl rfl ?_
    refine a1S rfl rfl ?_
    refine nx rfl rfl ?_
    refine a2e [8,10] (by kernel_rfl) (br2 ?_ ?_)
    ·refine a1v rfl rfl rfl ?_
     refine a1S rfl rfl ?_
     refine nx rfl rfl ?_
     refine a0C (fuel:=0) [10,11,12,13] (by exact rfl) (by kernel_rfl) (by kernel_rfl) ?_
     repeat' (first|((refine Qc rfl rfl rfl ?_);(refine QJ rfl rfl ?_);(refine QX rfl rfl ?_))|(refine Qf rfl rfl rfl ?_;refine QS rfl rfl rfl rfl rfl rfl rfl ?_;(refine QX rfl rfl ?_))|refine Qk ?_|refine Qw (by kernel_rfl) ?_)
     exact ⟨rfl,a9t [1,0,2] (by simp) rfl (a0a (a1g rfl) (a0a (a1g rfl) (a0a (a1g rfl) a0k))) (oL rfl (oL rfl (oL rfl a0N)))⟩
    refine a1v rfl rfl rfl ?_
    refine a1S rfl rfl ?_
    refine nx rfl rfl ?_
    refine a0C (fuel:=0) [8,11,12,13] (by exact rfl) (by kernel_rfl) (by kernel_rfl) ?_
    repeat' (first|((refine Qc rfl rfl rfl ?_);(refine QJ rfl rfl ?_);(refine QX rfl rfl ?_))|(refine Qf rfl rfl rfl ?_;refine QS rfl rfl rfl rfl rfl rfl rfl ?_;(refine QX rfl rfl ?_))|refine Qk ?_|refine Qw (by kernel_rfl) ?_)
    exact ⟨rfl,a9t [2,0,1] (by simp) rfl (a0a (a1g rfl) (a0a (a1g rfl) (a0a (a1g rfl) a0k))) (oL rfl (oL rfl (oL rfl a0N)))⟩
   refine a1v rfl rfl rfl ?_
   refine a1S rfl rfl ?_
   refine nx rfl rfl ?_
   refine a2e [8,9] (by kernel_rfl) (br2 ?_ ?_)
   ·refine a1v rfl rfl rfl ?_
    refine a1S rfl rfl ?_
    refine nx rfl rfl ?_
    refine a0C (fuel:=0) [9,11,12,13] (by exact rfl) (by kernel_rfl) (by kernel_rfl) ?_
    repeat' (first|((refine Qc rfl rfl rfl ?_);(refine QJ rfl rfl ?_);(refine QX rfl rfl ?_))|(refine Qf rfl rfl rfl ?_;refine QS rfl rfl rfl rfl rfl rfl rfl ?_;(refine QX rfl rfl ?_))|refine Qk ?_|refine Qw (by kernel_rfl) ?_)
    exact ⟨rfl,a9t [1,2,0] (by simp) rfl (a0a (a1g rfl) (a0a (a1g rfl) (a0a (a1g rfl) a0k))) (oL rfl (oL rfl (oL rfl a0N)))⟩
   refine a1v rfl rfl rfl ?_
   refine a1S rfl rfl ?_
   refine nx rfl rfl ?_
   refine a0C (fuel:=0) [8,11,12,13] (by exact rfl) (by kernel_rfl) (by kernel_rfl) ?_
   repeat' (first|((refine Qc rfl rfl rfl ?_);(refine QJ rfl rfl ?_);(refine QX rfl rfl ?_))|(refine Qf rfl rfl rfl ?_;refine QS rfl rfl rfl rfl rfl rfl rfl ?_;(refine QX rfl rfl ?_))|refine Qk ?_|refine Qw (by kernel_rfl) ?_)
   exact ⟨rfl,a9t [2,1,0] (by simp) rfl (a0a (a1g rfl) (a0a (a1g rfl) (a0a (a1g rfl) a0k))) (oL rfl (oL rfl (oL rfl a0N)))⟩
 skip
 repeat' (first|refine Zs rfl ?_|refine Zc rfl ?_|refine Zh ?_|refine Qs ?_)
 exact a0c ⟨_,rfl,congrArg AV.bool (by simp [phB,h1,h2,h3])⟩
theorem a0b.own0{E:Env}{f:FuncId}{args:List AV}{es:List AV}{e:TypeId}(h:a0b E f args [] (fun r H'=>∃id n,r=.own id 0 n/\n=es.length/\H'[id]?=some (some (.arr es e))))(hes:a0e 0 es) :
  a0b E f args [] (fun r H'=>r=.own 0 0 es.length/\H'=[some (.arr es e)]) :=
 h.imp fun r H' ⟨id,n,h1,h2,h3⟩=>by
  subst h1;subst h2
  refine ⟨_,_,⟨rfl,rfl⟩,?_⟩
  refine a0L 0 [id] (H':=[some (.arr es e)]) (os:=[.arr es e]) (Nat.le_refl _) (Nat.zero_le _) (by simp) (by simp) (by simp [HOk]) rfl (by simp) ?_ ?_
  ·exact a0a (a0D (by simp [gcF])) a0k
  ·exact a0v h3 (a0A 0 (fun i h=>absurd h (Nat.not_lt_zero i)) hes) a0N
theorem a8j(X:Nat->Prop)(H:Hp)(x:AV)(b:List UInt8)(l:La)(hl:c2g l)(hb:b.length<=1000)(hx:a7d (E0 X) H 1 x=some (b.map u8A)) :
  a0b (E0 X) 181 [x,laA l] H (fun r H'=>r=.own H.length 0 (b.length+7)/\H'=H++[some (.arr ((a3p b l).map u8A) 5)]):=by
 refine (a1H (E:=E0 X) (P:=fun v H'=>v=.own 0 0 ((a3p b l).map u8A).length/\H'=[some (.arr ((a3p b l).map u8A) 5)]) (fun X=>a0b.own0 (b3N X b l hl hb) (a0h fun _=>a0n)) (fun r h' h=>by
  obtain ⟨h1,h2⟩:=h;subst h1;subst h2;exact ⟨rfl,by simp [a6x,a7n,a2h (f:=u8A) (fun _=>rfl)]⟩) (Bor.sl (a2c _) hx (Bor.same a1u .nil))).mono ?_
 rintro r H' ⟨r0,h',⟨rfl,rfl⟩,rfl,rfl⟩
 refine ⟨by simp [rnA,a1R],?_⟩
 show H++[some (AO.arr (rnL _ (List.map u8A _)) _)]=_
 rw [a1X (fun _=>rfl)]
def p6(s:Sb):List UInt8:=a1b [] s.gen.toNat 5++[UInt8.ofNat (s.phase.toNat%256)]
def p21(s:Sb):List UInt8:=a1b (a1b (a1b (p6 s) s.mig.toNat 4) s.tail.toNat 6) s.now.toNat 5
def p36(s:Sb):List UInt8:=a3p (a3p (p21 s) s.t) s.h++[UInt8.ofNat (s.fo.length%256)]
def a7o(s:Sb):List UInt8:=match s.fo with
 | [_,f]=>a3p (p36 s) f
 | _=>p36 s
theorem b7F(s:Sb):(p6 s).length=6:=by simp [p6,a0E]
theorem b2D(s:Sb):(p21 s).length=21:=by simp [p21,a0E,b7F]
theorem b0d(s:Sb):(p36 s).length=36:=by simp [p36,a1R,b2D]
theorem a6c(s:Sb):(a7o s).length=36\/(a7o s).length=43:=by
 unfold a7o
 split
 ·right;rw [a1R,b0d]
 ·left;exact b0d s
def encS(s:Sb)(sector:Nat):List UInt8:=a3Q 3 0 sector (a7o s)
theorem a4V(s:Sb)(k:Nat):(encS s k).length=64:=a2W (by rcases a6c s with h|h<;>omega)
structure c3l(s:Sb):Prop where
 gen:1<=s.gen/\s.gen<=1099511627775
 phase:1<=s.phase/\s.phase<=3
 mig:0<=s.mig/\s.mig<=4294967295
 tail:0<=s.tail/\s.tail<=281474976710655
 now:0<=s.now/\s.now<=549755813888
 t:a1f s.t=true
 h:(s.h=⟨0,0,0,0⟩/\s.fo=[])\/(a1f s.h=true/\(s.fo=[s.h]\/∃b,s.fo=[s.h,b]/\a1f b=true))
theorem b8E{s:Sb}(h:sbB s=true):c3l s:=by
 obtain ⟨gen,phase,mig,tail,now,t,hm,fo⟩:=s
 simp only [sbB,Bool.and_eq_true,decide_eq_true_eq] at h
 obtain ⟨h1,h2,h3,h4,h5,h6,h7,h8,h9,h10⟩:=h
 simp only [phB] at h10
 have key:(1<=phase/\phase<=3)/\((hm=⟨0,0,0,0⟩/\fo=[])\/(a1f hm=true/\(fo=[hm]\/∃b,fo=[hm,b]/\a1f b=true))):=by
  split at h10
  ·rename_i e
   simp only [Bool.and_eq_true,decide_eq_true_eq,List.isEmpty_iff] at h10
   exact ⟨by omega,.inl h10⟩
  split at h10
  ·rename_i e
   simp only [Bool.and_eq_true,decide_eq_true_eq] at h10
   exact ⟨by omega,.inr ⟨h10.2.1,.inl h10.2.2.1⟩⟩
  split at h10
  ·rename_i e
   simp only [Bool.and_eq_true,decide_eq_true_eq] at h10
   refine ⟨by omega,.inr ⟨h10.2.1,.inr ?_⟩⟩
   have h11:=h10.2.2
   unfold b1R at h11
   split at h11
   ·rename_i a b he
    simp only at he
    simp only [Bool.and_eq_true,decide_eq_true_eq] at h11
    exact ⟨b,by rw [he,h11.1],h11.2.1⟩
   ·exact absurd h11 (by decide)
  ·exact absurd h10 (by decide)
 exact ⟨⟨h1,h2⟩,key.1,⟨h3,h4⟩,⟨h5,h6⟩,⟨h7,h8⟩,h9,key.2⟩
theorem c3S:c2g ⟨0,0,0,0⟩:=⟨by decide,by decide,by decide,by decide⟩
theorem c3l.hok{s:Sb}(h:c3l s):c2g s.h:=by
 rcases h.h with ⟨h1,_⟩|⟨h1,_⟩
 ·rw [h1];exact c3S
 ·exact a5v h1
theorem c3l.len{s:Sb}(h:c3l s):s.fo.length<=2:=by
 rcases h.h with ⟨_,h1⟩|⟨_,h1|⟨b,h1,_⟩⟩<;>rw [h1]<;>simp
theorem c7H(X:Nat->Prop)(s:Sb)(sector:Nat)(hv:sbB s=true)(hs:sector<1048576) :
  a0b (E0 X) 142 [sbA s,.int .i64 (sector:Int)] [] (fun r H'=>r=.tup [.sl 1 ((encS s sector).map u8A),.int .i64 0]/\H'=[]):=by
 have hok:=b8E hv
 have hva:=fun X=>b4A X s (by have:=hok.len;omega)
 rw [hv] at hva
 refine a0b.cut0 ?_ ⟨a0h fun _=>a0n,trivial,trivial⟩
 obtain ⟨⟨g1,g2⟩,⟨g3,g4⟩,⟨g5,g6⟩,⟨g7,g8⟩,⟨g9,g10⟩,g11,g12⟩:=id hok
 have gh:=hok.hok
 have gl:=hok.len
 have hpay:encS s sector=a3Q 3 0 sector (a7o s):=rfl
 have hfp:a7o s=match s.fo with|[_,f]=>a3p (p36 s) f|_=>p36 s:=rfl
 have h36:p36 s=a3p (a3p (p21 s) s.t) s.h++[UInt8.ofNat (s.fo.length%256)]:=rfl
 have h21:p21 s=a1b (a1b (a1b (p6 s) s.mig.toNat 4) s.tail.toNat 6) s.now.toNat 5:=rfl
 have h6:p6 s=a1b [] s.gen.toNat 5++[UInt8.ofNat (s.phase.toNat%256)]:=rfl
 have l6:=b7F s
 have l21:=b2D s
 have l36:=b0d s
 have lp:=a6c s
 rw [hpay]
 generalize a7o s=pay at *
 generalize p36 s=b36 at *
 generalize p21 s=b21 at *
 generalize p6 s=b6 at *
 obtain ⟨gen,phase,mig,tail,now,t,h,fo⟩:=s
 simp only at g1 g2 g3 g4 g5 g6 g7 g8 g9 g10 g11 g12 gh gl hfp h36 h21 h6
 obtain ⟨gen,rfl⟩:=Int.eq_ofNat_of_zero_le (show 0<=gen by omega)
 obtain ⟨phase,rfl⟩:=Int.eq_ofNat_of_zero_le (show 0<=phase by omega)
 obtain ⟨mig,rfl⟩:=Int.eq_ofNat_of_zero_le g5
 obtain ⟨tail,rfl⟩:=Int.eq_ofNat_of_zero_le g7
 obtain ⟨now,rfl⟩:=Int.eq_ofNat_of_zero_le g9
 simp only [Int.toNat_natCast] at h21 h6
 show a0b (E0 X) 142 [.agg [.int .i64 (gen:Int),.int .i64 (phase:Int),.int .i64 (mig:Int),.int .i64 (tail:Int),.int .i64 (now:Int),.int .i64 t.id,.int .i64 t.ver,.int .i64 t.rs,.int .i64 t.regs,.int .i64 h.id,.int .i64 h.ver,.int .i64 h.rs,.int .i64 h.regs,.sl 4 (fo.map laA)],.int .i64 (sector:Int)] [] _
 refine Z0 Proofs.Tryz.func142 rfl Proofs.Tryz.ntmps142 (by kernel_rfl) rfl ?_
 repeat' (first|refine Zs rfl ?_|refine Zc rfl ?_|refine Qa rfl ?_)
 refine Cn rfl (a0f (E:=E0 X) (fun X=>hva X) (by simp [a0e,a0g]) _) rfl rfl ?_
 repeat' (first|refine Zs rfl ?_|refine Zc rfl ?_)
 refine a0t (a0X (id:=0) (cs:=[.int .i64 (gen:Int),.int .i64 (phase:Int),.int .i64 (mig:Int),.int .i64 (tail:Int),.int .i64 (now:Int),.int .i64 t.id,.int .i64 t.ver,.int .i64 t.rs,.int .i64 t.regs,.int .i64 h.id,.int .i64 h.ver,.int .i64 h.rs,.int .i64 h.regs,.sl 4 (fo.map laA)]) rfl) ?_
 refine a0t (a0i 0 (Nat.zero_le _) a0T rfl (Nat.zero_le _) (sl':=[(1,.int .i64 (sector:Int)),(2,.fp [.int .i64 (gen:Int),.int .i64 (phase:Int),.int .i64 (mig:Int),.int .i64 (tail:Int),.int .i64 (now:Int),.int .i64 t.id,.int .i64 t.ver,.int .i64 t.rs,.int .i64 t.regs,.int .i64 h.id,.int .i64 h.ver,.int .i64 h.rs,.int .i64 h.regs,.sl 4 (fo.map laA)])]) ?_) ?_
 ·refine a0a ⟨rfl,trivial⟩ (a0a ⟨rfl,trivial,trivial,trivial,trivial,trivial,trivial,trivial,trivial,trivial,trivial,trivial,trivial,trivial,a1k _,trivial⟩ a0k)
 refine a0o [3,8] [0,1,2,4,5,6,7,9] (by exact rfl) ?_
 refine a0C (fuel:=0) [0,1,2,4,5,6,7,3,8,9] (by exact rfl) (by kernel_rfl) (by kernel_rfl) ?_
 repeat' (refine Zd rfl ?_)
 rw [wrap64 (by omega),a1s]
 refine a1D rfl rfl rfl ?_
 refine Cn rfl (a4n X _ _ [] gen 5 (by decide) (by decide) (by simp) rfl) rfl rfl ?_
 refine a1D rfl rfl rfl ?_
 refine a0V (oid:=some 0) (es:=(a1b [] gen 5).map u8A) (out:=b6.map u8A) (n:=6) (a0J rfl (by rw [List.length_map,a0E])) (rfl) (a0P [UInt8.ofNat (phase%256)]) (by rw [h6,List.map_append];rfl) (by rw [List.length_map,a0E];rfl) (by show _<=9223372036854775807;omega) (by show _*1<=_;omega) rfl rfl rfl rfl rfl rfl rfl rfl ?_
 refine nx rfl rfl ?_
 repeat' (first|refine Zs rfl ?_|refine Zd rfl ?_|refine Zc rfl ?_|refine Zk ?_|refine Qa rfl ?_|refine Qw (by kernel_rfl) ?_)
 rw [wrap64 (by omega)]
 refine Cn rfl (a4n X _ _ b6 mig 4 (by decide) (by decide) (by omega) (a0z rfl rfl rfl (by omega) (by rw [List.drop_zero,List.take_of_length_le (by omega)]))) rfl rfl ?_
 have l10:(a1b b6 mig 4).length=10:=by rw [a0E,l6]
 generalize a1b b6 mig 4=b10 at *
 repeat' (first|refine Zs rfl ?_|refine Zc rfl ?_|refine Qa rfl ?_)
 rw [wrap64 (by omega)]
 refine Cn rfl (a4n X _ _ b10 tail 6 (by decide) (by decide) (by omega) (a0z rfl rfl rfl (by omega) (by rw [List.drop_zero,List.take_of_length_le (by omega)]))) rfl rfl ?_
 have l16:(a1b b10 tail 6).length=16:=by rw [a0E,l10]
 generalize a1b b10 tail 6=b16 at *
 repeat' (first|refine Zs rfl ?_|refine Zc rfl ?_|refine Qa rfl ?_)
 rw [wrap64 (by omega)]
 refine Cn rfl (a4n X _ _ b16 now 5 (by decide) (by decide) (by omega) (a0z rfl rfl rfl (by omega) (by rw [List.drop_zero,List.take_of_length_le (by omega)]))) rfl rfl ?_
 rw [<- h21]
 repeat' (first|refine Zs rfl ?_|refine Zc rfl ?_)
 refine a0o [3,6,12] [0,1,2,4,5,7,8,9,10,11,13] (by exact rfl) ?_
 refine a0C (fuel:=0) [0,1,2,4,5,7,8,9,10,11,3,6,12,13] (by exact rfl) (by kernel_rfl) (by kernel_rfl) ?_
 repeat' (refine Zd rfl ?_)
 rw [a1s]
 refine a1D rfl rfl rfl ?_
 refine Cn rfl (a8j X _ _ b21 t (a5v g11) (by omega) (a0z rfl rfl rfl (by omega) (by rw [List.drop_zero,List.take_of_length_le (by omega)]))) rfl rfl ?_
 have l28:(a3p b21 t).length=28:=by rw [a1R,l21]
 generalize a3p b21 t=b28 at *
 refine a1D rfl rfl rfl ?_
 refine Cn rfl (a8j X _ _ b28 h gh (by omega) (a0z rfl rfl rfl (by omega) (by rw [List.drop_zero,List.take_of_length_le (by omega)]))) rfl rfl ?_
 have l35:(a3p b28 h).length=35:=by rw [a1R,l28]
 generalize a3p b28 h=b35 at *
 refine a1D rfl rfl rfl ?_
 refine a0V (oid:=some 6) (es:=b35.map u8A) (out:=b36.map u8A) (n:=36) (a0J rfl (by rw [List.length_map];omega)) (rfl) (a0P [UInt8.ofNat ((fo.map laA).length%256)]) (by rw [h36,List.map_append,List.length_map];rfl) (by rw [List.length_map,l35];rfl) (by show _<=9223372036854775807;omega) (by show _*1<=_;omega) rfl rfl rfl rfl rfl rfl rfl rfl ?_
 refine nx rfl rfl ?_
 repeat' (first|refine Zs rfl ?_|refine Zd rfl ?_|refine Zc rfl ?_|refine Zh ?_|refine Zk ?_|refine Qs ?_|refine Qw (by kernel_rfl) ?_)
 refine a0d rfl (fun h9=>?_) (fun h9=>?_)
 ·obtain ⟨b,hfo,hb⟩:∃b,fo=[h,b]/\a1f b=true:=by
   rcases g12 with ⟨_,h1⟩|⟨_,h1|h1⟩
   ·rw [h1] at h9;simp at h9
   ·rw [h1] at h9;simp at h9
   ·exact h1
  subst hfo
  have hpb:pay=a3p b36 b:=hfp
  have l43:pay.length=43:=by rw [hpb,a1R,l36]
  repeat' (first|refine Zs rfl ?_|refine Zc rfl ?_|refine Qa rfl ?_)
  refine a0y (show [h,b][1]?=some b from rfl) rfl rfl rfl rfl rfl rfl rfl (by first|rfl|omega) rfl ?_
  refine nx rfl rfl ?_
  repeat' (first|refine Zs rfl ?_|refine Qa rfl ?_)
  refine Cn rfl (a8j X _ _ b36 b (a5v hb) (by omega) (a0z rfl rfl rfl (by omega) (by rw [List.drop_zero,List.take_of_length_le (by omega)]))) rfl rfl ?_
  rw [<- hpb,l36]
  repeat' (first|((refine Qa rfl ?_);(refine Q1 ?_);(refine QX rfl rfl ?_))|refine Qh ?_)
  refine a2s ?_
  refine a0t (a0M (id:=8) (k:=1) (es:=pay.map u8A) (e:=5) rfl rfl rfl) ?_
  refine a0t (a0i 0 (Nat.zero_le _) a0T rfl (Nat.zero_le _) (sl':=[(1,.int .i64 (sector:Int)),(6,.sl 1 (pay.map u8A))]) ?_) ?_
  ·refine a0a ⟨rfl,trivial⟩ (a0a ⟨?_,a0h fun _=>a0n⟩ a0k)
   show frz 8 _ _ (.own 8 0 (36+7))=_
   exact a3h (by simp [l43])
  repeat' (first|refine Zs rfl ?_|refine Zc rfl ?_|refine Qa rfl ?_)
  refine Cn rfl (b0R X 3 0 sector pay ⟨by decide,by decide,hs⟩ (by decide) (by omega)) rfl rfl ?_
  repeat' (first|refine Zs rfl ?_|refine Zh ?_|refine Qs ?_)
  exact a0c ⟨_,rfl,rfl⟩
 have hpb:pay=b36:=by
  rcases g12 with ⟨_,h1⟩|⟨_,h1|⟨b,h1,_⟩⟩
  ·rw [hfp,h1]
  ·rw [hfp,h1]
  ·rw [h1] at h9;exact absurd (by simp) h9
 rw [hpb]
 refine a2n ?_
 refine a2s ?_
 refine a0t (a0M (id:=7) (k:=1) (es:=b36.map u8A) (e:=5) rfl rfl rfl) ?_
 refine a0t (a0i 0 (Nat.zero_le _) a0T rfl (Nat.zero_le _) (sl':=[(1,.int .i64 (sector:Int)),(6,.sl 1 (b36.map u8A))]) ?_) ?_
 ·refine a0a ⟨rfl,trivial⟩ (a0a ⟨?_,a0h fun _=>a0n⟩ a0k)
  show frz 7 _ _ (.own 7 0 36)=_
  exact a3h (by simp [l36])
 repeat' (first|refine Zs rfl ?_|refine Zc rfl ?_|refine Qa rfl ?_)
 refine Cn rfl (b0R X 3 0 sector b36 ⟨by decide,by decide,hs⟩ (by decide) (by omega)) rfl rfl ?_
 repeat' (first|refine Zs rfl ?_|refine Zh ?_|refine Qs ?_)
 exact a0c ⟨_,rfl,rfl⟩
theorem b8H(X:Nat->Prop)(s:Sb)(sector:Int)(hv:sbB s=false)(hfl:s.fo.length<=4611686018427387904) :
  a0b (E0 X) 142 [sbA s,.int .i64 sector] [] (fun r H'=>r=.tup [.nils,.int .i64 4]/\H'=[]):=by
 refine a0b.cut0 ?_ ⟨trivial,trivial,trivial⟩
 have hva:=fun X=>b4A X s hfl
 rw [hv] at hva
 refine Z0 Proofs.Tryz.func142 rfl Proofs.Tryz.ntmps142 (by kernel_rfl) rfl ?_
 repeat' (first|refine Zs rfl ?_|refine Zc rfl ?_|refine Qa rfl ?_)
 refine Cn rfl (a0f (E:=E0 X) (fun X=>hva X) (by simp [a0e,a0g]) _) rfl rfl ?_
 repeat' (first|refine Zs rfl ?_|refine Zc rfl ?_|refine Zh ?_|refine Qs ?_)
 exact a0c ⟨_,rfl,rfl⟩
def a3W(s:Sb)(sector:Nat):Option (List UInt8):=if sbB s=true then some (encS s sector) else none
theorem c7F(X:Nat->Prop)(s:Sb)(sector:Nat)(hs:sector<1048576)(hfl:s.fo.length<=4611686018427387904) :
  a0b (E0 X) 142 [sbA s,.int .i64 (sector:Int)] [] (fun r H'=>r=(match a3W s sector with|some e=>.tup [.sl 1 (e.map u8A),.int .i64 0]|none=>.tup [.nils,.int .i64 4])/\H'=[]):=by
 unfold a3W
 cases hv:sbB s with
 | false=>exact b8H X s sector hv hfl
 | true=>exact c7H X s sector hv hs
theorem c3l.hlog{s:Sb}(h:c3l s):max (b3S s.h.rs) 0=((a5f s.h.rs.toNat - 1:Nat):Int):=by
 rcases h.h with ⟨h1,_⟩|⟨h1,_⟩
 ·rw [h1];kernel_rfl
 ·exact a5V h1
theorem b0s(X:Nat->Prop)(H:Hp)(x:AV)(b:List UInt8)(l:La)(hl:c2g l)(hlg:max (b3S l.rs) 0=((a5f l.rs.toNat - 1:Nat):Int))(hb:b.length<=1000)(hx:a7d (E0 X) H 1 x=some (b.map u8A)) :
  a0b (E0 X) 86 [x,laA l] H (fun r H'=>r=.own H.length 0 (b.length+7)/\H'=H++[some (.arr ((a3p b l).map u8A) 5)]):=by
 refine (a1H (E:=E0 X) (P:=fun v H'=>v=.own 0 0 ((a3p b l).map u8A).length/\H'=[some (.arr ((a3p b l).map u8A) 5)]) (fun X=>a0b.own0 (b8o X b l hl hlg hb) (a0h fun _=>a0n)) (fun r h' h=>by
  obtain ⟨h1,h2⟩:=h;subst h1;subst h2;exact ⟨rfl,by simp [a6x,a7n,a2h (f:=u8A) (fun _=>rfl)]⟩) (Bor.sl (a2c _) hx (Bor.same a1u .nil))).mono ?_
 rintro r H' ⟨r0,h',⟨rfl,rfl⟩,rfl,rfl⟩
 refine ⟨by simp [rnA,a1R],?_⟩
 show H++[some (AO.arr (rnL _ (List.map u8A _)) _)]=_
 rw [a1X (fun _=>rfl)]
theorem b2Q(X:Nat->Prop)(s:Sb)(sector:Nat)(hv:sbB s=true)(hs:sector<1048576) :
  a0b (E0 X) 33 [sbA s,.int .i64 (sector:Int)] [] (fun r H'=>r=.sl 1 ((encS s sector).map u8A)/\H'=[]):=by
 have hok:=b8E hv
 refine a0b.cut0 ?_ (a0h fun _=>a0n)
 obtain ⟨⟨g1,g2⟩,⟨g3,g4⟩,⟨g5,g6⟩,⟨g7,g8⟩,⟨g9,g10⟩,g11,g12⟩:=id hok
 have gh:=hok.hok
 have gl:=hok.len
 have glt:=a5V hok.t
 have glh:=hok.hlog
 have hpay:encS s sector=a3Q 3 0 sector (a7o s):=rfl
 have hfp:a7o s=match s.fo with|[_,f]=>a3p (p36 s) f|_=>p36 s:=rfl
 have h36:p36 s=a3p (a3p (p21 s) s.t) s.h++[UInt8.ofNat (s.fo.length%256)]:=rfl
 have h21:p21 s=a1b (a1b (a1b (p6 s) s.mig.toNat 4) s.tail.toNat 6) s.now.toNat 5:=rfl
 have h6:p6 s=a1b [] s.gen.toNat 5++[UInt8.ofNat (s.phase.toNat%256)]:=rfl
 have l6:=b7F s
 have l21:=b2D s
 have l36:=b0d s
 have lp:=a6c s
 rw [hpay]
 generalize a7o s=pay at *
 generalize p36 s=b36 at *
 generalize p21 s=b21 at *
 generalize p6 s=b6 at *
 obtain ⟨gen,phase,mig,tail,now,t,h,fo⟩:=s
 simp only at g1 g2 g3 g4 g5 g6 g7 g8 g9 g10 g11 g12 gh gl glt glh hfp h36 h21 h6
 obtain ⟨gen,rfl⟩:=Int.eq_ofNat_of_zero_le (show 0<=gen by omega)
 obtain ⟨phase,rfl⟩:=Int.eq_ofNat_of_zero_le (show 0<=phase by omega)
 obtain ⟨mig,rfl⟩:=Int.eq_ofNat_of_zero_le g5
 obtain ⟨tail,rfl⟩:=Int.eq_ofNat_of_zero_le g7
 obtain ⟨now,rfl⟩:=Int.eq_ofNat_of_zero_le g9
 simp only [Int.toNat_natCast] at h21 h6
 show a0b (E0 X) 33 [.agg [.int .i64 (gen:Int),.int .i64 (phase:Int),.int .i64 (mig:Int),.int .i64 (tail:Int),.int .i64 (now:Int),.int .i64 t.id,.int .i64 t.ver,.int .i64 t.rs,.int .i64 t.regs,.int .i64 h.id,.int .i64 h.ver,.int .i64 h.rs,.int .i64 h.regs,.sl 4 (fo.map laA)],.int .i64 (sector:Int)] [] _
 refine Z0 Proofs.Tryz.func33 rfl Proofs.Tryz.ntmps33 (by kernel_rfl) rfl ?_
 repeat' (first|refine Zs rfl ?_|refine Zc rfl ?_|refine Qa rfl ?_)
 rw [wrap64 (by omega)]
 refine Cn rfl (a1C X _ _ [] gen 5 (by decide) (by decide) (by simp) rfl) rfl rfl ?_
 repeat' (first|refine Zs rfl ?_|refine Zc rfl ?_)
 refine a0t (a0X (id:=0) (cs:=[.int .i64 (gen:Int),.int .i64 (phase:Int),.int .i64 (mig:Int),.int .i64 (tail:Int),.int .i64 (now:Int),.int .i64 t.id,.int .i64 t.ver,.int .i64 t.rs,.int .i64 t.regs,.int .i64 h.id,.int .i64 h.ver,.int .i64 h.rs,.int .i64 h.regs,.sl 4 (fo.map laA)]) rfl) ?_
 refine a0t (a0L 0 [1] (sl':=[(1,.int .i64 (sector:Int)),(2,.fp [.int .i64 (gen:Int),.int .i64 (phase:Int),.int .i64 (mig:Int),.int .i64 (tail:Int),.int .i64 (now:Int),.int .i64 t.id,.int .i64 t.ver,.int .i64 t.rs,.int .i64 t.regs,.int .i64 h.id,.int .i64 h.ver,.int .i64 h.rs,.int .i64 h.regs,.sl 4 (fo.map laA)]),(5,.own 0 0 5)]) (H':=[some (.arr ((a1b [] gen 5).map u8A) 5)]) (os:=[.arr ((a1b [] gen 5).map u8A) 5]) (Nat.le_refl _) (Nat.zero_le _) (by simp) (by simp) (by simp [HOk]) rfl rfl ?_ ?_) ?_
 ·exact a0a (a0s rfl trivial) (a0a (a0s rfl ⟨trivial,trivial,trivial,trivial,trivial,trivial,trivial,trivial,trivial,trivial,trivial,trivial,trivial,a1k _,trivial⟩) (a0a (a0D rfl) a0k))
 ·exact a0v rfl (a0A 0 (fun i h=>absurd h (Nat.not_lt_zero i)) (a0h fun _=>a0n)) a0N
 refine a0o [5,9] [0,1,2,3,4,6,7,8,10] (by exact rfl) ?_
 refine a0C (fuel:=0) [0,1,2,3,4,6,7,8,5,9,10] (by exact rfl) (by kernel_rfl) (by kernel_rfl) ?_
 repeat' (refine Zd rfl ?_)
 rw [a1s,wrap64 (by omega)]
 refine a1D rfl rfl rfl ?_
 refine a0V (oid:=some 0) (es:=(a1b [] gen 5).map u8A) (out:=b6.map u8A) (n:=6) (a0J rfl (by rw [List.length_map,a0E];rfl)) (rfl) (a0P [UInt8.ofNat (phase%256)]) (by rw [h6,List.map_append];rfl) (by rw [List.length_map,a0E];rfl) (by show _<=9223372036854775807;omega) (by show _*1<=_;omega) rfl rfl rfl rfl rfl rfl rfl rfl ?_
 refine nx rfl rfl ?_
 refine a1D rfl rfl rfl ?_
 refine Cn rfl (a1C X _ _ b6 mig 4 (by decide) (by decide) (by omega) (a0z rfl rfl rfl (by omega) (by rw [List.drop_zero,List.take_of_length_le (by omega)]))) rfl rfl ?_
 have l10:(a1b b6 mig 4).length=10:=by rw [a0E,l6]
 generalize a1b b6 mig 4=b10 at *
 repeat' (first|refine Zd rfl ?_|refine Zc rfl ?_|refine Zk ?_|refine Qw (by kernel_rfl) ?_)
 refine a0o [4,8] [0,1,2,3,5,6,7,9] (by exact rfl) ?_
 refine a0C (fuel:=0) [0,1,2,3,5,6,7,4,8,9] (by exact rfl) (by kernel_rfl) (by kernel_rfl) ?_
 repeat' (refine Zd rfl ?_)
 rw [wrap64 (by omega),wrap64 (by omega)]
 refine a1D rfl rfl rfl ?_
 refine Cn rfl (a1C X _ _ b10 tail 6 (by decide) (by decide) (by omega) (a0z rfl rfl rfl (by omega) (by rw [List.drop_zero,List.take_of_length_le (by omega)]))) rfl rfl ?_
 have l16:(a1b b10 tail 6).length=16:=by rw [a0E,l10]
 generalize a1b b10 tail 6=b16 at *
 refine a1D rfl rfl rfl ?_
 refine Cn rfl (a1C X _ _ b16 now 5 (by decide) (by decide) (by omega) (a0z rfl rfl rfl (by omega) (by rw [List.drop_zero,List.take_of_length_le (by omega)]))) rfl rfl ?_
 rw [<- h21]
 repeat' (first|refine Zd rfl ?_|refine Zc rfl ?_|refine Zk ?_|refine Qw (by kernel_rfl) ?_)
 refine a0o [3,6,12] [0,1,2,4,5,7,8,9,10,11,13] (by exact rfl) ?_
 refine a0C (fuel:=0) [0,1,2,4,5,7,8,9,10,11,3,6,12,13] (by exact rfl) (by kernel_rfl) (by kernel_rfl) ?_
 repeat' (refine Zd rfl ?_)
 rw [a1s]
 refine a1D rfl rfl rfl ?_
 refine Cn rfl (b0s X _ _ b21 t (a5v g11) glt (by omega) (a0z rfl rfl rfl (by omega) (by rw [List.drop_zero,List.take_of_length_le (by omega)]))) rfl rfl ?_
 have l28:(a3p b21 t).length=28:=by rw [a1R,l21]
 generalize a3p b21 t=b28 at *
 refine a1D rfl rfl rfl ?_
 refine Cn rfl (b0s X _ _ b28 h gh glh (by omega) (a0z rfl rfl rfl (by omega) (by rw [List.drop_zero,List.take_of_length_le (by omega)]))) rfl rfl ?_
 have l35:(a3p b28 h).length=35:=by rw [a1R,l28]
 generalize a3p b28 h=b35 at *
 refine a1D rfl rfl rfl ?_
 refine a0V (oid:=some 6) (es:=b35.map u8A) (out:=b36.map u8A) (n:=36) (a0J rfl (by rw [List.length_map];omega)) (rfl) (a0P [UInt8.ofNat ((fo.map laA).length%256)]) (by rw [h36,List.map_append,List.length_map];rfl) (by rw [List.length_map,l35];rfl) (by show _<=9223372036854775807;omega) (by show _*1<=_;omega) rfl rfl rfl rfl rfl rfl rfl rfl ?_
 refine nx rfl rfl ?_
 repeat' (first|refine Zs rfl ?_|refine Zd rfl ?_|refine Zc rfl ?_|refine Zh ?_|refine Zk ?_|refine Qs ?_|refine Qw (by kernel_rfl) ?_)
 refine a0d rfl (fun h9=>?_) (fun h9=>?_)
 ·obtain ⟨b,hfo,hb⟩:∃b,fo=[h,b]/\a1f b=true:=by
   rcases g12 with ⟨_,h1⟩|⟨_,h1|h1⟩
   ·rw [h1] at h9;simp at h9
   ·rw [h1] at h9;simp at h9
   ·exact h1
  subst hfo
  have hpb:pay=a3p b36 b:=hfp
  have l43:pay.length=43:=by rw [hpb,a1R,l36]
  repeat' (first|refine Zs rfl ?_|refine Zc rfl ?_|refine Qa rfl ?_)
  refine a0y (show [h,b][1]?=some b from rfl) rfl rfl rfl rfl rfl rfl rfl (by first|rfl|omega) rfl ?_
  refine nx rfl rfl ?_
  repeat' (first|refine Zs rfl ?_|refine Qa rfl ?_)
  refine Cn rfl (b0s X _ _ b36 b (a5v hb) (a5V hb) (by omega) (a0z rfl rfl rfl (by omega) (by rw [List.drop_zero,List.take_of_length_le (by omega)]))) rfl rfl ?_
  rw [<- hpb,l36]
  repeat' (first|((refine Qa rfl ?_);(refine Q1 ?_);(refine QX rfl rfl ?_))|refine Qh ?_)
  refine a2s ?_
  refine a0t (a0M (id:=8) (k:=1) (es:=pay.map u8A) (e:=5) rfl rfl rfl) ?_
  refine a0t (a0i 0 (Nat.zero_le _) a0T rfl (Nat.zero_le _) (sl':=[(1,.int .i64 (sector:Int)),(5,.sl 1 (pay.map u8A))]) ?_) ?_
  ·refine a0a ⟨rfl,trivial⟩ (a0a ⟨?_,a0h fun _=>a0n⟩ a0k)
   show frz 8 _ _ (.own 8 0 (36+7))=_
   exact a3h (by simp [l43])
  repeat' (first|refine Zs rfl ?_|refine Zc rfl ?_|refine Qa rfl ?_)
  refine Cn rfl (b2L X 3 0 sector pay (by decide) hs (by omega)) rfl rfl ?_
  repeat' (first|refine Zs rfl ?_|refine Zh ?_|refine Qs ?_)
  exact a0c ⟨_,rfl,rfl⟩
 have hpb:pay=b36:=by
  rcases g12 with ⟨_,h1⟩|⟨_,h1|⟨b,h1,_⟩⟩
  ·rw [hfp,h1]
  ·rw [hfp,h1]
  ·rw [h1] at h9;exact absurd (by simp) h9
 rw [hpb]
 refine a2n ?_
 refine a2s ?_
 refine a0t (a0M (id:=7) (k:=1) (es:=b36.map u8A) (e:=5) rfl rfl rfl) ?_
 refine a0t (a0i 0 (Nat.zero_le _) a0T rfl (Nat.zero_le _) (sl':=[(1,.int .i64 (sector:Int)),(5,.sl 1 (b36.map u8A))]) ?_) ?_
 ·refine a0a ⟨rfl,trivial⟩ (a0a ⟨?_,a0h fun _=>a0n⟩ a0k)
  show frz 7 _ _ (.own 7 0 (36))=_
  exact a3h (by simp [l36])
 repeat' (first|refine Zs rfl ?_|refine Zc rfl ?_|refine Qa rfl ?_)
 refine Cn rfl (b2L X 3 0 sector b36 (by decide) hs (by omega)) rfl rfl ?_
 repeat' (first|refine Zs rfl ?_|refine Zh ?_|refine Qs ?_)
 exact a0c ⟨_,rfl,rfl⟩
theorem b7c{E:Env}{N n0:Nat}{H:Hp}{r r':AV}(h:∀m w v,E.Rel m w r v->E.Rel m w r' v):Imp E N n0 ⟨[(0,r)],H⟩ ⟨[(0,r')],H⟩:=fun _ _ _ m w a he hs=>by
 refine ⟨m,he,⟨hs.ok,fun k=>?_,hs.size,hs.defers,hs.sim,hs.glob⟩⟩
 have h1:=hs.slots k
 by_cases hk:k=0
 ·subst hk;exact h _ _ _ h1
 have e:∀x:AV,get [(0,x)] k=.any:=fun x=>by
  match k,hk with
  | 0,hk=>exact absurd rfl hk
  | _+1,_=>rfl
 show Abs.Rel E.cx m w (get [(0,r')] k) _
 rw [e]
 simp [Abs.Rel]
theorem a0b.weakR{E:Env}{f:FuncId}{args:List AV}{H:Hp}{R R':AV->Hp->Prop}(h:a0b E f args H R)(k:∀r H',R r H'->∃r',R' r' H'/\∀m w v,E.Rel m w r v->E.Rel m w r' v):a0b E f args H R' :=
 h.imp fun r H' hr=>by
  obtain ⟨r',h1,h2⟩:=k r H' hr
  exact ⟨r',H',h1,b7c h2⟩
theorem b1m{E:Env}{m:Mu}{w:World}{a b:AV}(h:∀v,E.Rel m w a v->E.Rel m w b v):∀{xs:List AV} {us:List Value},E.RelL m w (xs++[a]) us->E.RelL m w (xs++[b]) us
 | [],us,h1=>by
  obtain ⟨u,r,rfl,h2,h3⟩:=a0l.1 h1
  exact RelL.cons (h _ h2) h3
 | x::xs,us,h1=>by
  obtain ⟨u,r,rfl,h2,h3⟩:=a0l.1 h1
  exact RelL.cons h2 (b1m h h3)
def sbF(s:Sb)(fv:AV):List AV:=[.int .i64 s.gen,.int .i64 s.phase,.int .i64 s.mig,.int .i64 s.tail,.int .i64 s.now,.int .i64 s.t.id,.int .i64 s.t.ver,.int .i64 s.t.rs,.int .i64 s.t.regs,.int .i64 s.h.id,.int .i64 s.h.ver,.int .i64 s.h.rs,.int .i64 s.h.regs,fv]
theorem a6B{E:Env}{m:Mu}{w:World}{s:Sb}{fv:AV}{v:Value}(h:∀v,E.Rel m w fv v->E.Rel m w (.sl 4 (s.fo.map laA)) v)(hr:E.Rel m w (.agg (sbF s fv)) v):E.Rel m w (sbA s) v:=by
 simp only [Env.Rel,Abs.Rel,sbA] at hr ⊢
 obtain ⟨us,rfl,h1⟩:=hr
 refine ⟨us,rfl,?_⟩
 exact b1m (E:=E) (xs:=[.int .i64 s.gen,.int .i64 s.phase,.int .i64 s.mig,.int .i64 s.tail,.int .i64 s.now,.int .i64 s.t.id,.int .i64 s.t.ver,.int .i64 s.t.rs,.int .i64 s.t.regs,.int .i64 s.h.id,.int .i64 s.h.ver,.int .i64 s.h.rs,.int .i64 s.h.regs]) h h1
theorem a6h{E:Env}{m:Mu}{w:World}{a b c:AV}(h:∀v,E.Rel m w a v->E.Rel m w b v)(v:Value)(hr:E.Rel m w (.tup [a,c]) v):E.Rel m w (.tup [b,c]) v:=by
 simp only [Env.Rel,Abs.Rel] at hr ⊢
 obtain ⟨us,rfl,h1⟩:=hr
 obtain ⟨u,r,rfl,h2,h3⟩:=a0l.1 h1
 exact ⟨_,rfl,RelL.cons (h _ h2) h3⟩
def b5K(bs:List UInt8):Sb :=
 ⟨(a0I ((bs.drop 0).take 5):Nat),(a0I ((bs.drop 5).take 1):Nat),(a0I ((bs.drop 6).take 4):Nat),(a0I ((bs.drop 10).take 6):Nat),(a0I ((bs.drop 16).take 5):Nat),a8q bs 21,a8q bs 28,
  if a0I ((bs.drop 35).take 1)=1 then [a8q bs 28] else if a0I ((bs.drop 35).take 1)=2 then [a8q bs 28,a8q bs 36] else []⟩
def a4u:Sb:=⟨0,0,0,0,0,⟨0,0,0,0⟩,⟨0,0,0,0⟩,[]⟩
def b5J(o:Option Sb):AV:=match o with
 | some p=>.tup [sbA p,.bool true]
 | none=>.tup [sbA a4u,.bool false]
def a7v(b:List UInt8)(sector:Nat):Option Sb:=match a2M 3 0 sector b with
 | none=>none
 | some pay=>if a3W (b5K pay) sector=some b then some (b5K pay) else none
theorem b0k{E:Env}(m:Mu)(w:World)(v:Value)(h:E.Rel m w .nils v):E.Rel m w (.sl 4 (([]:List La).map laA)) v:=a2Y 4 h
theorem b7w{E:Env}{m:Mu}{w:World}(v:Value)(h:E.Rel m w (.tup [.agg (sbF a4u .nils),.bool false]) v):E.Rel m w (b5J none) v :=
 a6h (fun v h=>a6B (s:=a4u) (b0k m w) h) v h
theorem c7B(X:Nat->Prop)(bs:List UInt8)(lo w:Nat)(hw:1<=w)(hw6:w<=6)(h:lo+w<=bs.length)(hb:bs.length<=1000) :
  a0b (E0 X) 151 [.int .i64 (w:Int),.fp [.ptr 1 0]] (a2z bs lo) (fun r H'=>r=.int .i64 (a0I ((bs.drop lo).take w):Int)/\H'=a2z bs (lo+w)):=by
 have s1:=a0Z (bs:=bs) (lo:=lo) (w:=w) hw6
 have c1:=b7x X bs lo w hw (by omega) h hb
 generalize a0I ((bs.drop lo).take w)=n at *
 refine Z0 Proofs.Tryz.func151 rfl Proofs.Tryz.ntmps151 (by kernel_rfl) rfl ?_
 repeat' (first|refine Zs rfl ?_|refine Zc rfl ?_|refine Qa rfl ?_)
 refine Cn rfl (c1) rfl rfl ?_
 repeat' (first|refine Zs rfl ?_|refine Zh ?_|refine Qs ?_)
 refine a0c ⟨_,rfl,?_,?_⟩
 ·exact congrArg (AV.int .i64) (a3w s1)
 ·rfl
theorem a6G(X:Nat->Prop)(bs:List UInt8)(lo w:Nat)(hw:1<=w)(hw6:w<=6)(h:lo+w<=bs.length)(hb:bs.length<=1000)(L R:Hp)(s:Nat)(hs:L.length=s) :
  a0b (E0 X) 151 [.int .i64 (w:Int),.fp [.ptr (1+s) 0]] (L++a7p bs s lo++R) (fun r H'=>r=.int .i64 (a0I ((bs.drop lo).take w):Int)/\H'=L++a7p bs s (lo+w)++R):=by
 subst hs
 have hm:∀lo,a1U (sh L.length R.length 2) (a2z bs lo)=a7p bs L.length lo:=fun lo=>a3k _ 0 L.length bs lo (by simp [sh])
 refine a0b.conv (a0b.frameLR (E:=E0 X) (fun X=>c7B X bs lo w hw hw6 h hb) L R (a5d bs lo) ⟨trivial,⟨by simp [a0g,a2z],trivial⟩,trivial⟩ (a3Z bs lo)) ?_ (by rw [show (a2z bs lo).length=2 from rfl,hm]) ?_
 ·simp [rnL,rnA,sh,a2z]
 rintro q H' ⟨r1,h',⟨rfl,rfl⟩,-,rfl,rfl⟩
 refine ⟨rfl,?_⟩
 show L++a1U (sh L.length R.length 2) (a2z bs (lo+w))++R++[]=_
 rw [hm,List.append_nil]
theorem c7G(X:Nat->Prop)(s:Sb)(fv:AV)(hfv:∀m w v,(E0 X).Rel m w fv v->(E0 X).Rel m w (.sl 4 (s.fo.map laA)) v)(sector:Nat)(hs:sector<1048576)(hfl:s.fo.length<=4611686018427387904) :
  a0b (E0 X) 142 [.agg (sbF s fv),.int .i64 (sector:Int)] [] (fun r H'=>r=(match a3W s sector with|some e=>.tup [.sl 1 (e.map u8A),.int .i64 0]|none=>.tup [.nils,.int .i64 4])/\H'=[]) :=
 a0b.weak (c7F X s sector hs hfl) fun m w vs h=>by
  obtain ⟨u1,r1,rfl,h1,h⟩:=a0l.1 h
  exact RelL.cons (a6B (hfv m w) h1) h
theorem c9b{n:Nat}(h:n<=1099511627775):a0I [a0j n 32,a0j n 24,a0j n 16,a0j n 8,a0j n 0]=n:=by
 simp only [a0I,List.foldl_cons,List.foldl_nil,a3H]
 have e1:(2:Nat) ^ 24=16777216:=by decide
 have e2:(2:Nat) ^ 16=65536:=by decide
 have e3:(2:Nat) ^ 8=256:=by decide
 have e4:(2:Nat) ^ 32=4294967296:=by decide
 rw [e1,e2,e3,e4]
 omega
def c9e(x0 x1 x2 x3 x4 x5 x6:UInt8):La :=
 ⟨(a0I [x0,x1,x2,x3]:Nat),(a0I [x4]:Nat),if 0<a0I [x0,x1,x2,x3] then ((2 ^ min (a0I [x5]) 30:Nat):Int) else 0,(a0I [x6]:Nat)⟩
def c0W(l:La):La:=c9e (a0j l.id.toNat 24) (a0j l.id.toNat 16) (a0j l.id.toNat 8) (a0j l.id.toNat 0) (UInt8.ofNat (l.ver.toNat%256)) (UInt8.ofNat ((a5f l.rs.toNat - 1)%256)) (UInt8.ofNat (l.regs.toNat%256))
def rdY(l:La):La:=rdL (a0j l.id.toNat 24) (a0j l.id.toNat 16) (a0j l.id.toNat 8) (a0j l.id.toNat 0) (UInt8.ofNat (l.ver.toNat%256)) (UInt8.ofNat ((a5f l.rs.toNat - 1)%256)) (UInt8.ofNat (l.regs.toNat%256))
theorem a7y{l:La}(hf:a1f l=true):c0W l=l/\rdY l=l:=by
 obtain ⟨id,ver,rs,regs⟩:=l
 simp only [a1f,Bool.and_eq_true,Bool.or_eq_true,decide_eq_true_eq] at hf
 obtain ⟨f1,f2,f3,f4,f5,f6,f7,f8⟩:=hf
 have hrs:=b2P ⟨f4,f5⟩ f6
 have hrs2:=b1s ⟨f4,f5⟩ f6
 have h10:a5f rs.toNat - 1=(a5f rs.toNat - 1)%256:=by have:=hrs.2;omega
 refine ⟨?_,?_⟩
 ·unfold c0W c9e
  dsimp only
  rw [b9C (by omega),b1P (by omega),b1P hrs.2,b1P (by omega),if_pos (by omega),h10,hrs.1]
  simp only [La.mk.injEq]
  exact ⟨by omega,by omega,trivial,by omega⟩
 unfold rdY rdL
 dsimp only
 rw [b9C (by omega),a4j (by omega),a4j hrs.2,a4j (by omega),if_neg (by omega),h10,hrs2]
 simp only [La.mk.injEq]
 exact ⟨by omega,by omega,trivial,by omega⟩
theorem c0C:c0W ⟨0,0,0,0⟩=⟨0,0,0,0⟩/\rdY ⟨0,0,0,0⟩=⟨0,0,0,0⟩:=⟨by kernel_rfl,by kernel_rfl⟩
def c5P(l:La)(z:List UInt8):List UInt8:=a0j l.id.toNat 24::a0j l.id.toNat 16::a0j l.id.toNat 8::a0j l.id.toNat 0::UInt8.ofNat (l.ver.toNat%256)::UInt8.ofNat ((a5f l.rs.toNat - 1)%256)::UInt8.ofNat (l.regs.toNat%256)::z
def a8r(s:Sb)(z:List UInt8):List UInt8:=a0j s.gen.toNat 32::a0j s.gen.toNat 24::a0j s.gen.toNat 16::a0j s.gen.toNat 8::a0j s.gen.toNat 0::UInt8.ofNat (s.phase.toNat%256) ::
 a0j s.mig.toNat 24::a0j s.mig.toNat 16::a0j s.mig.toNat 8::a0j s.mig.toNat 0 ::
 a0j s.tail.toNat 40::a0j s.tail.toNat 32::a0j s.tail.toNat 24::a0j s.tail.toNat 16::a0j s.tail.toNat 8::a0j s.tail.toNat 0 ::
 a0j s.now.toNat 32::a0j s.now.toNat 24::a0j s.now.toNat 16::a0j s.now.toNat 8::a0j s.now.toNat 0::c5P s.t (c5P s.h (UInt8.ofNat (s.fo.length%256)::z))
theorem c2J(s:Sb)(z:List UInt8):p36 s++z=a8r s z:=rfl
theorem c4q(s:Sb)(f:La)(z:List UInt8):a3p (p36 s) f++z=a8r s (c5P f z):=rfl
def b0r(bs:List UInt8):Sb :=
 ⟨(a0I ((bs.drop 0).take 5):Nat),((bs[5]?.getD 0).toNat:Nat),(a0I ((bs.drop 6).take 4):Nat),(a0I ((bs.drop 10).take 6):Nat),(a0I ((bs.drop 16).take 5):Nat),rdV ((bs.drop 21).take 7),rdV ((bs.drop 28).take 7),
  if 1<=(bs[35]?.getD 0).toNat then (if 2<=(bs[35]?.getD 0).toNat then [rdV ((bs.drop 28).take 7),rdV ((bs.drop 36).take 7)] else [rdV ((bs.drop 28).take 7)]) else []⟩
theorem c8M(s:Sb)(z:List UInt8):b5K (a8r s z)=⟨(a0I [a0j s.gen.toNat 32,a0j s.gen.toNat 24,a0j s.gen.toNat 16,a0j s.gen.toNat 8,a0j s.gen.toNat 0]:Nat),(a0I [UInt8.ofNat (s.phase.toNat%256)]:Nat),
  (a0I [a0j s.mig.toNat 24,a0j s.mig.toNat 16,a0j s.mig.toNat 8,a0j s.mig.toNat 0]:Nat),(a0I [a0j s.tail.toNat 40,a0j s.tail.toNat 32,a0j s.tail.toNat 24,a0j s.tail.toNat 16,a0j s.tail.toNat 8,a0j s.tail.toNat 0]:Nat),
  (a0I [a0j s.now.toNat 32,a0j s.now.toNat 24,a0j s.now.toNat 16,a0j s.now.toNat 8,a0j s.now.toNat 0]:Nat),c0W s.t,c0W s.h,
  if a0I [UInt8.ofNat (s.fo.length%256)]=1 then [c0W s.h] else if a0I [UInt8.ofNat (s.fo.length%256)]=2 then [c0W s.h,a8q (a8r s z) 36] else []⟩:=rfl
theorem c7x(s:Sb)(z:List UInt8):b0r (a8r s z)=⟨(a0I [a0j s.gen.toNat 32,a0j s.gen.toNat 24,a0j s.gen.toNat 16,a0j s.gen.toNat 8,a0j s.gen.toNat 0]:Nat),((UInt8.ofNat (s.phase.toNat%256)).toNat:Nat),
  (a0I [a0j s.mig.toNat 24,a0j s.mig.toNat 16,a0j s.mig.toNat 8,a0j s.mig.toNat 0]:Nat),(a0I [a0j s.tail.toNat 40,a0j s.tail.toNat 32,a0j s.tail.toNat 24,a0j s.tail.toNat 16,a0j s.tail.toNat 8,a0j s.tail.toNat 0]:Nat),
  (a0I [a0j s.now.toNat 32,a0j s.now.toNat 24,a0j s.now.toNat 16,a0j s.now.toNat 8,a0j s.now.toNat 0]:Nat),rdY s.t,rdY s.h,
  if 1<=(UInt8.ofNat (s.fo.length%256)).toNat then (if 2<=(UInt8.ofNat (s.fo.length%256)).toNat then [rdY s.h,rdV (((a8r s z).drop 36).take 7)] else [rdY s.h]) else []⟩:=rfl
theorem c4t(s:Sb)(f:La)(z:List UInt8):a8q (a8r s (c5P f z)) 36=c0W f:=rfl
theorem c1p(s:Sb)(f:La)(z:List UInt8):rdV (((a8r s (c5P f z)).drop 36).take 7)=rdY f:=rfl
theorem b4f{s:Sb}(hv:sbB s=true)(z:List UInt8):b5K (a7o s++z)=s/\b0r (a7o s++z)=s:=by
 have hok:=b8E hv
 obtain ⟨g,ph,mg,tl,nw,ht,hh⟩:=hok
 have htl:=a7y ht
 have key:∀y,a7o s++z=a8r s y->c0W s.h=s.h/\rdY s.h=s.h ->
   ((if s.fo.length=1 then [s.h] else if s.fo.length=2 then [s.h,a8q (a8r s y) 36] else [])=s.fo) ->
   ((if 1<=s.fo.length then (if 2<=s.fo.length then [s.h,rdV (((a8r s y).drop 36).take 7)] else [s.h]) else [])=s.fo)->s.fo.length<=255 ->
   b5K (a7o s++z)=s/\b0r (a7o s++z)=s:=by
  intro y hy hhb h1 h2 hfl
  rw [hy,c8M,c7x,c9b (by omega),b1P (by omega),b9C (by omega),c6T (by omega),c9b (by omega),a4j (by omega),b1P hfl,a4j hfl,htl.1,htl.2,hhb.1,hhb.2,h1,h2]
  obtain ⟨a,b,c,d,e,t,h,f⟩:=s
  simp only [Sb.mk.injEq]
  simp only at g ph mg tl nw
  refine ⟨⟨?_,?_,?_,?_,?_,trivial,trivial,trivial⟩,?_,?_,?_,?_,?_,trivial,trivial,trivial⟩<;>omega
 rcases hh with ⟨h1,h2⟩|⟨h1,h2|⟨b,h2,h3⟩⟩
 ·refine key z ?_ (by rw [h1];exact c0C) (by rw [h2];rfl) (by rw [h2];rfl) (by rw [h2];simp)
  have:a7o s=p36 s:=by unfold a7o;rw [h2]
  rw [this];exact c2J s z
 ·refine key z ?_ (a7y h1) (by rw [h2];rfl) (by rw [h2];rfl) (by rw [h2];simp)
  have:a7o s=p36 s:=by unfold a7o;rw [h2]
  rw [this];exact c2J s z
 have hb:=a7y h3
 refine key (c5P b z) ?_ (a7y h1) ?_ ?_ (by rw [h2];simp)
 ·have:a7o s=a3p (p36 s) b:=by unfold a7o;rw [h2]
  rw [this];exact c4q s b z
 ·rw [c4t,hb.1,h2];rfl
 ·rw [c1p,hb.2,h2];rfl
theorem b6r{s:Sb}(hv:sbB s=true)(k:Nat):a7v (encS s k) k=some s:=by
 have hl:=a6c s
 have h1:a2M 3 0 k (encS s k)=some (a7o s++List.replicate (59 - (a7o s).length) 0):=a3I (by omega)
 unfold a7v
 rw [h1]
 simp only
 rw [(b4f hv _).1]
 have h2:a3W s k=some (encS s k):=by
  unfold a3W
  rw [if_pos hv]
 rw [if_pos h2]
theorem a6s{b:List UInt8}{k:Nat}{s:Sb}(h:a7v b k=some s):sbB s=true/\encS s k=b:=by
 unfold a7v at h
 split at h
 ·cases h
 rename_i pay _
 split at h
 ·rename_i h2
  injection h with h
  rw [h] at h2
  unfold a3W at h2
  split at h2
  ·rename_i h3
   exact ⟨h3,by injection h2⟩
  ·cases h2
 ·cases h
theorem a7W(k:Nat):a7v (List.replicate 64 0) k=none:=by
 have h:a2M 3 0 k (List.replicate 64 0)=none:=by
  unfold a2M
  rw [if_neg]
  rintro ⟨_,h2⟩
  have h3:=congrArg (fun l=>l[0]?) h2
  have e:∀p,(a3Q 3 0 k p)[0]?=some 3:=fun p=>rfl
  simp only [e] at h3
  exact absurd h3 (by decide)
 unfold a7v
 rw [h]
end Go.Abs
