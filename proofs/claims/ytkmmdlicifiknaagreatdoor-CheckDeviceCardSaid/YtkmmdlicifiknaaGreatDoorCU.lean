/- check.regions: the iterator as a value. Joined texts, each with what its own name promises; no condition beyond those stated. -/
import Derived.Test.YtkmmdlicifiknaaGreatDoorCQ
import Derived.Test.YtkmmdlicifiknaaGreatDoorCC
import Derived.Test.YtkmmdlicifiknaaGreatDoorCT
import Derived.Test.YtkmmdlicifiknaaGreatDoorCR
set_option maxHeartbeats 0
set_option maxRecDepth 100000
set_option linter.all false
namespace Go.Abs
def c6l(ls:List La):AV:=.clo (.func 143) [] [.fp [.sl 4 (ls.map laA)],b4Z]
attribute [local irreducible] a0z a1p AWp Nx awM
theorem b7k(X:Nat->Prop)(v:Dv)(ls:List La):a0b (E0 X) 98 [.ptr 0 0,.sl 4 (ls.map laA)] (a0K v) (fun r H'=>r=c6l ls/\H'=a0K v):=by
 refine Z0 Proofs.Tryz.func98 rfl Proofs.Tryz.ntmps98 (by kernel_rfl) rfl ?_
 refine Zc rfl (Zc rfl (Zs rfl (Zs rfl (Zs rfl (Zh ?_)))))
 refine a0t ((a0w (id:=3) (cs:=[.ptr 0 0]) rfl).trans ((a0w (id:=4) (cs:=[.sl 4 (ls.map laA)]) rfl).trans (kk 3 (a1n v) rfl (sl':=[(2,b4Z),(3,.fp [.sl 4 (ls.map laA)])]) ⟨a3j (Nat.zero_lt_succ 2),⟨a1w ls,trivial⟩,trivial⟩))) ?_
 repeat' (first|refine Zs rfl ?_|refine Zc rfl ?_|refine Zd rfl ?_|refine Qh ?_|refine Qk ?_|refine Zk ?_|refine Qw (by kernel_rfl) ?_|refine Zt rfl ?_)
 refine a0c ⟨_,rfl,⟨rfl,rfl⟩⟩
theorem b4H(X:Nat->Prop)(v:Dv)(ls:List La)(R:Hp):a0b (E0 X) 98 [.ptr 0 0,.sl 4 (ls.map laA)] (a0K v++R) (fun r H'=>r=c6l ls/\H'=a0K v++R):=by
 refine a0b.conv (a0b.frameLR (E:=E0 X) (fun Y=>b7k Y v ls) [] R (a9J v) ⟨Nat.zero_lt_succ 2,a1w ls,trivial⟩ (a1n v)) ?_ (by rw [show (a0K v).length=3 from rfl,a2X];rfl) ?_
 ·show rnA _ (.ptr 0 0)::rnA _ (.sl 4 (ls.map laA))::[]=_
  rw [a2h (.sl 4 (ls.map laA)) (a1w ls:a0e 0 _)]
  rfl
 rintro r H' ⟨r1,h',⟨rfl,rfl⟩,-,rfl,rfl⟩
 refine ⟨?_,?_⟩
 ·show AV.clo _ _ (rnL _ [.fp [.sl 4 (ls.map laA)],b4Z])=_
  have h:∀ σ,rnA σ (.fp [.sl 4 (ls.map laA)])=.fp [.sl 4 (ls.map laA)]:=fun σ=>a2h (.fp [.sl 4 (ls.map laA)]) (⟨a1w ls,trivial⟩:a0e 0 [AV.sl 4 (ls.map laA)])
  show AV.clo _ _ (rnA _ (.fp [.sl 4 (ls.map laA)])::rnA _ b4Z::[])=_
  rw [h];rfl
 ·show []++a1T (sh 0 R.length 3) (a0K v)++R++[]=_
  rw [a2X,List.append_nil];rfl
def b2t(s:Sb)(cs:List Rg)(pl:List Pl):Int:=mxL (mxL s.tail (cs.map (·.h.tail))) (pl.map (·.tail))
def a3F(v:Dv)(s:Sb):List Rg:=a3J (a1Z v) (a0W s)
def a1N(T:Int)(cs:List Rg):List Rg:=cs.filter fun r=>decide (T<=r.h.seq)
def a7A(v:Dv):AV:=match a2c v with
 | none=>.tup [.nils,.nils,.int .i64 4]
 | some s=>cond ((a0W s).any (nfB v)) (.tup [.nils,.nils,.int .i64 4]) (.tup [.sl 10 ((a3F v s).map rgA),.sl 10 ((a1N (b2t s (a3F v s) (b8z s (a7k v s.mig))) (a3F v s)).map rgA),.int .i64 0])
theorem b6d(v:Dv):HOk 4 (a0K v++[some (.cells [.nils] 49)]):=fun j o' ho=>by
 match j,ho with
 | 0,ho=>cases ho;exact ⟨by simp [a0d],by simp [a0d],trivial,trivial,trivial,trivial⟩
 | 1,ho=>cases ho;exact a0h fun _=>a0k
 | 2,ho=>cases ho;exact ⟨by rw [List.map_map];exact a0h fun _=>trivial,by rw [List.map_map];exact a0h fun p=>(a0h (f:=u8A) fun _=>a0k:a0e _ (p.2.map u8A))⟩
 | 3,ho=>cases ho;exact ⟨trivial,trivial⟩
theorem b5P(v:Dv){n:Nat}:a0d n (a7A v):=by
 unfold a7A
 cases a2c v with
 | none=>exact ⟨trivial,trivial,trivial,trivial⟩
 | some s =>
  show a0d n (cond _ _ _)
  cases (a0W s).any (nfB v) with
  | true=>exact ⟨trivial,trivial,trivial,trivial⟩
  | false=>exact ⟨a1d _,a1d _,trivial,trivial⟩
theorem b8H{E:Env}{N n0:Nat}{Q Q2 QD:Exit->St->Prop}{s:St}{c c2:Code}{ι:Type}(σ:ι->St)(I:ι->Prop)(h1:AWp E N n0 c (a5W (fun s'=>∃i,I i/\Imp E N n0 s' (σ i)) Q) s)(h2:∀i,I i->b4X E N n0 c2 Q2 QD (σ i)) :
  AWp E N n0 c (a5W (b4X E N n0 c2 Q2 QD) Q) s :=
 a2L h1 fun e s' h=>by
  cases e with
  | normal=>obtain ⟨i,hi,im⟩:=h;exact a6Y im (h2 i hi)
  | _=>exact h
theorem a7F(v:Dv)(t:Int):HOk 5 (a0K v++[some (.cells [.nils] 49),some (.cells [.int .i64 t] 3)]):=fun j o' ho=>by
 match j,ho with
 | 0,ho=>cases ho;exact ⟨by simp [a0d],by simp [a0d],trivial,trivial,trivial,trivial⟩
 | 1,ho=>cases ho;exact a0h fun _=>a0k
 | 2,ho=>cases ho;exact ⟨by rw [List.map_map];exact a0h fun _=>trivial,by rw [List.map_map];exact a0h fun p=>(a0h (f:=u8A) fun _=>a0k:a0e _ (p.2.map u8A))⟩
 | 3,ho=>cases ho;exact ⟨trivial,trivial⟩
 | 4,ho=>cases ho;exact ⟨trivial,trivial⟩
def itR(t0:Int)(out:List Rg):Hp:=[some (.cells [.own 5 0 out.length] 49),some (.cells [.int .i64 (mxL t0 (out.map (·.h.tail)))] 3),some (.arr (out.map rgA) 63)]
theorem a8v(v:Dv)(t0:Int)(out:List Rg):HOk 6 (a0K v++itR t0 out):=fun j o' ho=>by
 match j,ho with
 | 0,ho=>cases ho;exact ⟨by simp [a0d],by simp [a0d],trivial,trivial,trivial,trivial⟩
 | 1,ho=>cases ho;exact a0h fun _=>a0k
 | 2,ho=>cases ho;exact ⟨by rw [List.map_map];exact a0h fun _=>trivial,by rw [List.map_map];exact a0h fun p=>(a0h (f:=u8A) fun _=>a0k:a0e _ (p.2.map u8A))⟩
 | 3,ho=>cases ho;exact ⟨Nat.lt_succ_self 5,trivial⟩
 | 4,ho=>cases ho;exact ⟨trivial,trivial⟩
 | 5,ho=>cases ho;exact a1d out
theorem c2c(a:Int)(l:List Int)(x:Int):mxL a (l++[x])=max (mxL a l) x:=by unfold mxL;rw [List.foldl_append];rfl
theorem a2p{n:Nat}(h:Hd):a0d n (.fp (hdL h)):=⟨trivial,trivial,trivial,trivial,trivial,trivial,trivial⟩
theorem c4C{v:Dv}{f:Nat->Option Nat}{hp P:Hp}(h:(hp[0]?,hp[1]?,hp[2]?)=((a0K v)[0]?,(a0K v)[1]?,(a0K v)[2]?))(hf:∀i,i<3->f i=some i)(hP:b4b hp f 3 P):b4b hp f 0 (a0K v++P):=by
 simp only [Prod.mk.injEq] at h
 exact ⟨⟨_,h.1,a0A 3 hf (a1n v 0 _ rfl)⟩,⟨_,h.2.1,a0A 3 hf (a1n v 1 _ rfl)⟩,⟨_,h.2.2,a0A 3 hf (a1n v 2 _ rfl)⟩,hP⟩
theorem lt3{f:Nat->Option Nat}(h0:f 0=some 0)(h1:f 1=some 1)(h2:f 2=some 2):∀i,i<3->f i=some i:=fun i h=>by
 match i,h with
 | 0,_=>exact h0
 | 1,_=>exact h1
 | 2,_=>exact h2
theorem b2D{E:Env}{N n0:Nat}{Q Q2:Exit->St->Prop}{s:St}{c c2:Code}{ι:Type}(σ:ι->St)(I:ι->Prop)(h1:a7p E N n0 c (a5W (fun s'=>∃i,I i/\c0u E N n0 s' (σ i)) Q) s)(h2:∀i,I i->a7p E N n0 c2 Q2 (σ i)) :
  a7p E N n0 c (a5W (a7p E N n0 c2 Q2) Q) s :=
 b5n h1 fun e s' h=>by
  cases e with
  | normal=>obtain ⟨i,hi,im⟩:=h;exact a8P im (h2 i hi)
  | _=>exact h
def fdR(cs:List Rg)(t:Int):Hp:=[some (.cells [.sl 10 (cs.map rgA)] 49),some (.cells [.int .i64 t] 3)]
theorem a7E(v:Dv)(cs:List Rg)(t:Int):HOk 5 (a0K v++fdR cs t):=fun j o' ho=>by
 match j,ho with
 | 0,ho=>cases ho;exact ⟨by simp [a0d],by simp [a0d],trivial,trivial,trivial,trivial⟩
 | 1,ho=>cases ho;exact a0h fun _=>a0k
 | 2,ho=>cases ho;exact ⟨by rw [List.map_map];exact a0h fun _=>trivial,by rw [List.map_map];exact a0h fun p=>(a0h (f:=u8A) fun _=>a0k:a0e _ (p.2.map u8A))⟩
 | 3,ho=>cases ho;exact ⟨a1d cs,trivial⟩
 | 4,ho=>cases ho;exact ⟨trivial,trivial⟩
def lvR(cs:List Rg)(t:Int)(out:List Rg):Hp:=fdR cs t++[some (.arr (out.map rgA) 63)]
theorem b1C(v:Dv)(cs:List Rg)(t:Int)(out:List Rg):HOk 6 (a0K v++lvR cs t out):=fun j o' ho=>by
 match j,ho with
 | 0,ho=>cases ho;exact ⟨by simp [a0d],by simp [a0d],trivial,trivial,trivial,trivial⟩
 | 1,ho=>cases ho;exact a0h fun _=>a0k
 | 2,ho=>cases ho;exact ⟨by rw [List.map_map];exact a0h fun _=>trivial,by rw [List.map_map];exact a0h fun p=>(a0h (f:=u8A) fun _=>a0k:a0e _ (p.2.map u8A))⟩
 | 3,ho=>cases ho;exact ⟨a1d cs,trivial⟩
 | 4,ho=>cases ho;exact ⟨trivial,trivial⟩
 | 5,ho=>cases ho;exact a1d out
theorem a8z{T:Int}{cs:List Rg}{i:Nat}{r:Rg}(h:cs[i]?=some r):a1N T (cs.take (i+1))=a1N T (cs.take i)++(if T<=r.h.seq then [r] else []):=by
 obtain ⟨hi,rfl⟩:=List.getElem?_eq_some_iff.1 h
 unfold a1N
 rw [List.take_succ_eq_append_getElem hi,List.filter_append]
 congr 1
 by_cases h:T<=cs[i].h.seq<;>simp [h]
theorem b5V(id k:Nat)(es:List AV):frz id k es (.own id 0 es.length)=.sl k es:=by
 show (if id=id/\0+es.length<=es.length then AV.sl k ((es.drop 0).take es.length) else _)=_
 rw [if_pos ⟨rfl,by omega⟩,List.drop_zero,List.take_length]
theorem b8F{α:Type}{f:α->Bool}{l:List α}{i:Nat}{x:α}(h:l[i]?=some x)(h0:(l.take i).any f=false)(hf:f x=false):(l.take (i+1)).any f=false:=by
 obtain ⟨hi,rfl⟩:=List.getElem?_eq_some_iff.1 h
 rw [List.take_succ_eq_append_getElem hi,List.any_append,h0]
 simp [hf]
theorem b5x(X:Nat->Prop)(v:Dv)(L:Nat)(hv:Lv L v)(hL:L<=20000):a0b (E0 X) 46 [.ptr 0 0] (a0K v) (fun r H'=>r=a7A v/\H'=a0K v):=by
 have hdc:∀Y,a0b (E0 Y) 55 [.ptr 0 0] (a0K v) (fun r H'=>r=.bool false/\H'=a0K v):=fun Y=>by
  have h:=c0E Y v
  rw [hv.dead] at h
  exact h
 have hlv:v.image.length<=1073741824:=by rw [hv.len];omega
 have hsc:∀Y,a0b (E0 Y) 60 [.ptr 0 0] (a0K v) (fun r H'=>r=.int .i64 ((v.image.length / 64:Nat):Int)/\H'=a0K v):=fun Y=>by
  have h:=a8b Y v
  rw [a8a hlv] at h
  exact h
 refine a0b.cutD ?_ (b5P v)
 refine b4c Proofs.Tryz.func46 rfl Proofs.Tryz.ntmps46 (by kernel_rfl) rfl fun _ _=>?_
 refine a2u (a3I ?_)
 repeat' (first|refine Zs rfl ?_|refine Zc rfl ?_|refine Zd rfl ?_|refine Qh ?_|refine Qk ?_|refine Zk ?_|refine Qw (by kernel_rfl) ?_|refine Zt rfl ?_)
 refine Zh ?_
 refine a6Y ?_ (s':=⟨[(0,.ptr 0 0),(2,.ptr 3 0),(3,.nils),(4,.int .i64 0)],a0K v++[some (.cells [.nils] 49)]⟩) ?_
 ·exact kk 4 (b6d v) rfl ⟨Nat.zero_lt_succ 3,Nat.lt_succ_self 3,trivial,trivial,trivial⟩
 refine a2u (a3I ?_)
 repeat' (first|refine Zs rfl ?_|refine Zc rfl ?_|refine Zd rfl ?_|refine Qh ?_|refine Qk ?_|refine Zk ?_|refine Qw (by kernel_rfl) ?_|refine Zt rfl ?_)
 refine Zf rfl rfl (a2U hdc trivial trivial [some (.cells [.nils] 49)] (X:=X)) rfl rfl rfl ?_
 repeat' (first|refine Zs rfl ?_|refine Zc rfl ?_|refine Zd rfl ?_|refine Qh ?_|refine Qk ?_|refine Zk ?_|refine Qw (by kernel_rfl) ?_|refine Zt rfl ?_)
 refine a2u (a3I ?_)
 repeat' (first|refine Zs rfl ?_|refine Zc rfl ?_|refine Zd rfl ?_|refine Qh ?_|refine Qk ?_|refine Zk ?_|refine Qw (by kernel_rfl) ?_|refine Zt rfl ?_)
 have hsl:∀Y,a0b (E0 Y) 56 [.ptr 0 0] (a0K v) (fun r H'=>r=b5e (a2c v)/\H'=a0K v):=fun Y=>c3e Y v hv.inv
 cases ho:a2c v with
 | none =>
  have hr:a7A v=.tup [.nils,.nils,.int .i64 4]:=by unfold a7A;rw [ho]
  rw [ho] at hsl
  refine Zf rfl rfl (a2U hsl trivial ⟨a1J,trivial,trivial⟩ [some (.cells [.nils] 49)] (X:=X)) rfl rfl rfl ?_
  repeat' (first|refine Zs rfl ?_|refine Zc rfl ?_|refine Zd rfl ?_|refine Qh ?_|refine Qk ?_|refine Zk ?_|refine Qw (by kernel_rfl) ?_|refine Zt rfl ?_)
  refine Zh ?_
  refine a2u (a3I ?_)
  repeat' (first|refine Zs rfl ?_|refine Zc rfl ?_|refine Zd rfl ?_|refine Qh ?_|refine Qk ?_|refine Zk ?_|refine Qw (by kernel_rfl) ?_|refine Zt rfl ?_)
  refine Zh ?_
  repeat' (first|refine Zs rfl ?_|refine Zc rfl ?_|refine Zd rfl ?_|refine Qh ?_|refine Qk ?_|refine Zk ?_|refine Qw (by kernel_rfl) ?_|refine Zt rfl ?_)
  refine a0c ⟨_,rfl,⟨hr.symm,rfl⟩⟩
 | some s =>
  rw [ho] at hsl
  refine Zf rfl rfl (a2U hsl trivial ⟨a1J,trivial,trivial⟩ [some (.cells [.nils] 49)] (X:=X)) rfl rfl rfl ?_
  repeat' (first|refine Zs rfl ?_|refine Zc rfl ?_|refine Zd rfl ?_|refine Qh ?_|refine Qk ?_|refine Zk ?_|refine Qw (by kernel_rfl) ?_|refine Zt rfl ?_)
  have hsb:=a5D ho
  obtain ⟨hlf,hln,hl2⟩:=a7I hsb
  have hsi:∀{n},a0d n (.fp (sbL s)):=a5h s
  refine Zh (a6Y ((a0w (id:=4) (cs:=sbL s) rfl).trans (kk 4 (b6d v) rfl (sl':=[(0,.ptr 0 0),(2,.ptr 3 0),(3,.nils),(5,.fp (sbL s)),(6,.bool true)]) ⟨Nat.zero_lt_succ 3,Nat.lt_succ_self 3,trivial,hsi,trivial,trivial⟩)) ?_)
  refine a2u (a3I ?_)
  repeat' (first|refine Zs rfl ?_|refine Zc rfl ?_|refine Zd rfl ?_|refine Qh ?_|refine Qk ?_|refine Zk ?_|refine Qw (by kernel_rfl) ?_|refine Zt rfl ?_)
  refine a2u (a3I ?_)
  repeat' (first|refine Zs rfl ?_|refine Zc rfl ?_|refine Zd rfl ?_|refine Qh ?_|refine Qk ?_|refine Zk ?_|refine Qw (by kernel_rfl) ?_|refine Zt rfl ?_)
  refine a2u (a3I ?_)
  refine Zc rfl (Zs rfl (Zs rfl (Qa rfl ?_)))
  refine a1o rfl rfl rfl rfl rfl rfl rfl (.inl rfl) rfl (.inl rfl) ?_
  first|refine nx rfl rfl ?_|refine nx0 ?_
  repeat' (first|refine Zs rfl ?_|refine Zc rfl ?_|refine Zd rfl ?_|refine Qh ?_|refine Qk ?_|refine Zk ?_|refine Qw (by kernel_rfl) ?_|refine Zt rfl ?_)
  refine Qa rfl ?_
  have hl1:[laA s.t]++s.fo.map laA=(a0W s).map laA:=rfl
  have hll:(a0W s).length=s.fo.length+1:=rfl
  have hl2':[laA s.t].length+(s.fo.map laA).length=(a0W s).length:=by simp only [List.length_map,List.length_cons,List.length_nil];omega
  have hl3:(a0W s).length<=1001:=by omega
  have hone:a2R (s.fo.map laA):=fun y hy=>by
   obtain ⟨b,_,rfl⟩:=List.mem_map.1 hy;exact ⟨rfl,rfl⟩
  refine a0V (oid:=some 5) (es:=[laA s.t]) (out:=(a0W s).map laA) (n:=(a0W s).length) (a0M rfl rfl) (rfl) (hone) (hl1) (hl2') (by show _<=9223372036854775807;omega) (by show _*32<=_;omega) rfl rfl rfl rfl rfl rfl rfl rfl ?_
  first|refine nx rfl rfl ?_|refine nx0 ?_
  repeat' (first|refine Zs rfl ?_|refine Zc rfl ?_|refine Zd rfl ?_|refine Qh ?_|refine Qk ?_|refine Zk ?_|refine Qw (by kernel_rfl) ?_|refine Zt rfl ?_)
  have hly:∀{n},a0e n ((a0W s).map laA):=a1w _
  have hlm:(a0W s).length=((a0W s).map laA).length:=(List.length_map _).symm
  rw [hlm]
  refine Zh (a6Y ((a0N (id:=6) (k:=4) (es:=(a0W s).map laA) (e:=23) rfl rfl (by kernel_rfl)).trans (a0j 5 (Nat.le_of_ble_eq_true rfl) (a7F v s.tail) rfl (Nat.le_of_ble_eq_true rfl)
   (sl':=[(0,.ptr 0 0),(2,.ptr 3 0),(3,.nils),(5,.fp (sbL s)),(7,.ptr 4 0),(8,.sl 4 ((a0W s).map laA))]) ?_)) ?_)
  ·exact a0a ⟨rfl,by simp [a0d]⟩ (a0a ⟨rfl,by simp [a0d]⟩ (a0a ⟨rfl,trivial⟩ (a0a ⟨rfl,hsi⟩ (a0a ⟨rfl,by simp [a0d]⟩ (a0a ⟨b5V 6 4 _,hly⟩ a0l)))))
  refine a2u (a3I ?_)
  refine b8H (ι:=Unit) (fun _=>⟨[(0,.ptr 0 0),(2,.ptr 3 0),(3,.nils),(5,.fp (sbL s)),(7,.ptr 4 0),(8,.sl 4 ((a0W s).map laA))],a0K v++[some (.cells [.nils] 49),some (.cells [.int .i64 s.tail] 3)]⟩) (fun _=>(a0W s).any (nfB v)=false) ?_ ?_
  ·repeat' (first|refine Zs rfl ?_|refine Zc rfl ?_|refine Zd rfl ?_|refine Qh ?_|refine Qk ?_|refine Zk ?_|refine Qw (by kernel_rfl) ?_|refine Zt rfl ?_)
   refine a0s (fun i:Nat=>⟨[(0,.ptr 0 0),(2,.ptr 3 0),(3,.nils),(5,.fp (sbL s)),(7,.ptr 4 0),(8,.sl 4 ((a0W s).map laA)),(33,.sl 4 ((a0W s).map laA)),(34,.int .i64 ((a0W s).length:Int)),(35,.int .i64 (i:Int))],a0K v++[some (.cells [.nils] 49),some (.cells [.int .i64 s.tail] 3)]⟩)
    (fun i=>i<=(a0W s).length/\((a0W s).take i).any (nfB v)=false) (fun i=>(a0W s).length - i) 0 ⟨Nat.zero_le _,rfl⟩ ?_ ?_
   ·refine a0j 5 (Nat.le_of_ble_eq_true rfl) (a7F v s.tail) rfl (Nat.le_refl 5) ?_
    exact a0a ⟨rfl,by simp [a0d]⟩ (a0a ⟨rfl,by simp [a0d]⟩ (a0a ⟨rfl,trivial⟩ (a0a ⟨rfl,hsi⟩ (a0a ⟨rfl,by simp [a0d]⟩ (a0a ⟨rfl,hly⟩ (a0a ⟨rfl,hly⟩ (a0a ⟨by rw [List.length_map];rfl,trivial⟩ (a0a ⟨rfl,trivial⟩ a0l))))))))
   rintro i ⟨hi,hai⟩
   repeat' (first|refine Zs rfl ?_|refine Zc rfl ?_|refine Zd rfl ?_|refine Qh ?_|refine Qk ?_|refine Zk ?_|refine Qw (by kernel_rfl) ?_|refine Zt rfl ?_)
   refine a0g rfl (fun h1=>?_) (fun h1=>?_)
   ·have hil:i<(a0W s).length:=by omega
    obtain ⟨l,hlx⟩:∃l,(a0W s)[i]?=some l:=⟨_,List.getElem?_eq_getElem hil⟩
    have hiw:IntKind.i64.wrap ((i:Int)+1)=((i+1:Nat):Int):=a0r (by omega) (by omega)
    repeat' (first|refine Zs rfl ?_|refine Zc rfl ?_|refine Zd rfl ?_|refine Qh ?_|refine Qk ?_|refine Zk ?_|refine Qw (by kernel_rfl) ?_|refine Zt rfl ?_)
    refine Qa rfl ?_
    refine a0C hlx rfl rfl rfl rfl rfl rfl rfl (by first|rfl|omega) rfl ?_
    first|refine nx rfl rfl ?_|refine nx0 ?_
    repeat' (first|refine Zs rfl ?_|refine Zc rfl ?_|refine Zd rfl ?_|refine Qh ?_|refine Qk ?_|refine Zk ?_|refine Qw (by kernel_rfl) ?_|refine Zt rfl ?_)
    have hli:∀{n},a0d n (.fp (laL l)):=⟨trivial,trivial,trivial,trivial,trivial⟩
    refine Kz 5 [0,2,3,5,7,8,10,33,34,35] 5 (a7F v s.tail) rfl rfl ⟨by simp [a0d],by simp [a0d],trivial,hsi,by simp [a0d],hly,hli,hly,trivial,trivial,trivial⟩ ?_
    repeat' (first|refine Zs rfl ?_|refine Zc rfl ?_|refine Zd rfl ?_|refine Qh ?_|refine Qk ?_|refine Zk ?_|refine Qw (by kernel_rfl) ?_|refine Zt rfl ?_)
    refine a0p [] [] (by exact rfl) (by kernel_rfl) ?_
    repeat' (first|refine Zs rfl ?_|refine Zc rfl ?_|refine Zd rfl ?_|refine Qh ?_|refine Qk ?_|refine Zk ?_|refine Qw (by kernel_rfl) ?_|refine Zt rfl ?_)
    apply ds rfl rfl rfl rfl
    ·refine Ck (fun _=>rfl) rfl (a2U hsc trivial trivial [some (.cells [.nils] 49),some (.cells [.int .i64 s.tail] 3)] (X:=X)) ?_
     first|exact nx rfl rfl ⟨rfl,rfl⟩|exact nx0 ⟨rfl,rfl⟩
    repeat' (first|refine Zs rfl ?_|refine Zc rfl ?_|refine Zd rfl ?_|refine Qh ?_|refine Qk ?_|refine Zk ?_|refine Qw (by kernel_rfl) ?_|refine Zt rfl ?_)
    refine Zq rfl rfl rfl rfl (c0F l ((v.image.length / 64:Nat):Int) X) rfl ?_
    repeat' (first|refine Zs rfl ?_|refine Zc rfl ?_|refine Zd rfl ?_|refine Qh ?_|refine Qk ?_|refine Zk ?_|refine Qw (by kernel_rfl) ?_|refine Zt rfl ?_)
    cases hf:b1e l ((v.image.length / 64:Nat):Int) with
    | false =>
     have hr:a7A v=.tup [.nils,.nils,.int .i64 4]:=by
      have:(a0W s).any (nfB v)=true:=List.any_eq_true.2 ⟨l,List.mem_of_getElem? hlx,by unfold nfB;rw [hf];rfl⟩
      unfold a7A;rw [ho]
      show cond _ _ _=_
      rw [this];rfl
     repeat' (first|refine Zs rfl ?_|refine Zc rfl ?_|refine Zd rfl ?_|refine Qh ?_|refine Qk ?_|refine Zk ?_|refine Qw (by kernel_rfl) ?_|refine Zt rfl ?_)
     refine a0c ⟨_,rfl,⟨hr.symm,rfl⟩⟩
    | true =>
     have hai2:=b8F hlx hai (by unfold nfB;rw [hf];rfl)
     repeat' (first|refine Zs rfl ?_|refine Zc rfl ?_|refine Zd rfl ?_|refine Qh ?_|refine Qk ?_|refine Zk ?_|refine Qw (by kernel_rfl) ?_|refine Zt rfl ?_)
     rw [hiw]
     refine ⟨i+1,⟨by omega,hai2⟩,by omega,kk 5 (a7F v s.tail) rfl ⟨by simp [a0d],by simp [a0d],trivial,hsi,by simp [a0d],hly,hly,trivial,trivial,trivial⟩⟩
   have hii:i=(a0W s).length:=by omega
   rw [hii,List.take_length] at hai
   repeat' (first|refine Zs rfl ?_|refine Zc rfl ?_|refine Zd rfl ?_|refine Qh ?_|refine Qk ?_|refine Zk ?_|refine Qw (by kernel_rfl) ?_|refine Zt rfl ?_)
   exact ⟨(),hai,kk 5 (a7F v s.tail) rfl ⟨by simp [a0d],by simp [a0d],trivial,hsi,by simp [a0d],hly,trivial⟩⟩
  intro _ hany
  refine a2u (a2u (a3I ?_))
  repeat' (first|refine Zs rfl ?_|refine Zc rfl ?_|refine Zd rfl ?_|refine Qh ?_|refine Qk ?_|refine Zk ?_|refine Qw (by kernel_rfl) ?_|refine Zt rfl ?_)
  refine Zf rfl rfl (b4H X v (a0W s) [some (.cells [.nils] 49),some (.cells [.int .i64 s.tail] 3)]) rfl rfl rfl ?_
  repeat' (first|refine Zs rfl ?_|refine Zc rfl ?_|refine Zd rfl ?_|refine Qh ?_|refine Qk ?_|refine Zk ?_|refine Qw (by kernel_rfl) ?_|refine Zt rfl ?_)
  refine Zh (b4e (b4f (H':=a0K v++itR s.tail (a3F v s)) rfl (by kernel_rfl) Proofs.Tryz.func143 rfl rfl (by kernel_rfl) ?_ ?_))
  ·intro D lb Φ hy hh hids
   show b1a (E0 _) 38 5 Φ _ _ _
   refine a1Q (a1X ?_)
   repeat' (first|refine Zs rfl ?_|refine Zc rfl ?_|refine Zd rfl ?_|refine Qh ?_|refine Qk ?_|refine Zk ?_|refine Qw (by kernel_rfl) ?_|refine Zt rfl ?_)
   refine a4A ?_
   refine b0d (fun i:{i:Nat // i<=(a0W s).length}=>⟨[(0,.clo (.yield lb) [] []),(2,b4Z),(9,.sl 4 ((a0W s).map laA)),(10,.int .i64 ((a0W s).length:Int)),(11,.int .i64 (i.1:Int))],a0K v++itR s.tail (a3J (a1Z v) ((a0W s).take i.1))⟩) (fun i=>(a0W s).length - i.1) ⟨0,Nat.zero_le _⟩ ?_ ?_
   ·refine (a9m 3 0 63 rfl rfl).trans (a0j 6 (Nat.le_of_ble_eq_true rfl) (a8v v s.tail []) rfl (Nat.le_refl 6) ?_)
    exact a0a ⟨rfl,⟨trivial,trivial⟩⟩ (a0a ⟨rfl,a3j (Nat.zero_lt_succ 5)⟩ (a0a ⟨rfl,hly⟩ (a0a ⟨by rw [List.length_map];rfl,trivial⟩ (a0a ⟨rfl,trivial⟩ a0l))))
   rintro ⟨i,hi⟩
   refine a1Q (a1X ?_)
   repeat' (first|refine Zs rfl ?_|refine Zc rfl ?_|refine Zd rfl ?_|refine Qh ?_|refine Qk ?_|refine Zk ?_|refine Qw (by kernel_rfl) ?_|refine Zt rfl ?_)
   refine a1Q (a1X ?_)
   refine a0g rfl (fun h1=>?_) (fun h1=>?_)
   ·have hil:i<(a0W s).length:=by have:(i:Int)<((a0W s).length:Int):=h1;omega
    obtain ⟨l,hlx⟩:∃l,(a0W s)[i]?=some l:=⟨_,List.getElem?_eq_getElem hil⟩
    have hfl:=hlf l (List.mem_of_getElem? hlx)
    have hrs:=a1z hfl
    have hsn:=b0j (hdr:=a1Z v) hlx
    have hol:=a4C (hdr:=a1Z v) (ls:=(a0W s).take i) (fun x hx=>hlf x (List.mem_of_mem_take hx))
    rw [List.length_take] at hol
    have hiw:IntKind.i64.wrap ((i:Int)+1)=((i+1:Nat):Int):=a0r (by omega) (by omega)
    generalize hout:a3J (a1Z v) ((a0W s).take i)=out at *
    have hli:∀{n},a0d n (.fp (laL l)):=⟨trivial,trivial,trivial,trivial,trivial⟩
    have hyi:∀{n},a0d n (.clo (.yield lb) [] []):=⟨trivial,trivial⟩
    repeat' (first|refine Zs rfl ?_|refine Zc rfl ?_|refine Zd rfl ?_|refine Qh ?_|refine Qk ?_|refine Zk ?_|refine Qw (by kernel_rfl) ?_|refine Zt rfl ?_)
    refine a1Q (a4A (a1Q (a1X ?_)))
    refine Zc rfl ?_
    refine Qa rfl ?_
    refine a0C hlx rfl rfl rfl rfl rfl rfl rfl (by first|rfl|omega) rfl ?_
    first|refine nx rfl rfl ?_|refine nx0 ?_
    repeat' (first|refine Zs rfl ?_|refine Zd rfl ?_|refine Zk ?_|refine Zt rfl ?_)
    refine Zh ?_
    refine b2E ((a0w (id:=6) (cs:=laL l) rfl).trans (kk 6 (a8v v s.tail out) rfl (sl':=[(0,.clo (.yield lb) [] []),(2,b4Z),(5,.fp (laL l)),(9,.sl 4 ((a0W s).map laA)),(10,.int .i64 ((a0W s).length:Int)),(11,.int .i64 (i:Int))]) ⟨hyi,a3j (Nat.zero_lt_succ 5),hli,hly,trivial,trivial,trivial⟩)) ?_
    refine a1Q (a1X ?_)
    repeat' (first|refine Zs rfl ?_|refine Zc rfl ?_|refine Zd rfl ?_|refine Qh ?_|refine Qk ?_|refine Zk ?_|refine Qw (by kernel_rfl) ?_|refine Zt rfl ?_)
    refine a4A ?_
    refine b0d (fun j:{j:Nat // j<=l.regs.toNat}=>⟨[(0,.clo (.yield lb) [] []),(2,b4Z),(5,.fp (laL l)),(9,.sl 4 ((a0W s).map laA)),(10,.int .i64 ((a0W s).length:Int)),(11,.int .i64 (i:Int)),(16,.int .i64 l.regs),(17,.int .i64 (j.1:Int))],a0K v++itR s.tail (out++a6D (a1Z v) l j.1)⟩) (fun j=>l.regs.toNat - j.1) ⟨0,Nat.zero_le _⟩ ?_ ?_
    ·rw [show a6D (a1Z v) l 0=[] from rfl,List.append_nil]
     exact kk 6 (a8v v s.tail out) rfl ⟨hyi,a3j (Nat.zero_lt_succ 5),hli,hly,trivial,trivial,trivial,trivial,trivial⟩
    rintro ⟨j,hj⟩
    have hj:j<=l.regs.toNat:=hj
    have hcs:=b0k (a1Z v) l j
    have hcl:=a8U (a1Z v) l j
    show b1a _ _ _ _ _ _ ⟨_,a0K v++itR s.tail (out++a6D (a1Z v) l j)⟩
    generalize hcj:a6D (a1Z v) l j=cj at *
    have hjw:IntKind.i64.wrap ((j:Int)+1)=((j+1:Nat):Int):=a0r (by omega) (by omega)
    refine a1Q (a1X ?_)
    repeat' (first|refine Zs rfl ?_|refine Zc rfl ?_|refine Zd rfl ?_|refine Qh ?_|refine Qk ?_|refine Zk ?_|refine Qw (by kernel_rfl) ?_|refine Zt rfl ?_)
    refine a1Q (a1X ?_)
    refine a0g rfl (fun h2=>?_) (fun h2=>?_)
    ·have hjl:j<l.regs.toNat:=by have:(j:Int)<l.regs:=h2;omega
     repeat' (first|refine Zs rfl ?_|refine Zc rfl ?_|refine Zd rfl ?_|refine Qh ?_|refine Qk ?_|refine Zk ?_|refine Qw (by kernel_rfl) ?_|refine Zt rfl ?_)
     refine a1Q (a4A (a1Q (a1X ?_)))
     repeat' (first|refine Zs rfl ?_|refine Zc rfl ?_|refine Zd rfl ?_|refine Qh ?_|refine Qk ?_|refine Zk ?_|refine Qw (by kernel_rfl) ?_|refine Zt rfl ?_)
     refine a1Q (a1X ?_)
     repeat' (first|refine Zs rfl ?_|refine Zc rfl ?_|refine Zd rfl ?_|refine Qh ?_|refine Qk ?_|refine Zk ?_|refine Qw (by kernel_rfl) ?_|refine Zt rfl ?_)
     have hda:=fun Y=>a2U (fun Y=>c3a Y v hv.inv l (j:Int)) ⟨a1g,trivial,trivial⟩ ⟨a4l,trivial,trivial⟩ (itR s.tail (out++cj)) (X:=Y)
     refine Zf rfl rfl (hda _) rfl rfl rfl ?_
     cases hsh:a1Z v l (j:Int) with
     | none =>
      rw [hsh] at hcs
      have hcs2:a6D (a1Z v) l (j+1)=cj:=by rw [hcs];simp
      repeat' (first|refine Zs rfl ?_|refine Zc rfl ?_|refine Zd rfl ?_|refine Qh ?_|refine Qk ?_|refine Zk ?_|refine Qw (by kernel_rfl) ?_|refine Zt rfl ?_)
      refine Zh (a1Q (a1X ?_))
      repeat' (first|refine Zs rfl ?_|refine Zc rfl ?_|refine Zd rfl ?_|refine Qh ?_|refine Qk ?_|refine Zk ?_|refine Qw (by kernel_rfl) ?_|refine Zt rfl ?_)
      refine Zh (a1X ?_)
      repeat' (first|refine Zs rfl ?_|refine Zc rfl ?_|refine Zd rfl ?_|refine Qh ?_|refine Qk ?_|refine Zk ?_|refine Qw (by kernel_rfl) ?_|refine Zt rfl ?_)
      refine a1X ?_
      repeat' (first|refine Zs rfl ?_|refine Zc rfl ?_|refine Zd rfl ?_|refine Qh ?_|refine Qk ?_|refine Zk ?_|refine Qw (by kernel_rfl) ?_|refine Zt rfl ?_)
      refine ⟨⟨j+1,hjl⟩,by show l.regs.toNat - (j+1)<l.regs.toNat - j;omega,?_⟩
      show Imp _ _ _ _ ⟨[(0,.clo (.yield lb) [] []),(2,b4Z),(5,.fp (laL l)),(9,.sl 4 ((a0W s).map laA)),(10,.int .i64 ((a0W s).length:Int)),(11,.int .i64 (i:Int)),(16,.int .i64 l.regs),(17,.int .i64 ((j+1:Nat):Int))],a0K v++itR s.tail (out++a6D (a1Z v) l (j+1))⟩
      rw [hcs2]
      rw [<- hjw]
      exact kk 6 (a8v v s.tail (out++cj)) rfl ⟨hyi,a3j (Nat.zero_lt_succ 5),hli,hly,trivial,trivial,trivial,trivial,trivial⟩
     | some h =>
      rw [hsh] at hcs
      have hcs2:out++a6D (a1Z v) l (j+1)=out++cj++[Rg.mk h l]:=by rw [hcs];simp
      repeat' (first|refine Zs rfl ?_|refine Zc rfl ?_|refine Zd rfl ?_|refine Qh ?_|refine Qk ?_|refine Zk ?_|refine Qw (by kernel_rfl) ?_|refine Zt rfl ?_)
      refine Zh (b2E ((a0w (id:=6) (cs:=hdL h) rfl).trans (kk 6 (a8v v s.tail (out++cj)) rfl (sl':=[(0,.clo (.yield lb) [] []),(2,b4Z),(5,.fp (laL l)),(7,.fp (hdL h)),(8,.bool true),(9,.sl 4 ((a0W s).map laA)),(10,.int .i64 ((a0W s).length:Int)),(11,.int .i64 (i:Int)),(16,.int .i64 l.regs),(17,.int .i64 (j:Int))]) ⟨hyi,a3j (Nat.zero_lt_succ 5),hli,a2p h,trivial,hly,trivial,trivial,trivial,trivial,trivial⟩)) ?_)
      refine a1Q (b0e (n:=2) (l:=lb) 6 rfl rfl ?_)
      repeat' (first|refine Zs rfl ?_|refine Zc rfl ?_|refine Zd rfl ?_|refine Qh ?_|refine Qk ?_|refine Zk ?_|refine Qw (by kernel_rfl) ?_|refine Zt rfl ?_)
      refine ⟨rfl,rfl,a0K v++[some (.cells [.own 7 0 (out++cj++[Rg.mk h l]).length] 49),some (.cells [.int .i64 (max (mxL s.tail ((out++cj).map (·.h.tail))) h.tail)] 3),none,some (.cells (rgL ⟨h,l⟩) 63),some (.arr ((out++cj++[Rg.mk h l]).map rgA) 63)],?_,?_⟩
      ·refine hy 5 (rgA ⟨h,l⟩) (a0K v++itR s.tail (out++cj)) _ ?_
       refine a4Z rfl rfl ?_
       repeat' (first|refine Zs rfl ?_|refine Zc rfl ?_|refine Zd rfl ?_|refine Qh ?_|refine Qk ?_|refine Zk ?_|refine Qw (by kernel_rfl) ?_|refine Zt rfl ?_)
       refine Zh (b4g (b8I (a4Z rfl rfl ?_)))
       repeat' (first|refine Zs rfl ?_|refine Zc rfl ?_|refine Zd rfl ?_|refine Qh ?_|refine Qk ?_|refine Zk ?_|refine Qw (by kernel_rfl) ?_|refine Zt rfl ?_)
       refine Qa rfl ?_
       have hl1:((out++cj).map rgA)++[rgA (Rg.mk h l)]=(out++cj++[(Rg.mk h l)]).map rgA:=by simp
       have hl2:((out++cj).map rgA).length+1=(out++cj++[(Rg.mk h l)]).length:=by simp only [List.length_map,List.length_append,List.length_cons,List.length_nil]
       have hl3:(out++cj++[(Rg.mk h l)]).length<=1000001:=by simp;omega
       have hone:a2R [rgA (Rg.mk h l)]:=fun y hy=>by rw [List.mem_singleton.1 hy];exact ⟨rfl,rfl⟩
       refine a0V (oid:=some 5) (es:=(out++cj).map rgA) (out:=(out++cj++[(Rg.mk h l)]).map rgA) (n:=(out++cj++[(Rg.mk h l)]).length) (a0M rfl (by rw [List.length_map])) (rfl) (hone) (hl1) (hl2) (by show _<=9223372036854775807;omega) (by show _*80<=_;omega) rfl rfl rfl rfl rfl rfl rfl rfl ?_
       first|refine nx rfl rfl ?_|refine nx0 ?_
       repeat' (first|refine Zs rfl ?_|refine Zc rfl ?_|refine Zd rfl ?_|refine Qh ?_|refine Qk ?_|refine Zk ?_|refine Qw (by kernel_rfl) ?_|refine Zt rfl ?_)
       refine Zh (a4Z rfl rfl ?_)
       repeat' (first|refine Zs rfl ?_|refine Zc rfl ?_|refine Zd rfl ?_|refine Qh ?_|refine Qk ?_|refine Zk ?_|refine Qw (by kernel_rfl) ?_|refine Zt rfl ?_)
       rfl
      repeat' (first|refine Zs rfl ?_|refine Zc rfl ?_|refine Zd rfl ?_|refine Qh ?_|refine Qk ?_|refine Zk ?_|refine Qw (by kernel_rfl) ?_|refine Zt rfl ?_)
      refine Zh (a1X ?_)
      repeat' (first|refine Zs rfl ?_|refine Zc rfl ?_|refine Zd rfl ?_|refine Qh ?_|refine Qk ?_|refine Zk ?_|refine Qw (by kernel_rfl) ?_|refine Zt rfl ?_)
      refine a1X ?_
      repeat' (first|refine Zs rfl ?_|refine Zc rfl ?_|refine Zd rfl ?_|refine Qh ?_|refine Qk ?_|refine Zk ?_|refine Qw (by kernel_rfl) ?_|refine Zt rfl ?_)
      refine ⟨⟨j+1,hjl⟩,by show l.regs.toNat - (j+1)<l.regs.toNat - j;omega,?_⟩
      show Imp _ _ _ _ ⟨[(0,.clo (.yield lb) [] []),(2,b4Z),(5,.fp (laL l)),(9,.sl 4 ((a0W s).map laA)),(10,.int .i64 ((a0W s).length:Int)),(11,.int .i64 (i:Int)),(16,.int .i64 l.regs),(17,.int .i64 ((j+1:Nat):Int))],a0K v++itR s.tail (out++a6D (a1Z v) l (j+1))⟩
      rw [hcs2,<- hjw]
      have hmx:mxL s.tail ((out++cj++[Rg.mk h l]).map (·.h.tail))=max (mxL s.tail ((out++cj).map (·.h.tail))) h.tail:=by rw [List.map_append];exact c2c _ _ _
      refine b0w (a0K v++[some (.cells [.own 5 0 (out++cj++[Rg.mk h l]).length] 49),some (.cells [.int .i64 (mxL s.tail ((out++cj++[Rg.mk h l]).map (·.h.tail)))] 3)]) [7] [.arr ((out++cj++[Rg.mk h l]).map rgA) 63] (Nat.le_of_ble_eq_true rfl) (Nat.le_of_ble_eq_true rfl) (by simp) (by simp [a0K]) rfl rfl ?_ ?_ (a0E rfl (a0A 0 (fun i h=>absurd h (Nat.not_lt_zero i)) (a1d _)) a0T)
      ·refine c4C rfl (lt3 rfl rfl rfl) ⟨⟨_,rfl,?_⟩,⟨_,rfl,?_⟩,trivial⟩
       ·exact a1y (a4x.cons (a0L rfl) a4x.nil)
       ·exact a4r (by rw [hmx]) (⟨trivial,trivial⟩:a0e 0 [AV.int .i64 _])
      exact a0a (a1x rfl ⟨trivial,trivial⟩) (a0a (a7V 3 (lt3 rfl rfl rfl) (a3j (Nat.zero_lt_succ 2))) (a0a (a1x rfl hli) (a0a (a1x rfl hly) (a0a (a1x rfl trivial) (a0a (a1x rfl trivial) (a0a (a1x rfl trivial) (a0a (a1x rfl trivial) a0l)))))))
    have hjj:j=l.regs.toNat:=by have:¬ (j:Int)<l.regs:=h2;omega
    subst hjj
    repeat' (first|refine Zs rfl ?_|refine Zc rfl ?_|refine Zd rfl ?_|refine Qh ?_|refine Qk ?_|refine Zk ?_|refine Qw (by kernel_rfl) ?_|refine Zt rfl ?_)
    refine a1X ?_
    repeat' (first|refine Zs rfl ?_|refine Zc rfl ?_|refine Zd rfl ?_|refine Qh ?_|refine Qk ?_|refine Zk ?_|refine Qw (by kernel_rfl) ?_|refine Zt rfl ?_)
    refine ⟨⟨i+1,hil⟩,by show (a0W s).length - (i+1)<(a0W s).length - i;omega,?_⟩
    show Imp _ _ _ _ ⟨[(0,.clo (.yield lb) [] []),(2,b4Z),(9,.sl 4 ((a0W s).map laA)),(10,.int .i64 ((a0W s).length:Int)),(11,.int .i64 ((i+1:Nat):Int))],a0K v++itR s.tail (a3J (a1Z v) ((a0W s).take (i+1)))⟩
    rw [hcj] at hsn
    rw [hsn,<- hiw]
    exact kk 6 (a8v v s.tail (out++cj)) rfl ⟨hyi,a3j (Nat.zero_lt_succ 5),hly,trivial,trivial,trivial⟩
   have hii:i=(a0W s).length:=by have:¬ (i:Int)<((a0W s).length:Int):=h1;omega
   repeat' (first|refine Zs rfl ?_|refine Zc rfl ?_|refine Zd rfl ?_|refine Qh ?_|refine Qk ?_|refine Zk ?_|refine Qw (by kernel_rfl) ?_|refine Zt rfl ?_)
   refine ⟨[],rfl,?_⟩
   show a0K v++itR s.tail (a3J (a1Z v) ((a0W s).take i))=_
   rw [hii,List.take_length];rfl
  obtain ⟨cs,hcs⟩:∃cs,cs=a3F v s:=⟨_,rfl⟩
  obtain ⟨T0,hT0⟩:∃T0,T0=mxL s.tail (cs.map (·.h.tail)):=⟨_,rfl⟩
  obtain ⟨pl,hpl⟩:∃pl,pl=b8z s (a7k v s.mig):=⟨_,rfl⟩
  obtain ⟨T1,hT1⟩:∃T1,T1=mxL T0 (pl.map (·.tail)):=⟨_,rfl⟩
  have hmg:=b7M hsb
  rw [<- hcs]
  refine a8P (s':=⟨[(0,.ptr 0 0),(2,.ptr 3 0),(3,.nils),(5,.fp (sbL s)),(7,.ptr 4 0)],a0K v++fdR cs T0⟩) (a3q fun D=>(a3O (id:=5) (k:=10) (es:=cs.map rgA) (e:=63) rfl rfl (by kernel_rfl)).trans (a0j 5 (Nat.le_of_ble_eq_true rfl) (a7E v cs T0) ?_ (Nat.le_of_ble_eq_true rfl) ?_)) ?_
  ·rw [hT0];simp [c5I,frz,itR,fdR,a0K,List.take_of_length_le]
  ·exact a0a ⟨rfl,by simp [a0d]⟩ (a0a ⟨rfl,by simp [a0d]⟩ (a0a ⟨rfl,trivial⟩ (a0a ⟨rfl,hsi⟩ (a0a ⟨rfl,by simp [a0d]⟩ a0l))))
  refine a1D (b2D (ι:=Unit) (fun _=>⟨[(0,.ptr 0 0),(2,.ptr 3 0),(3,.nils),(7,.ptr 4 0)],a0K v++fdR cs T1⟩) (fun _=>True) ?_ ?_)
  ·refine a1D (a1i rfl fun D=>?_)
   repeat' (first|refine Zs rfl ?_|refine Zc rfl ?_|refine Zd rfl ?_|refine Qh ?_|refine Qk ?_|refine Zk ?_|refine Qw (by kernel_rfl) ?_|refine Zt rfl ?_)
   refine Zh (a5o rfl (fun hb=>?_) (fun hb=>?_))
   ·have hph:s.phase≠1:=of_decide_eq_true hb
    have hpe:pl=a7k v s.mig:=by rw [hpl];exact if_neg hph
    have hrc:∀Y,a0b (E0 Y) 61 [.ptr 0 0,.int .i64 s.mig] (a0K v) (fun r H'=>r=.sl 8 (pl.map plA)/\H'=a0K v):=fun Y=>by rw [hpe];exact b9P Y v hv.inv s.mig (by omega)
    have hpn:pl.length<=36:=by rw [hpe];exact b3K v s.mig
    have hpi:∀{n},a0e n (pl.map plA):=a0h fun _=>a3b
    have hda:=fun Y=>a2U hrc ⟨trivial,trivial⟩ hpi (fdR cs T0) (X:=Y)
    refine a1D (a1i rfl fun D=>?_)
    repeat' (first|refine Zs rfl ?_|refine Zc rfl ?_|refine Zd rfl ?_|refine Qh ?_|refine Qk ?_|refine Zk ?_|refine Qw (by kernel_rfl) ?_|refine Zt rfl ?_)
    refine Zf rfl rfl (hda _) rfl rfl rfl ?_
    repeat' (first|refine Zs rfl ?_|refine Zc rfl ?_|refine Zd rfl ?_|refine Qh ?_|refine Qk ?_|refine Zk ?_|refine Qw (by kernel_rfl) ?_|refine Zt rfl ?_)
    refine Zh (a4z ?_)
    refine b0c (fun i:{i:Nat // i<=pl.length}=>⟨[(0,.ptr 0 0),(2,.ptr 3 0),(3,.nils),(7,.ptr 4 0),(64,.sl 8 (pl.map plA)),(65,.int .i64 (pl.length:Int)),(66,.int .i64 (i.1:Int))],a0K v++fdR cs (mxL T0 ((pl.take i.1).map (·.tail)))⟩) (fun i=>pl.length - i.1) ⟨0,Nat.zero_le _⟩ ?_ ?_
    ·refine a3q fun D=>a0j 5 (Nat.le_of_ble_eq_true rfl) (a7E v cs T0) rfl (Nat.le_refl 5) ?_
     exact a0a ⟨rfl,by simp [a0d]⟩ (a0a ⟨rfl,by simp [a0d]⟩ (a0a ⟨rfl,trivial⟩ (a0a ⟨rfl,by simp [a0d]⟩ (a0a ⟨rfl,hpi⟩ (a0a ⟨by rw [List.length_map];rfl,trivial⟩ (a0a ⟨rfl,trivial⟩ a0l))))))
    rintro ⟨i,hi⟩
    have hi:i<=pl.length:=hi
    refine a1D (a1i rfl fun D=>?_)
    repeat' (first|refine Zs rfl ?_|refine Zc rfl ?_|refine Zd rfl ?_|refine Qh ?_|refine Qk ?_|refine Zk ?_|refine Qw (by kernel_rfl) ?_|refine Zt rfl ?_)
    refine Zh (a1D (a5o rfl (fun h3=>?_) (fun h3=>?_)))
    ·have h3:(i:Int)<(pl.length:Int):=of_decide_eq_true h3
     have hil:i<pl.length:=by omega
     obtain ⟨q,hq⟩:∃q,pl[i]?=some q:=⟨_,List.getElem?_eq_getElem hil⟩
     have hms:=a5F (f:=fun p:Pl=>p.tail) hq T0
     have hiw:IntKind.i64.wrap ((i:Int)+1)=((i+1:Nat):Int):=a0r (by omega) (by omega)
     refine a5p (a1D (a4z (a1D (a1i rfl fun D=>?_))))
     refine Qa rfl ?_
     refine a0C hq rfl rfl rfl rfl rfl rfl rfl (by first|rfl|omega) rfl ?_
     first|refine nx rfl rfl ?_|refine nx0 ?_
     repeat' (first|refine Zs rfl ?_|refine Zc rfl ?_|refine Zd rfl ?_|refine Qh ?_|refine Qk ?_|refine Zk ?_|refine Qw (by kernel_rfl) ?_|refine Zt rfl ?_)
     refine Zh (a1i rfl fun D=>?_)
     repeat' (first|refine Zs rfl ?_|refine Zc rfl ?_|refine Zd rfl ?_|refine Qh ?_|refine Qk ?_|refine Zk ?_|refine Qw (by kernel_rfl) ?_|refine Zt rfl ?_)
     refine Zh (a1i rfl fun D=>?_)
     repeat' (first|refine Zs rfl ?_|refine Zc rfl ?_|refine Zd rfl ?_|refine Qh ?_|refine Qk ?_|refine Zk ?_|refine Qw (by kernel_rfl) ?_|refine Zt rfl ?_)
     refine Zh ⟨⟨i+1,hil⟩,by show pl.length - (i+1)<pl.length - i;omega,?_⟩
     show c0u _ _ _ _ ⟨[(0,.ptr 0 0),(2,.ptr 3 0),(3,.nils),(7,.ptr 4 0),(64,.sl 8 (pl.map plA)),(65,.int .i64 (pl.length:Int)),(66,.int .i64 ((i+1:Nat):Int))],a0K v++fdR cs (mxL T0 ((pl.take (i+1)).map (·.tail)))⟩
     rw [hms,<- hiw]
     exact a3q fun D=>kk 5 (a7E v cs _) rfl ⟨by simp [a0d],by simp [a0d],trivial,by simp [a0d],hpi,trivial,trivial,trivial⟩
    have h3:¬ (i:Int)<(pl.length:Int):=of_decide_eq_false h3
    have hii:i=pl.length:=by omega
    have hTe:T1=mxL T0 ((pl.take i).map (·.tail)):=by rw [hT1,hii,List.take_length]
    refine b0b ⟨(),trivial,?_⟩
    rw [hTe]
    exact a3q fun D=>kk 5 (a7E v cs _) rfl ⟨by simp [a0d],by simp [a0d],trivial,by simp [a0d],trivial⟩
   have hph:s.phase=1:=Decidable.not_not.1 (of_decide_eq_false hb)
   have hpe:pl=[]:=by rw [hpl];exact if_pos hph
   refine a5p ⟨(),trivial,?_⟩
   rw [hT1,hpe]
   exact a3q fun D=>kk 5 (a7E v cs _) rfl ⟨by simp [a0d],by simp [a0d],trivial,by simp [a0d],trivial⟩
  intro _ _
  have hcl:cs.length<=1000000:=by
   have h:=a4C (hdr:=a1Z v) hlf
   rw [hcs];unfold a3F;omega
  have hci:∀{n},a0e n (cs.map rgA):=a1d cs
  refine a1D (b2D (ι:=Unit) (fun _=>⟨[(2,.ptr 3 0),(3,.own 5 0 (a1N T1 cs).length)],a0K v++lvR cs T1 (a1N T1 cs)⟩) (fun _=>True) ?_ ?_)
  ·refine a1D (a1i rfl fun D=>?_)
   repeat' (first|refine Zs rfl ?_|refine Zc rfl ?_|refine Zd rfl ?_|refine Qh ?_|refine Qk ?_|refine Zk ?_|refine Qw (by kernel_rfl) ?_|refine Zt rfl ?_)
   refine Zh (a4z ?_)
   refine b0c (fun i:{i:Nat // i<=cs.length}=>⟨[(2,.ptr 3 0),(3,.own 5 0 (a1N T1 (cs.take i.1)).length),(7,.ptr 4 0),(75,.sl 10 (cs.map rgA)),(76,.int .i64 (cs.length:Int)),(77,.int .i64 (i.1:Int))],a0K v++lvR cs T1 (a1N T1 (cs.take i.1))⟩) (fun i=>cs.length - i.1) ⟨0,Nat.zero_le _⟩ ?_ ?_
   ·refine a3q fun D=>(imp_nil 3 63 rfl).trans (a0j 6 (Nat.le_of_ble_eq_true rfl) (b1C v cs T1 []) rfl (Nat.le_refl 6) ?_)
    exact a0a ⟨rfl,by simp [a0d]⟩ (a0a ⟨rfl,by simp [a0d]⟩ (a0a ⟨rfl,by simp [a0d]⟩ (a0a ⟨rfl,hci⟩ (a0a ⟨by rw [List.length_map];rfl,trivial⟩ (a0a ⟨rfl,trivial⟩ a0l)))))
   rintro ⟨i,hi⟩
   have hi:i<=cs.length:=hi
   refine a1D (a1i rfl fun D=>?_)
   repeat' (first|refine Zs rfl ?_|refine Zc rfl ?_|refine Zd rfl ?_|refine Qh ?_|refine Qk ?_|refine Zk ?_|refine Qw (by kernel_rfl) ?_|refine Zt rfl ?_)
   refine Zh (a1D (a5o rfl (fun h3=>?_) (fun h3=>?_)))
   ·have h3:(i:Int)<(cs.length:Int):=of_decide_eq_true h3
    have hil:i<cs.length:=by omega
    obtain ⟨q,hq⟩:∃q,cs[i]?=some q:=⟨_,List.getElem?_eq_getElem hil⟩
    have hsn:=a8z (T:=T1) hq
    have hlo:(a1N T1 (cs.take i)).length<=1000000:=by
     have:=List.length_filter_le (fun r:Rg=>decide (T1<=r.h.seq)) (cs.take i)
     rw [List.length_take] at this
     unfold a1N;omega
    have hiw:IntKind.i64.wrap ((i:Int)+1)=((i+1:Nat):Int):=a0r (by omega) (by omega)
    refine a5p (a1D (a4z (a1D (a1i rfl fun D=>?_))))
    show a1p _ _ _ _ ⟨_,a0K v++lvR cs T1 (a1N T1 (cs.take i))⟩
    generalize hout:a1N T1 (cs.take i)=out at *
    refine Qa rfl ?_
    refine a0C hq rfl rfl rfl rfl rfl rfl rfl (by first|rfl|omega) rfl ?_
    first|refine nx rfl rfl ?_|refine nx0 ?_
    repeat' (first|refine Zs rfl ?_|refine Zc rfl ?_|refine Zd rfl ?_|refine Qh ?_|refine Qk ?_|refine Zk ?_|refine Qw (by kernel_rfl) ?_|refine Zt rfl ?_)
    refine Zh (a1D (a1i rfl fun D=>?_))
    repeat' (first|refine Zs rfl ?_|refine Zc rfl ?_|refine Zd rfl ?_|refine Qh ?_|refine Qk ?_|refine Zk ?_|refine Qw (by kernel_rfl) ?_|refine Zt rfl ?_)
    refine Zh (a5o rfl (fun h4=>?_) (fun h4=>?_))
    ·have h4:T1<=q.h.seq:=of_decide_eq_true h4
     rw [if_pos h4] at hsn
     refine a1i rfl fun D=>?_
     repeat' (first|refine Zs rfl ?_|refine Zc rfl ?_|refine Zd rfl ?_|refine Qh ?_|refine Qk ?_|refine Zk ?_|refine Qw (by kernel_rfl) ?_|refine Zt rfl ?_)
     refine Qa rfl ?_
     have hl1:(out.map rgA)++[rgA q]=(out++[q]).map rgA:=by simp
     have hl2:(out.map rgA).length+1=(out++[q]).length:=by simp only [List.length_map,List.length_append,List.length_cons,List.length_nil]
     have hl3:(out++[q]).length<=1000001:=by simp;omega
     have hone:a2R [rgA q]:=fun y hy=>by rw [List.mem_singleton.1 hy];exact ⟨rfl,rfl⟩
     refine a0V (oid:=some 5) (es:=out.map rgA) (out:=(out++[q]).map rgA) (n:=(out++[q]).length) (a0M rfl (by rw [List.length_map])) (rfl) (hone) (hl1) (hl2) (by show _<=9223372036854775807;omega) (by show _*80<=_;omega) rfl rfl rfl rfl rfl rfl rfl rfl ?_
     first|refine nx rfl rfl ?_|refine nx0 ?_
     repeat' (first|refine Zs rfl ?_|refine Zc rfl ?_|refine Zd rfl ?_|refine Qh ?_|refine Qk ?_|refine Zk ?_|refine Qw (by kernel_rfl) ?_|refine Zt rfl ?_)
     refine Zh (a1i rfl fun D=>?_)
     repeat' (first|refine Zs rfl ?_|refine Zc rfl ?_|refine Zd rfl ?_|refine Qh ?_|refine Qk ?_|refine Zk ?_|refine Qw (by kernel_rfl) ?_|refine Zt rfl ?_)
     refine Zh ⟨⟨i+1,hil⟩,by show cs.length - (i+1)<cs.length - i;omega,?_⟩
     show c0u _ _ _ _ ⟨[(2,.ptr 3 0),(3,.own 5 0 (a1N T1 (cs.take (i+1))).length),(7,.ptr 4 0),(75,.sl 10 (cs.map rgA)),(76,.int .i64 (cs.length:Int)),(77,.int .i64 ((i+1:Nat):Int))],a0K v++lvR cs T1 (a1N T1 (cs.take (i+1)))⟩
     rw [hsn,<- hiw]
     refine a3q fun D=>a0S 5 [7] (H':=a0K v++lvR cs T1 (out++[q])) (os:=[.arr ((out++[q]).map rgA) 63]) (Nat.le_of_ble_eq_true rfl) ?_ (by simp) (by simp) ?_ rfl ?_ ?_ ?_
     ·exact Nat.le_of_ble_eq_true rfl
     ·exact a7E v cs T1
     ·rfl
     ·exact a0a (a0v rfl (by simp [a0d])) (a0a (a0L rfl) (a0a (a0v rfl (by simp [a0d])) (a0a (a0v rfl hci) (a0a (a0v rfl trivial) (a0a (a0v rfl trivial) a0l)))))
     ·exact a0E rfl (a0A 5 a2m (a1d _)) a0T
    have h4:¬ T1<=q.h.seq:=of_decide_eq_false h4
    rw [if_neg h4,List.append_nil] at hsn
    refine a5p (a1i rfl fun D=>?_)
    repeat' (first|refine Zs rfl ?_|refine Zc rfl ?_|refine Zd rfl ?_|refine Qh ?_|refine Qk ?_|refine Zk ?_|refine Qw (by kernel_rfl) ?_|refine Zt rfl ?_)
    refine Zh ⟨⟨i+1,hil⟩,by show cs.length - (i+1)<cs.length - i;omega,?_⟩
    show c0u _ _ _ _ ⟨[(2,.ptr 3 0),(3,.own 5 0 (a1N T1 (cs.take (i+1))).length),(7,.ptr 4 0),(75,.sl 10 (cs.map rgA)),(76,.int .i64 (cs.length:Int)),(77,.int .i64 ((i+1:Nat):Int))],a0K v++lvR cs T1 (a1N T1 (cs.take (i+1)))⟩
    rw [hsn,<- hiw]
    exact a3q fun D=>kk 6 (b1C v cs T1 out) rfl ⟨by simp [a0d],by simp [a0d],by simp [a0d],hci,trivial,trivial,trivial⟩
   have h3:¬ (i:Int)<(cs.length:Int):=of_decide_eq_false h3
   have hii:i=cs.length:=by omega
   have hTe:a1N T1 cs=a1N T1 (cs.take i):=by rw [hii,List.take_length]
   refine b0b ⟨(),trivial,?_⟩
   rw [hTe]
   exact a3q fun D=>kk 6 (b1C v cs T1 _) rfl ⟨by simp [a0d],by simp [a0d],trivial⟩
  intro _ _
  have hr:a7A v=.tup [.sl 10 (cs.map rgA),.sl 10 ((a1N T1 cs).map rgA),.int .i64 0]:=by
   unfold a7A;rw [ho]
   show cond _ _ _=_
   rw [hany,hT1,hT0,hpl,hcs];rfl
  rw [show (a1N T1 cs).length=((a1N T1 cs).map rgA).length from (List.length_map _).symm]
  refine a8P (s':=⟨[(2,.ptr 3 0),(3,.sl 10 ((a1N T1 cs).map rgA))],a0K v++fdR cs T1⟩) (a3q fun D=>(a0N (id:=5) (k:=10) (es:=(a1N T1 cs).map rgA) (e:=63) rfl rfl (by kernel_rfl)).trans (a0j 5 (Nat.le_of_ble_eq_true rfl) (a7E v cs T1) rfl (Nat.le_of_ble_eq_true rfl) ?_)) ?_
  ·exact a0a ⟨rfl,by simp [a0d]⟩ (a0a ⟨b5V 5 10 _,a1d _⟩ a0l)
  refine a1D (a1i rfl fun D=>?_)
  repeat' (first|refine Zs rfl ?_|refine Zc rfl ?_|refine Zd rfl ?_|refine Qh ?_|refine Qk ?_|refine Zk ?_|refine Qw (by kernel_rfl) ?_|refine Zt rfl ?_)
  refine Zh (b8G ?_)
  exact ⟨_,rfl,hr.symm,rfl⟩
def prL(p:Pr):List AV:=[.str p.1,.int .i64 p.2.seq,.int .i64 p.2.off,.int .i64 p.2.len,.int .i64 p.2.exp,.bool p.2.hit]
def enL(e:En):List AV:=[.int .i64 e.seq,.int .i64 e.off,.int .i64 e.len,.int .i64 e.exp,.bool e.hit]
theorem b1U{n:Nat}(p:Pr):a0d n (.fp (prL p)):=⟨trivial,trivial,trivial,trivial,trivial,trivial,trivial⟩
def a6o(p:Pr):Option Rec->Bool
 | none=>false
 | some x=>decide ((a1M x:Int)=p.2.len)&&(decide (x.kind=1)&&(decide (x.key=p.1)&&decide (x.exp=p.2.exp)))
def a6n(v:Dv)(r:Rg)(p:Pr):Bool:=decide (r.h.seq=p.2.seq)&&match c7C v r.l r.h.slot p.2.seq p.2.off p.2.len with
 | none=>false
 | some b=>a6o p (a5v r.l.ver p.2.seq.toNat p.2.off.toNat b)
theorem b5v{v:Dv}{l:La}{slot seq off n:Int}{b:List UInt8}(h:c7C v l slot seq off n=some b):0<=off/\off<=120773/\1<=seq/\seq<=281474976710655/\b.length<=120773:=by
 unfold c7C at h
 have hc:=c7D l
 split at h
 ·rename_i hh
  obtain ⟨h1,h2,h3,_,h5,h6,_⟩:=hh
  cases h
  refine ⟨h1,by omega,h5,h6,?_⟩
  rw [List.length_take];omega
 ·cases h
theorem c1U(X:Nat->Prop)(v:Dv)(hv:v.Inv)(r:Rg)(hb:hdB r.h=true)(p:Pr):a0b (E0 X) 53 [.ptr 0 0,rgA r,prA p] (a0K v) (fun q H'=>q=.bool (a6n v r p)/\H'=a0K v):=by
 refine a0b.cutD ?_ trivial
 refine Z0 Proofs.Tryz.func53 rfl Proofs.Tryz.ntmps53 (by kernel_rfl) rfl ?_
 refine Zc rfl (Zc rfl (Zs rfl (Zs rfl (Zs rfl (Zh ?_)))))
 refine a0t ((a0w (id:=3) (cs:=rgL r) rfl).trans ((a0w (id:=4) (cs:=prL p) rfl).trans (kk 3 (a1n v) rfl (sl':=[(0,.ptr 0 0),(4,.fp (rgL r)),(5,.fp (prL p)),(6,.bool false)]) ⟨Nat.zero_lt_succ 2,a3d r,b1U p,trivial,trivial⟩))) ?_
 repeat' (first|refine Zs rfl ?_|refine Zc rfl ?_|refine Zd rfl ?_|refine Qh ?_|refine Qk ?_|refine Zk ?_|refine Qw (by kernel_rfl) ?_|refine Zt rfl ?_)
 have hby:=fun Y=>a2U (fun Y=>c7A Y v hv r.l r.h.slot p.2.seq p.2.off p.2.len) ⟨a1g,trivial,trivial,trivial,trivial,trivial⟩ (c7x _) [some (.cells (enL p.2) 67)] (X:=Y)
 unfold a6n
 cases hbs:c7C v r.l r.h.slot p.2.seq p.2.off p.2.len with
 | none =>
  rw [hbs] at hby
  refine Zf rfl rfl (hby _) rfl rfl rfl ?_
  repeat' (first|refine Zs rfl ?_|refine Zc rfl ?_|refine Zd rfl ?_|refine Qh ?_|refine Qk ?_|refine Zk ?_|refine Qw (by kernel_rfl) ?_|refine Zt rfl ?_)
  by_cases h1:r.h.seq=p.2.seq
  ·rw [decide_eq_false (fun h=>h h1:¬ r.h.seq≠p.2.seq)]
   repeat' (first|refine Zs rfl ?_|refine Zc rfl ?_|refine Zd rfl ?_|refine Qh ?_|refine Qk ?_|refine Zk ?_|refine Qw (by kernel_rfl) ?_|refine Zt rfl ?_)
   refine a0c ⟨_,rfl,⟨congrArg AV.bool (by simp),rfl⟩⟩
  ·rw [decide_eq_true (h1:r.h.seq≠p.2.seq)]
   repeat' (first|refine Zs rfl ?_|refine Zc rfl ?_|refine Zd rfl ?_|refine Qh ?_|refine Qk ?_|refine Zk ?_|refine Qw (by kernel_rfl) ?_|refine Zt rfl ?_)
   refine a0c ⟨_,rfl,⟨congrArg AV.bool (by simp),rfl⟩⟩
 | some b =>
  rw [hbs] at hby
  refine Zf rfl rfl (hby _) rfl rfl rfl ?_
  repeat' (first|refine Zs rfl ?_|refine Zc rfl ?_|refine Zd rfl ?_|refine Qh ?_|refine Qk ?_|refine Zk ?_|refine Qw (by kernel_rfl) ?_|refine Zt rfl ?_)
  by_cases h1:r.h.seq=p.2.seq
  ·rw [decide_eq_false (fun h=>h h1:¬ r.h.seq≠p.2.seq)]
   obtain ⟨b1,b2,b3,b4,b5⟩:=b5v hbs
   have hdc:∀Y,a0b (E0 Y) 99 [.int .i64 r.l.ver,.int .i64 p.2.seq,.int .i64 p.2.off,.sl 1 (b.map u8A)] [] (fun q H'=>q=c2D (a5v r.l.ver p.2.seq.toNat p.2.off.toNat b)/\H'=[]):=fun Y=>by
    have h:=c0W Y r.l.ver p.2.seq.toNat p.2.off.toNat b (by omega) (by omega) (by omega)
    rw [Int.toNat_of_nonneg (by omega),Int.toNat_of_nonneg b1] at h
    exact h
   have hdp:Pur (E0 X) 99 [.int .i64 r.l.ver,.int .i64 p.2.seq,.int .i64 p.2.off,.sl 1 (b.map u8A)] (c2D (a5v r.l.ver p.2.seq.toNat p.2.off.toNat b)):=⟨⟨trivial,trivial,trivial,a0h fun _=>a0k,trivial⟩,fun Y=>hdc Y⟩
   repeat' (first|refine Zs rfl ?_|refine Zc rfl ?_|refine Zd rfl ?_|refine Qh ?_|refine Qk ?_|refine Zk ?_|refine Qw (by kernel_rfl) ?_|refine Zt rfl ?_)
   cases hdr:a5v r.l.ver p.2.seq.toNat p.2.off.toNat b with
   | none =>
    rw [hdr] at hdp
    refine Zp rfl rfl (hdp) rfl ?_
    repeat' (first|refine Zs rfl ?_|refine Zc rfl ?_|refine Zd rfl ?_|refine Qh ?_|refine Qk ?_|refine Zk ?_|refine Qw (by kernel_rfl) ?_|refine Zt rfl ?_)
    refine a0c ⟨_,rfl,⟨congrArg AV.bool (by simp [a6o,hdr]),rfl⟩⟩
   | some x =>
    rw [hdr] at hdp
    refine Zp rfl rfl (hdp) rfl ?_
    repeat' (first|refine Zs rfl ?_|refine Zc rfl ?_|refine Zd rfl ?_|refine Qh ?_|refine Qk ?_|refine Zk ?_|refine Qw (by kernel_rfl) ?_|refine Zt rfl ?_)
    by_cases h2:(a1M x:Int)=p.2.len
    ·rw [decide_eq_true h2]
     repeat' (first|refine Zs rfl ?_|refine Zc rfl ?_|refine Zd rfl ?_|refine Qh ?_|refine Qk ?_|refine Zk ?_|refine Qw (by kernel_rfl) ?_|refine Zt rfl ?_)
     by_cases h3:x.kind=1
     ·rw [decide_eq_true h3]
      repeat' (first|refine Zs rfl ?_|refine Zc rfl ?_|refine Zd rfl ?_|refine Qh ?_|refine Qk ?_|refine Zk ?_|refine Qw (by kernel_rfl) ?_|refine Zt rfl ?_)
      refine Qa rfl ?_
      refine a4u (l:=x.key) rfl rfl rfl rfl rfl rfl rfl ?_
      first|refine nx rfl rfl ?_|refine nx0 ?_
      repeat' (first|refine Zs rfl ?_|refine Zc rfl ?_|refine Zd rfl ?_|refine Qh ?_|refine Qk ?_|refine Zk ?_|refine Qw (by kernel_rfl) ?_|refine Zt rfl ?_)
      by_cases h4:x.key=p.1
      ·rw [decide_eq_true h4]
       repeat' (first|refine Zs rfl ?_|refine Zc rfl ?_|refine Zd rfl ?_|refine Qh ?_|refine Qk ?_|refine Zk ?_|refine Qw (by kernel_rfl) ?_|refine Zt rfl ?_)
       refine a0c ⟨_,rfl,⟨congrArg AV.bool (by simp [a6o,hdr,h1,h2,h3,h4]),rfl⟩⟩
      rw [decide_eq_false h4]
      repeat' (first|refine Zs rfl ?_|refine Zc rfl ?_|refine Zd rfl ?_|refine Qh ?_|refine Qk ?_|refine Zk ?_|refine Qw (by kernel_rfl) ?_|refine Zt rfl ?_)
      refine a0c ⟨_,rfl,⟨congrArg AV.bool (by simp [a6o,hdr,h4]),rfl⟩⟩
     rw [decide_eq_false h3]
     repeat' (first|refine Zs rfl ?_|refine Zc rfl ?_|refine Zd rfl ?_|refine Qh ?_|refine Qk ?_|refine Zk ?_|refine Qw (by kernel_rfl) ?_|refine Zt rfl ?_)
     refine a0c ⟨_,rfl,⟨congrArg AV.bool (by simp [a6o,hdr,h3]),rfl⟩⟩
    rw [decide_eq_false h2]
    repeat' (first|refine Zs rfl ?_|refine Zc rfl ?_|refine Zd rfl ?_|refine Qh ?_|refine Qk ?_|refine Zk ?_|refine Qw (by kernel_rfl) ?_|refine Zt rfl ?_)
    refine a0c ⟨_,rfl,⟨congrArg AV.bool (by simp [a6o,hdr,h2]),rfl⟩⟩
  rw [decide_eq_true (h1:r.h.seq≠p.2.seq)]
  repeat' (first|refine Zs rfl ?_|refine Zc rfl ?_|refine Zd rfl ?_|refine Qh ?_|refine Qk ?_|refine Zk ?_|refine Qw (by kernel_rfl) ?_|refine Zt rfl ?_)
  refine a0c ⟨_,rfl,⟨congrArg AV.bool (by simp [h1]),rfl⟩⟩
def a5A(v:Dv):Option (List Rg × List Rg):=match a2c v with
 | none=>none
 | some s=>cond ((a0W s).any (nfB v)) none (some (a3F v s,a1N (b2t s (a3F v s) (b8z s (a7k v s.mig))) (a3F v s)))
def c5t:Option (List Rg × List Rg)->AV
 | none=>.tup [.nils,.nils,.int .i64 4]
 | some p=>.tup [.sl 10 (p.1.map rgA),.sl 10 (p.2.map rgA),.int .i64 0]
theorem b2X(v:Dv):a7A v=c5t (a5A v):=by
 unfold a7A a5A
 cases a2c v with
 | none=>rfl
 | some s =>
  show cond _ _ _=c5t (cond _ _ _)
  cases (a0W s).any (nfB v)<;>rfl
theorem b1y{L:Nat}{v:Dv}(hv:Lv L v){a b:List Rg}(h:a5A v=some (a,b)):a.length<=16016/\b.length<=16016/\∀r∈b,hdB r.h=true:=by
 unfold a5A at h
 cases ho:a2c v with
 | none=>rw [ho] at h;cases h
 | some s =>
  rw [ho] at h
  obtain ⟨hlf,hln,hl2⟩:=a7I (a5D ho)
  have hll:(a0W s).length=s.fo.length+1:=rfl
  have hc:=a4C (hdr:=a1Z v) hlf
  have h':cond ((a0W s).any (nfB v)) none (some (a3F v s,a1N (b2t s (a3F v s) (b8z s (a7k v s.mig))) (a3F v s)))=some (a,b):=h
  cases ha:(a0W s).any (nfB v) with
  | true=>rw [ha] at h';cases h'
  | false =>
   rw [ha] at h'
   cases h'
   have hf:=List.length_filter_le (fun r:Rg=>decide (b2t s (a3F v s) (b8z s (a7k v s.mig))<=r.h.seq)) (a3F v s)
   refine ⟨?_,?_,fun r hr=>?_⟩
   ·unfold a3F;omega
   ·unfold a1N;unfold a3F at hf ⊢;omega
   have hm:=List.mem_filter.1 hr
   have he:a1Z v=a2q v.image:=funext fun l=>funext fun k=>a4G hv l k
   unfold a3F at hm
   rw [he] at hm
   exact (b0l hm.1).1.hd
def b5L(v:Dv)(l:List Pr):Bool:=match a5A v with
 | none=>false
 | some p=>l.all fun x=>p.2.any fun r=>a6n v r x
theorem b1V(l:List Pr){n:Nat}:a0e n (l.map prA):=a0F (Nat.zero_le _) (a4o l)
theorem b2y{α:Type}{f:α->Bool}{l:List α}{i:Nat}{x:α}(h:l[i]?=some x):(l.drop i).all f=(f x&&(l.drop (i+1)).all f):=by
 obtain ⟨hi,rfl⟩:=List.getElem?_eq_some_iff.1 h
 rw [List.drop_eq_getElem_cons hi];rfl
theorem b2A{α:Type}{f:α->Bool}{l:List α}{i:Nat}{x:α}(h:l[i]?=some x):(l.drop i).any f=(f x || (l.drop (i+1)).any f):=by
 obtain ⟨hi,rfl⟩:=List.getElem?_eq_some_iff.1 h
 rw [List.drop_eq_getElem_cons hi];rfl
theorem b0p(X:Nat->Prop)(v:Dv)(L:Nat)(hv:Lv L v)(hL:L<=20000)(l:List Pr)(hl:a5A v≠none->l.length<=1000000):a0b (E0 X) 14 [.ptr 0 0,.sl 6 (l.map prA)] (a0K v) (fun r H'=>r=.bool (b5L v l)/\H'=a0K v):=by
 have hfc:=b5x X v L hv hL
 rw [b2X] at hfc
 unfold b5L
 refine Z0 Proofs.Tryz.func14 rfl Proofs.Tryz.ntmps14 (by kernel_rfl) rfl ?_
 repeat' (first|refine Zs rfl ?_|refine Zc rfl ?_|refine Zd rfl ?_|refine Qh ?_|refine Qk ?_|refine Zk ?_|refine Qw (by kernel_rfl) ?_|refine Zt rfl ?_)
 refine b5p ?_
 repeat' (first|refine Zs rfl ?_|refine Zc rfl ?_|refine Zd rfl ?_|refine Qh ?_|refine Qk ?_|refine Zk ?_|refine Qw (by kernel_rfl) ?_|refine Zt rfl ?_)
 cases hfl:a5A v with
 | none =>
  rw [hfl] at hfc
  refine Zf rfl rfl (hfc) rfl rfl rfl ?_
  repeat' (first|refine Zs rfl ?_|refine Zc rfl ?_|refine Zd rfl ?_|refine Qh ?_|refine Qk ?_|refine Zk ?_|refine Qw (by kernel_rfl) ?_|refine Zt rfl ?_)
  refine a0c ⟨_,rfl,⟨rfl,rfl⟩⟩
 | some q =>
  replace hl:=hl (by rw [hfl];simp)
  obtain ⟨a,b⟩:=q
  obtain ⟨ha,hb,hbh⟩:=b1y hv hfl
  rw [hfl] at hfc
  have hai:∀{n},a0e n (a.map rgA):=a1d a
  have hbi:∀{n},a0e n (b.map rgA):=a1d b
  have hpi:∀{n},a0e n (l.map prA):=b1V l
  refine Zf rfl rfl (hfc) rfl rfl rfl ?_
  repeat' (first|refine Zs rfl ?_|refine Zc rfl ?_|refine Zd rfl ?_|refine Qh ?_|refine Qk ?_|refine Zk ?_|refine Qw (by kernel_rfl) ?_|refine Zt rfl ?_)
  refine b5o ?_
  show AWp _ _ _ _ (c6c (b1g _ _ fun r H'=>r=.bool (l.all fun x=>b.any fun r=>a6n v r x)/\H'=a0K v)) _
  repeat' (first|refine Zs rfl ?_|refine Zc rfl ?_|refine Zd rfl ?_|refine Qh ?_|refine Qk ?_|refine Zk ?_|refine Qw (by kernel_rfl) ?_|refine Zt rfl ?_)
  refine a0s (fun i:Nat=>⟨[(0,.ptr 0 0),(6,.sl 10 (b.map rgA)),(20,.sl 6 (l.map prA)),(21,.int .i64 (l.length:Int)),(22,.int .i64 (i:Int))],a0K v⟩) (fun i=>i<=l.length/\((l.drop i).all fun x=>b.any fun r=>a6n v r x)=l.all fun x=>b.any fun r=>a6n v r x) (fun i=>l.length - i) 0 ⟨Nat.zero_le _,rfl⟩ ?_ ?_
  ·refine a0j 3 (Nat.le_refl 3) (a1n v) rfl (Nat.le_refl 3) ?_
   exact a0a ⟨rfl,by simp [a0d]⟩ (a0a ⟨rfl,hbi⟩ (a0a ⟨rfl,hpi⟩ (a0a ⟨by rw [List.length_map];rfl,trivial⟩ (a0a ⟨rfl,trivial⟩ a0l))))
  rintro i ⟨hi,hall⟩
  repeat' (first|refine Zs rfl ?_|refine Zc rfl ?_|refine Zd rfl ?_|refine Qh ?_|refine Qk ?_|refine Zk ?_|refine Qw (by kernel_rfl) ?_|refine Zt rfl ?_)
  refine a0g rfl (fun h1=>?_) (fun h1=>?_)
  ·have hil:i<l.length:=by omega
   obtain ⟨x,hx⟩:∃x,l[i]?=some x:=⟨_,List.getElem?_eq_getElem hil⟩
   have hiw:IntKind.i64.wrap ((i:Int)+1)=((i+1:Nat):Int):=a0r (by omega) (by omega)
   rw [b2y hx] at hall
   have hxi:∀{n},a0d n (.fp (prL x)):=b1U x
   repeat' (first|refine Zs rfl ?_|refine Zc rfl ?_|refine Zd rfl ?_|refine Qh ?_|refine Qk ?_|refine Zk ?_|refine Qw (by kernel_rfl) ?_|refine Zt rfl ?_)
   refine Qa rfl ?_
   refine a0C hx rfl rfl rfl rfl rfl rfl rfl (by first|rfl|omega) rfl ?_
   first|refine nx rfl rfl ?_|refine nx0 ?_
   repeat' (first|refine Zs rfl ?_|refine Zd rfl ?_|refine Zk ?_|refine Zt rfl ?_)
   refine Zh (Kz 3 [0,6,9,20,21,22] 3 (a1n v) rfl rfl ⟨by simp [a0d],hbi,hxi,hpi,trivial,trivial,trivial⟩ ?_)
   repeat' (first|refine Zs rfl ?_|refine Zc rfl ?_|refine Zd rfl ?_|refine Qh ?_|refine Qk ?_|refine Zk ?_|refine Qw (by kernel_rfl) ?_|refine Zt rfl ?_)
   refine a0s (fun j:Nat=>⟨[(0,.ptr 0 0),(6,.sl 10 (b.map rgA)),(9,.fp (prL x)),(20,.sl 6 (l.map prA)),(21,.int .i64 (l.length:Int)),(22,.int .i64 (i:Int)),(26,.sl 10 (b.map rgA)),(27,.int .i64 (b.length:Int)),(28,.int .i64 (j:Int))],a0K v⟩) (fun j=>j<=b.length/\((b.drop j).any fun r=>a6n v r x)=b.any fun r=>a6n v r x) (fun j=>b.length - j) 0 ⟨Nat.zero_le _,rfl⟩ ?_ ?_
   ·refine a0j 3 (Nat.le_refl 3) (a1n v) rfl (Nat.le_refl 3) ?_
    exact a0a ⟨rfl,by simp [a0d]⟩ (a0a ⟨rfl,hbi⟩ (a0a ⟨rfl,hxi⟩ (a0a ⟨rfl,hpi⟩ (a0a ⟨rfl,trivial⟩ (a0a ⟨rfl,trivial⟩ (a0a ⟨rfl,hbi⟩ (a0a ⟨by rw [List.length_map];rfl,trivial⟩ (a0a ⟨rfl,trivial⟩ a0l))))))))
   rintro j ⟨hj,hany⟩
   repeat' (first|refine Zs rfl ?_|refine Zc rfl ?_|refine Zd rfl ?_|refine Qh ?_|refine Qk ?_|refine Zk ?_|refine Qw (by kernel_rfl) ?_|refine Zt rfl ?_)
   refine a0g rfl (fun h2=>?_) (fun h2=>?_)
   ·have hjl:j<b.length:=by omega
    obtain ⟨r,hr⟩:∃r,b[j]?=some r:=⟨_,List.getElem?_eq_getElem hjl⟩
    have hjw:IntKind.i64.wrap ((j:Int)+1)=((j+1:Nat):Int):=a0r (by omega) (by omega)
    rw [b2A hr] at hany
    have hlc:=fun Y=>a2U (fun Y=>c1U Y v hv.inv r (hbh r (List.mem_of_getElem? hr)) x) ⟨a9C,(b1V [x]).1,trivial⟩ trivial [some (.cells (rgL r) 63)] (X:=Y)
    repeat' (first|refine Zs rfl ?_|refine Zc rfl ?_|refine Zd rfl ?_|refine Qh ?_|refine Qk ?_|refine Zk ?_|refine Qw (by kernel_rfl) ?_|refine Zt rfl ?_)
    refine Qa rfl ?_
    refine a0C hr rfl rfl rfl rfl rfl rfl rfl (by first|rfl|omega) rfl ?_
    first|refine nx rfl rfl ?_|refine nx0 ?_
    repeat' (first|refine Zs rfl ?_|refine Zc rfl ?_|refine Zd rfl ?_|refine Qh ?_|refine Qk ?_|refine Zk ?_|refine Qw (by kernel_rfl) ?_|refine Zt rfl ?_)
    refine Zf rfl rfl (hlc _) rfl rfl rfl ?_
    cases hle:a6n v r x with
    | true =>
     rw [hle] at hany
     have hF:(b.any fun r=>a6n v r x)=true:=hany.symm
     rw [hF,Bool.true_and] at hall
     repeat' (first|refine Zs rfl ?_|refine Zc rfl ?_|refine Zd rfl ?_|refine Qh ?_|refine Qk ?_|refine Zk ?_|refine Qw (by kernel_rfl) ?_|refine Zt rfl ?_)
     refine ⟨i+1,⟨by omega,hall⟩,by omega,?_⟩
     rw [hiw]
     exact kk 3 (a1n v) rfl ⟨by simp [a0d],hbi,hpi,trivial,trivial,trivial⟩
    | false =>
     rw [hle,Bool.false_or] at hany
     repeat' (first|refine Zs rfl ?_|refine Zc rfl ?_|refine Zd rfl ?_|refine Qh ?_|refine Qk ?_|refine Zk ?_|refine Qw (by kernel_rfl) ?_|refine Zt rfl ?_)
     refine ⟨j+1,⟨by omega,hany⟩,by omega,?_⟩
     rw [hjw]
     exact kk 3 (a1n v) rfl ⟨by simp [a0d],hbi,hxi,hpi,trivial,trivial,hbi,trivial,trivial,trivial⟩
   have hjj:j=b.length:=by omega
   rw [hjj,List.drop_length] at hany
   have hF:(b.any fun r=>a6n v r x)=false:=hany.symm
   rw [hF] at hall
   repeat' (first|refine Zs rfl ?_|refine Zc rfl ?_|refine Zd rfl ?_|refine Qh ?_|refine Qk ?_|refine Zk ?_|refine Qw (by kernel_rfl) ?_|refine Zt rfl ?_)
   refine a0c ⟨_,rfl,⟨congrArg AV.bool hall,rfl⟩⟩
  have hii:i=l.length:=by omega
  rw [hii,List.drop_length] at hall
  repeat' (first|refine Zs rfl ?_|refine Zc rfl ?_|refine Zd rfl ?_|refine Qh ?_|refine Qk ?_|refine Zk ?_|refine Qw (by kernel_rfl) ?_|refine Zt rfl ?_)
  refine a0c ⟨_,rfl,⟨congrArg AV.bool hall,rfl⟩⟩
def tlO(v:Dv):Option (Sb × Int):=match a2c v with
 | none=>none
 | some s=>cond ((a0W s).any (nfB v)) none (some (s,b2t s (a3F v s) (b8z s (a7k v s.mig))))
def tlA:Option (Sb × Int)->AV
 | none=>.tup [.int .i64 0,.agg (sbL a4Q),.bool false]
 | some p=>.tup [.int .i64 p.2,.agg (sbL p.1),.bool true]
theorem c3p(o:Option (Sb × Int)){n:Nat}:a0d n (tlA o):=by
 cases o with
 | none=>exact ⟨trivial,a5h a4Q,trivial,trivial⟩
 | some p=>exact ⟨trivial,a5h p.1,trivial,trivial⟩
theorem c6b{L:Nat}{v:Dv}(hv:Lv L v){x:RSt}{e:Int}(h:b4a v.image (a2c v) (fun s=>!(a0W s).any (nfB v)) (fun s=>a7k v s.mig) 0 x e):AV.tup [.int .i64 x.tail,.agg (sbL x.s),.bool (decide (e=0))]=tlA (tlO v):=by
 rcases h with ⟨rfl,_,_,s,ho,hf,hx⟩|⟨_,_,h⟩|⟨rfl,rfl,_,_,h⟩
 ·unfold tlO;rw [ho]
  have hf:(a0W s).any (nfB v)=false:=by simpa using hf
  show _=tlA (cond _ _ _)
  rw [hf]
  have he:a1Z v=a2q v.image:=funext fun l=>funext fun k=>a4G hv l k
  have ht:x.tail=b2t s (a3F v s) (b8z s (a7k v s.mig)):=by
   rw [hx.tail];unfold b2t a3F
   rw [he]
   exact a9q _ _ _
  rw [hx.sb,ht];rfl
 ·exact absurd ⟨by decide,by decide⟩ h
 have:tlO v=none:=by
  unfold tlO
  cases ho:a2c v with
  | none=>rfl
  | some s =>
   have hf:(a0W s).any (nfB v)=true:=by have:=h s ho;simpa using this
   show cond _ _ _=_
   rw [hf];rfl
 rw [this];rfl
theorem c4j:HOk 1 [some (.cells (zSb) 26)]:=fun j o' ho=>by
 match j,ho with
 | 0,ho=>cases ho;exact ⟨trivial,trivial,trivial,trivial,trivial,trivial,trivial,trivial,trivial,trivial,trivial,trivial,trivial,trivial,trivial⟩
theorem b2i(X:Nat->Prop)(v:Dv)(L:Nat)(hv:Lv L v)(hL:L<=20000):a0b (E0 X) 49 [.sl 1 (v.image.map u8A)] [] (fun r H'=>r=tlA (tlO v)/\H'=[]):=by
 refine a0b.cut0 ?_ (c3p _)
 have hld:∀Y,a0b (E0 Y) 20 [.sl 1 (v.image.map u8A),.int .i64 0] [] (fun r H'=>∃q:RSt × Int,b4a v.image (a2c v) (fun s=>!(a0W s).any (nfB v)) (fun s=>a7k v s.mig) 0 q.1 q.2/\r=.tup [.agg (rsL q.1),.int .i64 q.2]/\H'=[]):=fun Y =>
  (c2N Y v L hv hL 0).mono fun r H' ⟨x,e,h1,h2,h3⟩=>⟨(x,e),h1,h2,h3⟩
 refine Z0 Proofs.Tryz.func49 rfl Proofs.Tryz.ntmps49 (by kernel_rfl) rfl ?_
 repeat' (first|refine Zs rfl ?_|refine Zc rfl ?_|refine Zd rfl ?_|refine Qh ?_|refine Qk ?_|refine Zk ?_|refine Qw (by kernel_rfl) ?_|refine Zt rfl ?_)
 refine Zx rfl rfl (a8p hld ⟨a0h fun _=>a0k,trivial,trivial⟩ (fun q=>⟨b2e q.1,trivial,trivial⟩) _) rfl ?_
 rintro ⟨x,e⟩ hx
 have ht:=c6b hv hx
 repeat' (first|refine Zs rfl ?_|refine Zc rfl ?_|refine Zd rfl ?_|refine Qh ?_|refine Qk ?_|refine Zk ?_|refine Qw (by kernel_rfl) ?_|refine Zt rfl ?_)
 refine Kz 1 [2,3,4,5,6] 1 c4j rfl rfl ⟨trivial,by simp [a0d],trivial,b2e x,trivial,trivial⟩ ?_
 refine Qx rfl (by kernel_rfl) ?_
 repeat' (first|refine Zs rfl ?_|refine Zc rfl ?_|refine Zd rfl ?_|refine Qh ?_|refine Qk ?_|refine Zk ?_|refine Qw (by kernel_rfl) ?_|refine Zt rfl ?_)
 refine a0c ⟨_,rfl,ht⟩
def lvO(v:Dv):List Rg:=match a5A v with
 | none=>[]
 | some p=>p.2
theorem b3Y(v:Dv):(tlO v=none/\a5A v=none)\/∃s t,tlO v=some (s,t)/\a5A v=some (a3F v s,a1N t (a3F v s))/\a2c v=some s:=by
 unfold tlO a5A
 cases ho:a2c v with
 | none=>exact .inl ⟨rfl,rfl⟩
 | some s =>
  show (cond _ _ _=none/\cond _ _ _=none)\/∃s' t,cond _ _ _=some (s',t)/\cond _ _ _=some (a3F v s',a1N t (a3F v s'))/\some s=some s'
  cases (a0W s).any (nfB v) with
  | true=>exact .inl ⟨rfl,rfl⟩
  | false=>exact .inr ⟨s,_,rfl,rfl,rfl⟩
theorem c4b(out:List Rg):HOk 1 [some (.arr (out.map rgA) 63)]:=fun j o' ho=>by
 match j,ho with
 | 0,ho=>cases ho;exact a1d out
theorem b0H(X:Nat->Prop)(v:Dv)(L:Nat)(hv:Lv L v)(hL:L<=20000):a0b (E0 X) 50 [.sl 1 (v.image.map u8A)] [] (fun r H'=>r=.sl 10 ((lvO v).map rgA)/\H'=[]):=by
 have hlv:v.image.length<=20000:=by rw [hv.len];exact hL
 have hii:∀{n},a0e n (v.image.map u8A):=a0h fun _=>a0k
 have hti:=fun Y=>b2i Y v L hv hL
 refine a0b.frz0 (e:=63) 10 ?_ rfl (by kernel_rfl) (a1d _)
 refine Z0 Proofs.Tryz.func50 rfl Proofs.Tryz.ntmps50 (by kernel_rfl) rfl ?_
 repeat' (first|refine Zs rfl ?_|refine Zc rfl ?_|refine Zd rfl ?_|refine Qh ?_|refine Qk ?_|refine Zk ?_|refine Qw (by kernel_rfl) ?_|refine Zt rfl ?_)
 rcases b3Y v with ⟨h1,h2⟩|⟨s,t,h1,h2,ho⟩
 ·have hlo:lvO v=[]:=by unfold lvO;rw [h2]
  rw [h1] at hti
  have hp:Pur (E0 X) 49 [.sl 1 (v.image.map u8A)] (tlA none):=⟨⟨hii,trivial⟩,hti⟩
  refine Zp rfl rfl (hp) rfl ?_
  repeat' (first|refine Zs rfl ?_|refine Zc rfl ?_|refine Zd rfl ?_|refine Qh ?_|refine Qk ?_|refine Zk ?_|refine Qw (by kernel_rfl) ?_|refine Zt rfl ?_)
  refine a0t (imp_nil 2 63 rfl) ?_
  rw [hlo]
  refine a0c ⟨_,rfl,⟨_,_,rfl,rfl,rfl⟩⟩
 have hlo:lvO v=a1N t (a3F v s):=by unfold lvO;rw [h2]
 rw [h1] at hti
 have hp:Pur (E0 X) 49 [.sl 1 (v.image.map u8A)] (tlA (some (s,t))):=⟨⟨hii,trivial⟩,hti⟩
 obtain ⟨hlf,hln,hl2⟩:=a7I (a5D ho)
 have hca:=a9y v.image s (by omega) hlf (by omega)
 have hcf:a3J (a2q v.image) (a0W s)=a3F v s:=by
  unfold a3F
  rw [show a1Z v=a2q v.image from funext fun l=>funext fun k=>a4G hv l k]
 rw [hcf] at hca
 have hll:(a0W s).length=s.fo.length+1:=rfl
 have hcl:(a3F v s).length<=1000000:=by
  have h:=a4C (hdr:=a1Z v) hlf
  unfold a3F;omega
 obtain ⟨cs,hcs⟩:∃cs,cs=a3F v s:=⟨_,rfl⟩
 rw [hlo]
 rw [<- hcs] at hca hcl ⊢
 have hci:∀{n},a0e n (cs.map rgA):=a1d cs
 have hcp:Pur (E0 X) 51 [.sl 1 (v.image.map u8A),sbA s] (.sl 10 (cs.map rgA)):=⟨⟨hii,a1J,trivial⟩,hca⟩
 refine Zp rfl rfl (hp) rfl ?_
 repeat' (first|refine Zs rfl ?_|refine Zc rfl ?_|refine Zd rfl ?_|refine Qh ?_|refine Qk ?_|refine Zk ?_|refine Qw (by kernel_rfl) ?_|refine Zt rfl ?_)
 refine Zp rfl rfl (hcp) rfl ?_
 repeat' (first|refine Zs rfl ?_|refine Zc rfl ?_|refine Zd rfl ?_|refine Qh ?_|refine Qk ?_|refine Zk ?_|refine Qw (by kernel_rfl) ?_|refine Zt rfl ?_)
 refine a0s (fun i:Nat=>⟨[(3,.int .i64 t),(6,.own 0 0 (a1N t (cs.take i)).length),(19,.sl 10 (cs.map rgA)),(20,.int .i64 (cs.length:Int)),(21,.int .i64 (i:Int))],[some (.arr ((a1N t (cs.take i)).map rgA) 63)]⟩) (fun i=>i<=cs.length) (fun i=>cs.length - i) 0 (Nat.zero_le _) ?_ ?_
 ·refine (imp_nil 6 63 rfl).trans (a0S 0 [1] (H':=[some (.arr [] 63)]) (os:=[.arr [] 63]) (Nat.zero_le _) (Nat.zero_le _) (by simp) (by simp) (fun j o ho=>by cases ho) rfl rfl ?_ (a0E rfl (a0A 0 (fun i h=>absurd h (Nat.not_lt_zero i)) trivial) a0T))
  exact a0a (a0v rfl trivial) (a0a (a0L rfl) (a0a (a0v rfl hci) (a0a (a0v (by rw [List.length_map];rfl) trivial) (a0a (a0v rfl trivial) a0l))))
 intro i hi
 repeat' (first|refine Zs rfl ?_|refine Zc rfl ?_|refine Zd rfl ?_|refine Qh ?_|refine Qk ?_|refine Zk ?_|refine Qw (by kernel_rfl) ?_|refine Zt rfl ?_)
 refine a0g rfl (fun h3=>?_) (fun h3=>?_)
 ·have hil:i<cs.length:=by omega
  obtain ⟨q,hq⟩:∃q,cs[i]?=some q:=⟨_,List.getElem?_eq_getElem hil⟩
  have hsn:=a8z (T:=t) hq
  have hlo:(a1N t (cs.take i)).length<=1000000:=by
   have:=List.length_filter_le (fun r:Rg=>decide (t<=r.h.seq)) (cs.take i)
   rw [List.length_take] at this
   unfold a1N;omega
  have hiw:IntKind.i64.wrap ((i:Int)+1)=((i+1:Nat):Int):=a0r (by omega) (by omega)
  repeat' (first|refine Zs rfl ?_|refine Zc rfl ?_|refine Zd rfl ?_|refine Qh ?_|refine Qk ?_|refine Zk ?_|refine Qw (by kernel_rfl) ?_|refine Zt rfl ?_)
  generalize hout:a1N t (cs.take i)=out at *
  refine Qa rfl ?_
  refine a0C hq rfl rfl rfl rfl rfl rfl rfl (by first|rfl|omega) rfl ?_
  first|refine nx rfl rfl ?_|refine nx0 ?_
  repeat' (first|refine Zs rfl ?_|refine Zc rfl ?_|refine Zd rfl ?_|refine Qh ?_|refine Qk ?_|refine Zk ?_|refine Qw (by kernel_rfl) ?_|refine Zt rfl ?_)
  refine a0g rfl (fun h4=>?_) (fun h4=>?_)
  ·have h4:t<=q.h.seq:=h4
   rw [if_pos h4] at hsn
   repeat' (first|refine Zs rfl ?_|refine Zc rfl ?_|refine Zd rfl ?_|refine Qh ?_|refine Qk ?_|refine Zk ?_|refine Qw (by kernel_rfl) ?_|refine Zt rfl ?_)
   refine Qa rfl ?_
   have hl1:(out.map rgA)++[rgA q]=(out++[q]).map rgA:=by simp
   have hl2:(out.map rgA).length+1=(out++[q]).length:=by simp only [List.length_map,List.length_append,List.length_cons,List.length_nil]
   have hl3:(out++[q]).length<=1000001:=by simp;omega
   have hone:a2R [rgA q]:=fun y hy=>by rw [List.mem_singleton.1 hy];exact ⟨rfl,rfl⟩
   refine a0V (oid:=some 0) (es:=out.map rgA) (out:=(out++[q]).map rgA) (n:=(out++[q]).length) (a0M rfl (by rw [List.length_map])) (rfl) (hone) (hl1) (hl2) (by show _<=9223372036854775807;omega) (by show _*80<=_;omega) rfl rfl rfl rfl rfl rfl rfl rfl ?_
   first|refine nx rfl rfl ?_|refine nx0 ?_
   repeat' (first|refine Zs rfl ?_|refine Zc rfl ?_|refine Zd rfl ?_|refine Qh ?_|refine Qk ?_|refine Zk ?_|refine Qw (by kernel_rfl) ?_|refine Zt rfl ?_)
   refine ⟨i+1,hil,by omega,?_⟩
   rw [hsn,hiw]
   refine a0S 0 [2] (H':=[some (.arr ((out++[q]).map rgA) 63)]) (os:=[.arr ((out++[q]).map rgA) 63]) (Nat.zero_le _) (Nat.zero_le _) (by simp) (by simp) (fun j o ho=>by cases ho) rfl rfl ?_ (a0E rfl (a0A 0 (fun i h=>absurd h (Nat.not_lt_zero i)) (a1d _)) a0T)
   exact a0a (a0v rfl trivial) (a0a (a0L rfl) (a0a (a0v rfl hci) (a0a (a0v rfl trivial) (a0a (a0v rfl trivial) a0l))))
  have h4:¬ t<=q.h.seq:=h4
  rw [if_neg h4,List.append_nil] at hsn
  repeat' (first|refine Zs rfl ?_|refine Zc rfl ?_|refine Zd rfl ?_|refine Qh ?_|refine Qk ?_|refine Zk ?_|refine Qw (by kernel_rfl) ?_|refine Zt rfl ?_)
  refine ⟨i+1,hil,by omega,?_⟩
  rw [hsn,hiw]
  exact kk 1 (c4b out) rfl ⟨trivial,by simp [a0d],hci,trivial,trivial,trivial⟩
 have hii:i=cs.length:=by omega
 repeat' (first|refine Zs rfl ?_|refine Zc rfl ?_|refine Zd rfl ?_|refine Qh ?_|refine Qk ?_|refine Zk ?_|refine Qw (by kernel_rfl) ?_|refine Zt rfl ?_)
 rw [hii,List.take_length]
 refine a0c ⟨_,rfl,⟨_,_,rfl,by rw [List.length_map],rfl⟩⟩
def stm(v:Dv)(r:Rg):List UInt8:=a4L v.image r.h.seq.toNat (r.l.rs.toNat - 1) ((74+r.h.slot*r.l.rs).toNat+1)
def inB(s:List UInt8)(e:En):Prop:=0<=e.off/\0<=e.len/\e.off<=(s.length:Int)/\e.len<=(s.length:Int) - e.off
instance(s:List UInt8)(e:En):Decidable (inB s e):=by unfold inB;infer_instance
def a4O(v:Dv)(r:Rg)(p:Pr):Bool:=if r.h.seq=p.2.seq/\inB (stm v r) p.2 then a6o p (a5v r.l.ver r.h.seq.toNat p.2.off.toNat (((stm v r).drop p.2.off.toNat).take p.2.len.toNat)) else false
theorem b3n{L:Nat}{v:Dv}(hv:Lv L v){r:Rg}(h:r∈lvO v):a2i r.l r.h.slot/\hdB r.h=true:=by
 rcases b3Y v with ⟨_,h2⟩|⟨s,t,_,h2,ho⟩
 ·unfold lvO at h;rw [h2] at h;cases h
 unfold lvO at h;rw [h2] at h
 have hm:=(List.mem_filter.1 h).1
 unfold a3F at hm
 rw [show a1Z v=a2q v.image from funext fun l=>funext fun k=>a4G hv l k] at hm
 have:=(b0l hm).1
 exact ⟨this.slot,this.hd⟩
theorem b6y{L:Nat}{v:Dv}(hv:Lv L v):(lvO v).length<=16016:=by
 unfold lvO
 cases hf:a5A v with
 | none=>exact Nat.zero_le _
 | some p=>obtain ⟨a,b⟩:=p;exact (b1y hv hf).2.1
def b1Z(v:Dv)(l:List Pr):Bool:=match a5A v with
 | none=>false
 | some _=>l.all fun x=>(lvO v).any fun r=>a4O v r x
theorem b4I(X:Nat->Prop)(v:Dv)(L:Nat)(hv:Lv L v)(hL:L<=20000)(l:List Pr)(hl:l.length<=1000000):a0b (E0 X) 15 [.sl 1 (v.image.map u8A),.sl 6 (l.map prA)] [] (fun r H'=>r=.bool (b1Z v l)/\H'=[]):=by
 have hlv:v.image.length<=20000:=by rw [hv.len];exact hL
 have hii:∀{n},a0e n (v.image.map u8A):=a0h fun _=>a0k
 have hti:=fun Y=>b2i Y v L hv hL
 have hpi:∀{n},a0e n (l.map prA):=b1V l
 refine a0b.cut0 ?_ trivial
 refine Z0 Proofs.Tryz.func15 rfl Proofs.Tryz.ntmps15 (by kernel_rfl) rfl ?_
 repeat' (first|refine Zs rfl ?_|refine Zc rfl ?_|refine Zd rfl ?_|refine Qh ?_|refine Qk ?_|refine Zk ?_|refine Qw (by kernel_rfl) ?_|refine Zt rfl ?_)
 rcases b3Y v with ⟨h1,h2⟩|⟨s,t,h1,h2,ho⟩
 ·rw [h1] at hti
  rw [show b1Z v l=false by unfold b1Z;rw [h2]]
  have hp:Pur (E0 X) 49 [.sl 1 (v.image.map u8A)] (tlA none):=⟨⟨hii,trivial⟩,hti⟩
  refine Zp rfl rfl (hp) rfl ?_
  repeat' (first|refine Zs rfl ?_|refine Zc rfl ?_|refine Zd rfl ?_|refine Qh ?_|refine Qk ?_|refine Zk ?_|refine Qw (by kernel_rfl) ?_|refine Zt rfl ?_)
  refine a0c ⟨_,rfl,rfl⟩
 rw [h1] at hti
 rw [show b1Z v l=l.all fun x=>(lvO v).any fun r=>a4O v r x by unfold b1Z;rw [h2]]
 have hp:Pur (E0 X) 49 [.sl 1 (v.image.map u8A)] (tlA (some (s,t))):=⟨⟨hii,trivial⟩,hti⟩
 have hlp:Pur (E0 X) 50 [.sl 1 (v.image.map u8A)] (.sl 10 ((lvO v).map rgA)):=⟨⟨hii,trivial⟩,fun Y=>b0H Y v L hv hL⟩
 have hbl:=b6y hv
 have hbo:∀r∈lvO v,a2i r.l r.h.slot/\hdB r.h=true:=fun r hr=>b3n hv hr
 generalize lvO v=b at *
 have hbi:∀{n},a0e n (b.map rgA):=a1d b
 refine Zp rfl rfl (hp) rfl ?_
 repeat' (first|refine Zs rfl ?_|refine Zc rfl ?_|refine Zd rfl ?_|refine Qh ?_|refine Qk ?_|refine Zk ?_|refine Qw (by kernel_rfl) ?_|refine Zt rfl ?_)
 refine a0s (fun i:Nat=>⟨[(0,.sl 1 (v.image.map u8A)),(25,.sl 6 (l.map prA)),(26,.int .i64 (l.length:Int)),(27,.int .i64 (i:Int))],[]⟩) (fun i=>i<=l.length/\((l.drop i).all fun x=>b.any fun r=>a4O v r x)=l.all fun x=>b.any fun r=>a4O v r x) (fun i=>l.length - i) 0 ⟨Nat.zero_le _,rfl⟩ ?_ ?_
 ·refine ik0 ?_ ⟨hii,hpi,trivial,trivial,trivial⟩
  show [_,_,AV.int .i64 _,_]=_
  rw [List.length_map];rfl
 rintro i ⟨hi,hall⟩
 repeat' (first|refine Zs rfl ?_|refine Zc rfl ?_|refine Zd rfl ?_|refine Qh ?_|refine Qk ?_|refine Zk ?_|refine Qw (by kernel_rfl) ?_|refine Zt rfl ?_)
 refine a0g rfl (fun k1=>?_) (fun k1=>?_)
 ·have hil:i<l.length:=by omega
  obtain ⟨x,hx⟩:∃x,l[i]?=some x:=⟨_,List.getElem?_eq_getElem hil⟩
  have hiw:IntKind.i64.wrap ((i:Int)+1)=((i+1:Nat):Int):=a0r (by omega) (by omega)
  rw [b2y hx] at hall
  have hxi:∀{n},a0d n (.fp (prL x)):=b1U x
  repeat' (first|refine Zs rfl ?_|refine Zc rfl ?_|refine Zd rfl ?_|refine Qh ?_|refine Qk ?_|refine Zk ?_|refine Qw (by kernel_rfl) ?_|refine Zt rfl ?_)
  refine Qa rfl ?_
  refine a0C hx rfl rfl rfl rfl rfl rfl rfl (by first|rfl|omega) rfl ?_
  first|refine nx rfl rfl ?_|refine nx0 ?_
  repeat' (first|refine Zs rfl ?_|refine Zd rfl ?_|refine Zk ?_|refine Zt rfl ?_)
  refine Zh (Kz 0 [0,9,25,26,27] 0 a0X rfl rfl ⟨hii,hxi,hpi,trivial,trivial,trivial⟩ ?_)
  repeat' (first|refine Zs rfl ?_|refine Zc rfl ?_|refine Zd rfl ?_|refine Qh ?_|refine Qk ?_|refine Zk ?_|refine Qw (by kernel_rfl) ?_|refine Zt rfl ?_)
  refine Zp rfl rfl (hlp) rfl ?_
  repeat' (first|refine Zs rfl ?_|refine Zc rfl ?_|refine Zd rfl ?_|refine Qh ?_|refine Qk ?_|refine Zk ?_|refine Qw (by kernel_rfl) ?_|refine Zt rfl ?_)
  refine a0s (fun q:Nat × Bool=>⟨[(0,.sl 1 (v.image.map u8A)),(9,.fp (prL x)),(10,.bool q.2),(25,.sl 6 (l.map prA)),(26,.int .i64 (l.length:Int)),(27,.int .i64 (i:Int)),(32,.sl 10 (b.map rgA)),(33,.int .i64 (b.length:Int)),(34,.int .i64 (q.1:Int))],[]⟩) (fun q=>q.1<=b.length/\(q.2 || (b.drop q.1).any fun r=>a4O v r x)=b.any fun r=>a4O v r x) (fun q=>b.length - q.1) (0,false) ⟨Nat.zero_le _,rfl⟩ ?_ ?_
  ·refine ik0 ?_ ⟨hii,hxi,trivial,hpi,trivial,trivial,hbi,trivial,trivial,trivial⟩
   show [_,_,_,_,_,_,_,AV.int .i64 _,_]=_
   rw [List.length_map];rfl
  rintro ⟨j,f⟩ ⟨hj,hany⟩
  have hj:j<=b.length:=hj
  repeat' (first|refine Zs rfl ?_|refine Zc rfl ?_|refine Zd rfl ?_|refine Qh ?_|refine Qk ?_|refine Zk ?_|refine Qw (by kernel_rfl) ?_|refine Zt rfl ?_)
  refine a0g rfl (fun k2=>?_) (fun k2=>?_)
  ·have hjl:j<b.length:=by have:(j:Int)<(b.length:Int):=k2;omega
   obtain ⟨r,hr⟩:∃r,b[j]?=some r:=⟨_,List.getElem?_eq_getElem hjl⟩
   have hjw:IntKind.i64.wrap ((j:Int)+1)=((j+1:Nat):Int):=a0r (by omega) (by omega)
   have hany:(f || (b.drop j).any fun r=>a4O v r x)=b.any fun r=>a4O v r x:=hany
   rw [b2A hr,<- Bool.or_assoc] at hany
   obtain ⟨hso,hhb⟩:=hbo r (List.mem_of_getElem? hr)
   have hqn:=a5c hhb
   have hri:∀{n},a0d n (.fp (rgL r)):=a3d r
   repeat' (first|refine Zs rfl ?_|refine Zc rfl ?_|refine Zd rfl ?_|refine Qh ?_|refine Qk ?_|refine Zk ?_|refine Qw (by kernel_rfl) ?_|refine Zt rfl ?_)
   refine Qa rfl ?_
   refine a0C hr rfl rfl rfl rfl rfl rfl rfl (by first|rfl|omega) rfl ?_
   first|refine nx rfl rfl ?_|refine nx0 ?_
   repeat' (first|refine Zs rfl ?_|refine Zd rfl ?_|refine Zk ?_|refine Zt rfl ?_)
   refine Zh (Kz 0 [0,9,10,12,25,26,27,32,33,34] 0 a0X rfl rfl ⟨hii,hxi,trivial,hri,hpi,trivial,trivial,hbi,trivial,trivial,trivial⟩ ?_)
   repeat' (first|refine Zs rfl ?_|refine Zc rfl ?_|refine Zd rfl ?_|refine Qh ?_|refine Qk ?_|refine Zk ?_|refine Qw (by kernel_rfl) ?_|refine Zt rfl ?_)
   refine a0g rfl (fun k3=>?_) (fun k3=>?_)
   ·have hle:a4O v r x=false:=if_neg fun h=>k3 h.1
    rw [hle,Bool.or_false] at hany
    repeat' (first|refine Zs rfl ?_|refine Zc rfl ?_|refine Zd rfl ?_|refine Qh ?_|refine Qk ?_|refine Zk ?_|refine Qw (by kernel_rfl) ?_|refine Zt rfl ?_)
    refine ⟨(j+1,f),⟨by show j+1<=b.length;omega,hany⟩,by show b.length - (j+1)<b.length - j;omega,?_⟩
    rw [hjw]
    exact ik0 rfl ⟨hii,hxi,trivial,hpi,trivial,trivial,hbi,trivial,trivial,trivial⟩
   have k3:r.h.seq=x.2.seq:=Decidable.not_not.1 k3
   have hsp:Pur (E0 X) 54 [.sl 1 (v.image.map u8A),laA r.l,.int .i64 r.h.slot,.int .i64 r.h.seq] (.sl 1 ((stm v r).map u8A)):=⟨⟨hii,a1g,trivial,trivial,trivial⟩,fun Y=>by
    have h:=b0O Y v.image (by omega) r.l r.h.slot r.h.seq.toNat hso (by omega) (by omega)
    rw [Int.toNat_of_nonneg (by omega)] at h
    exact h⟩
   have hsl:(stm v r).length<=59*(r.l.rs.toNat - 1):=a7n ..
   have hrs:=a1z hso.1
   repeat' (first|refine Zs rfl ?_|refine Zc rfl ?_|refine Zd rfl ?_|refine Qh ?_|refine Qk ?_|refine Zk ?_|refine Qw (by kernel_rfl) ?_|refine Zt rfl ?_)
   refine Zp rfl rfl (hsp) rfl ?_
   repeat' (first|refine Zs rfl ?_|refine Zd rfl ?_|refine Zk ?_|refine Zt rfl ?_)
   refine Zh (Zc rfl (Zc rfl (Zb rfl rfl ?_)))
   refine a0I rfl (fun kb=>?_) (fun kb=>?_)
   ·have hnb:¬ inB (stm v r) x.2:=by
     rintro ⟨a1,a2,a3,a4⟩
     have hw:IntKind.i64.wrap (((stm v r).length:Int) - x.2.off)=((stm v r).length:Int) - x.2.off:=a0x rfl (by omega) (by omega)
     simp only [List.length_map,hw] at kb
     clear hw
     grind
    have hle:a4O v r x=false:=if_neg fun h=>hnb h.2
    rw [hle,Bool.or_false] at hany
    repeat' (first|refine Zs rfl ?_|refine Zc rfl ?_|refine Zd rfl ?_|refine Qh ?_|refine Qk ?_|refine Zk ?_|refine Qw (by kernel_rfl) ?_|refine Zt rfl ?_)
    refine ⟨(j+1,f),⟨by show j+1<=b.length;omega,hany⟩,by show b.length - (j+1)<b.length - j;omega,?_⟩
    rw [hjw]
    exact ik0 rfl ⟨hii,hxi,trivial,hpi,trivial,trivial,hbi,trivial,trivial,trivial⟩
   have hin:inB (stm v r) x.2:=by
    have hw:0<=x.2.off->x.2.off<=((stm v r).length:Int)->IntKind.i64.wrap (((stm v r).length:Int) - x.2.off)=((stm v r).length:Int) - x.2.off:=fun a b=>a0x rfl (by omega) (by omega)
    simp only [List.length_map] at kb
    unfold inB
    grind
   have hle:a4O v r x=a6o x (a5v r.l.ver r.h.seq.toNat x.2.off.toNat (((stm v r).drop x.2.off.toNat).take x.2.len.toNat)):=if_pos ⟨k3,hin⟩
   rw [hle] at hany
   obtain ⟨a1,a2,a3,a4⟩:=hin
   refine Zc rfl (Zc rfl ?_)
   refine a0n [26,27] [0,1,2,3,4,5,6,7,8,9,10,11,12,13,14,15,16,17,18,19,20,21,22,23,24,25,28,29] (by exact rfl) ?_
   refine a0y (fuel:=0) [0,1,2,3,4,5,6,7,8,9,10,11,12,13,14,15,16,17,18,19,20,21,22,23,24,25,26,27,28,29] (by exact rfl) (by kernel_rfl) (by kernel_rfl) ?_
   repeat' (first|refine Zs rfl ?_|refine Zc rfl ?_|refine Zd rfl ?_|refine Qh ?_|refine Qk ?_|refine Zk ?_|refine Qw (by kernel_rfl) ?_|refine Zt rfl ?_)
   have hno:x.2.off=((x.2.off.toNat:Nat):Int):=(Int.toNat_of_nonneg a1).symm
   have hnl:x.2.len=((x.2.len.toNat:Nat):Int):=(Int.toNat_of_nonneg a2).symm
   have hsum:IntKind.i64.wrap (x.2.off+x.2.len)=((x.2.off.toNat+x.2.len.toNat:Nat):Int):=by
    rw [show x.2.off+x.2.len=((x.2.off.toNat+x.2.len.toNat:Nat):Int) by omega]
    exact a0r (by omega) (by omega)
   apply a0O rfl rfl rfl rfl
   ·intro H9
    refine a1f (l:=x.2.off.toNat) (h:=x.2.off.toNat+x.2.len.toNat) (ys:=((stm v r).drop x.2.off.toNat).take x.2.len.toNat) (a0q rfl hno) (a0q rfl hsum) (by omega) (by omega) (by rw [List.drop_take,Nat.add_sub_cancel_left]) rfl rfl rfl rfl rfl ?_
    exact nx0 ⟨rfl,rfl⟩
   repeat' (first|refine Zs rfl ?_|refine Zc rfl ?_|refine Zd rfl ?_|refine Qh ?_|refine Qk ?_|refine Zk ?_|refine Qw (by kernel_rfl) ?_|refine Zt rfl ?_)
   have hsd:∀Y,a0b (E0 Y) 25 [.int .i64 r.l.ver,.int .i64 r.h.seq,.int .i64 x.2.off,.sl 1 ((((stm v r).drop x.2.off.toNat).take x.2.len.toNat).map u8A)] [] (fun q H'=>q=c2D (a5v r.l.ver r.h.seq.toNat x.2.off.toNat (((stm v r).drop x.2.off.toNat).take x.2.len.toNat))/\H'=[]):=fun Y=>by
    have h:=b7D Y r.l.ver (a9f hso.1) r.h.seq.toNat x.2.off.toNat (((stm v r).drop x.2.off.toNat).take x.2.len.toNat) (by omega) (by omega) (by rw [List.length_take,List.length_drop];omega)
    rw [Int.toNat_of_nonneg (by omega),Int.toNat_of_nonneg a1] at h
    exact h
   generalize (((stm v r).drop x.2.off.toNat).take x.2.len.toNat)=bs at *
   apply a0O rfl rfl rfl rfl
   ·intro H9
    refine a1c (fun _=>rfl) rfl ?_
    refine a0b.mono (a0f (E:=E0 X) hsd ⟨trivial,trivial,trivial,a0h fun _=>a0k,trivial⟩ _) ?_
    rintro r' H' ⟨rfl,rfl⟩
    exact nx0 ⟨rfl,rfl⟩
   cases hdr:a5v r.l.ver r.h.seq.toNat x.2.off.toNat bs with
   | none =>
    rw [hdr] at hany
    repeat' (first|refine Zs rfl ?_|refine Zc rfl ?_|refine Zd rfl ?_|refine Qh ?_|refine Qk ?_|refine Zk ?_|refine Qw (by kernel_rfl) ?_|refine Zt rfl ?_)
    cases f with
    | true =>
     repeat' (first|refine Zs rfl ?_|refine Zc rfl ?_|refine Zd rfl ?_|refine Qh ?_|refine Qk ?_|refine Zk ?_|refine Qw (by kernel_rfl) ?_|refine Zt rfl ?_)
     refine ⟨(j+1,true),⟨by show j+1<=b.length;omega,by simpa using hany⟩,by show b.length - (j+1)<b.length - j;omega,?_⟩
     rw [hjw]
     exact ik0 rfl ⟨hii,hxi,trivial,hpi,trivial,trivial,hbi,trivial,trivial,trivial⟩
    | false =>
     repeat' (first|refine Zs rfl ?_|refine Zc rfl ?_|refine Zd rfl ?_|refine Qh ?_|refine Qk ?_|refine Zk ?_|refine Qw (by kernel_rfl) ?_|refine Zt rfl ?_)
     refine ⟨(j+1,false),⟨by show j+1<=b.length;omega,by simpa [a6o] using hany⟩,by show b.length - (j+1)<b.length - j;omega,?_⟩
     rw [hjw]
     exact ik0 rfl ⟨hii,hxi,trivial,hpi,trivial,trivial,hbi,trivial,trivial,trivial⟩
   | some y =>
    rw [hdr] at hany
    repeat' (first|refine Zs rfl ?_|refine Zc rfl ?_|refine Zd rfl ?_|refine Qh ?_|refine Qk ?_|refine Zk ?_|refine Qw (by kernel_rfl) ?_|refine Zt rfl ?_)
    cases f with
    | true =>
     repeat' (first|refine Zs rfl ?_|refine Zc rfl ?_|refine Zd rfl ?_|refine Qh ?_|refine Qk ?_|refine Zk ?_|refine Qw (by kernel_rfl) ?_|refine Zt rfl ?_)
     refine ⟨(j+1,true),⟨by show j+1<=b.length;omega,by simpa using hany⟩,by show b.length - (j+1)<b.length - j;omega,?_⟩
     rw [hjw]
     exact ik0 rfl ⟨hii,hxi,trivial,hpi,trivial,trivial,hbi,trivial,trivial,trivial⟩
    | false =>
     repeat' (first|refine Zs rfl ?_|refine Zc rfl ?_|refine Zd rfl ?_|refine Qh ?_|refine Qk ?_|refine Zk ?_|refine Qw (by kernel_rfl) ?_|refine Zt rfl ?_)
     by_cases m2:(a1M y:Int)=x.2.len
     ·rw [decide_eq_true m2]
      repeat' (first|refine Zs rfl ?_|refine Zc rfl ?_|refine Zd rfl ?_|refine Qh ?_|refine Qk ?_|refine Zk ?_|refine Qw (by kernel_rfl) ?_|refine Zt rfl ?_)
      by_cases m3:y.kind=1
      ·rw [decide_eq_true m3]
       repeat' (first|refine Zs rfl ?_|refine Zc rfl ?_|refine Zd rfl ?_|refine Qh ?_|refine Qk ?_|refine Zk ?_|refine Qw (by kernel_rfl) ?_|refine Zt rfl ?_)
       refine Qa rfl ?_
       refine a4u (l:=y.key) rfl rfl rfl rfl rfl rfl rfl ?_
       first|refine nx rfl rfl ?_|refine nx0 ?_
       repeat' (first|refine Zs rfl ?_|refine Zc rfl ?_|refine Zd rfl ?_|refine Qh ?_|refine Qk ?_|refine Zk ?_|refine Qw (by kernel_rfl) ?_|refine Zt rfl ?_)
       by_cases m4:y.key=x.1
       ·rw [decide_eq_true m4]
        repeat' (first|refine Zs rfl ?_|refine Zc rfl ?_|refine Zd rfl ?_|refine Qh ?_|refine Qk ?_|refine Zk ?_|refine Qw (by kernel_rfl) ?_|refine Zt rfl ?_)
        refine ⟨(j+1,decide (y.exp=x.2.exp)),⟨by show j+1<=b.length;omega,by simpa [a6o,m2,m3,m4] using hany⟩,by show b.length - (j+1)<b.length - j;omega,?_⟩
        rw [hjw]
        exact ik0 rfl ⟨hii,hxi,trivial,hpi,trivial,trivial,hbi,trivial,trivial,trivial⟩
       rw [decide_eq_false m4]
       repeat' (first|refine Zs rfl ?_|refine Zc rfl ?_|refine Zd rfl ?_|refine Qh ?_|refine Qk ?_|refine Zk ?_|refine Qw (by kernel_rfl) ?_|refine Zt rfl ?_)
       refine ⟨(j+1,false),⟨by show j+1<=b.length;omega,by simpa [a6o,m4] using hany⟩,by show b.length - (j+1)<b.length - j;omega,?_⟩
       rw [hjw]
       exact ik0 rfl ⟨hii,hxi,trivial,hpi,trivial,trivial,hbi,trivial,trivial,trivial⟩
      rw [decide_eq_false m3]
      repeat' (first|refine Zs rfl ?_|refine Zc rfl ?_|refine Zd rfl ?_|refine Qh ?_|refine Qk ?_|refine Zk ?_|refine Qw (by kernel_rfl) ?_|refine Zt rfl ?_)
      refine ⟨(j+1,false),⟨by show j+1<=b.length;omega,by simpa [a6o,m3] using hany⟩,by show b.length - (j+1)<b.length - j;omega,?_⟩
      rw [hjw]
      exact ik0 rfl ⟨hii,hxi,trivial,hpi,trivial,trivial,hbi,trivial,trivial,trivial⟩
     rw [decide_eq_false m2]
     repeat' (first|refine Zs rfl ?_|refine Zc rfl ?_|refine Zd rfl ?_|refine Qh ?_|refine Qk ?_|refine Zk ?_|refine Qw (by kernel_rfl) ?_|refine Zt rfl ?_)
     refine ⟨(j+1,false),⟨by show j+1<=b.length;omega,by simpa [a6o,m2] using hany⟩,by show b.length - (j+1)<b.length - j;omega,?_⟩
     rw [hjw]
     exact ik0 rfl ⟨hii,hxi,trivial,hpi,trivial,trivial,hbi,trivial,trivial,trivial⟩
  have hjj:j=b.length:=by have:¬ (j:Int)<(b.length:Int):=k2;omega
  have hany:(f || (b.drop j).any fun r=>a4O v r x)=b.any fun r=>a4O v r x:=hany
  rw [hjj,List.drop_length] at hany
  have hf:f=b.any fun r=>a4O v r x:=by rw [<- hany];simp
  rw [<- hf] at hall
  cases f with
  | false =>
   repeat' (first|refine Zs rfl ?_|refine Zc rfl ?_|refine Zd rfl ?_|refine Qh ?_|refine Qk ?_|refine Zk ?_|refine Qw (by kernel_rfl) ?_|refine Zt rfl ?_)
   refine a0c ⟨_,rfl,congrArg AV.bool hall⟩
  | true =>
   repeat' (first|refine Zs rfl ?_|refine Zc rfl ?_|refine Zd rfl ?_|refine Qh ?_|refine Qk ?_|refine Zk ?_|refine Qw (by kernel_rfl) ?_|refine Zt rfl ?_)
   refine ⟨i+1,⟨by omega,hall⟩,by omega,?_⟩
   rw [hiw]
   exact ik0 rfl ⟨hii,hpi,trivial,trivial,trivial⟩
 have hie:i=l.length:=by omega
 rw [hie,List.drop_length] at hall
 repeat' (first|refine Zs rfl ?_|refine Zc rfl ?_|refine Zd rfl ?_|refine Qh ?_|refine Qk ?_|refine Zk ?_|refine Qw (by kernel_rfl) ?_|refine Zt rfl ?_)
 refine a0c ⟨_,rfl,congrArg AV.bool hall⟩
theorem c3l{α:Type}{T:List α}{m o n:Nat}(h:o+n<=m):((T.take m).drop o).take n=(T.drop o).take n:=by
 rw [List.drop_take,List.take_take,Nat.min_eq_left (by omega)]
theorem b6r{L:Nat}{v:Dv}(hv:Lv L v){r:Rg}(hso:a2i r.l r.h.slot)(hb:hdB r.h=true)(x:Pr):a4O v r x=a6n v r x:=by
 have hq:=a5c hb
 have hrs:=a1z hso.1
 have hcap:c0D r.l=59*(r.l.rs - 1):=by unfold c0D;rw [if_pos hso.1,Int.mul_comm]
 unfold a4O a6n
 by_cases hs:r.h.seq=x.2.seq
 ·rw [decide_eq_true hs,Bool.true_and,<- hs]
  unfold c7C
  simp only [a8h hv]
  obtain ⟨T,hT⟩:∃T,T=stm v r:=⟨_,rfl⟩
  have hTl:T.length<=59*(r.l.rs.toNat - 1):=by rw [hT];exact a7n ..
  have hpre:∀k,k<=r.l.rs.toNat - 1->a4L v.image r.h.seq.toNat k ((74+r.h.slot*r.l.rs).toNat+1)=T.take (59*k):=fun k hk=>by rw [hT];exact b0X v.image r.h.seq.toNat k _ _ hk
  rw [<- hT]
  by_cases hin:inB T x.2
  ·rw [if_pos (by simp [hin])]
   obtain ⟨a1,a2,a3,a4⟩:=hin
   have hk:((x.2.off+x.2.len).toNat+58) / 59<=r.l.rs.toNat - 1:=by omega
   rw [hpre _ hk,if_pos ⟨a1,a2,by rw [hcap];omega,hso,hq.2.2.1,hq.2.2.2.1,by rw [List.length_take];omega⟩]
   rw [c3l (by omega)]
  rw [if_neg (by simp [hin])]
  rw [if_neg]
  rintro ⟨a1,a2,a3,_,_,_,a4⟩
  rw [hcap] at a3
  have hk:((x.2.off+x.2.len).toNat+58) / 59<=r.l.rs.toNat - 1:=by omega
  rw [hpre _ hk,List.length_take] at a4
  exact hin ⟨a1,a2,by omega,by omega⟩
 ·rw [decide_eq_false hs,if_neg fun h=>hs h.1];rfl
theorem c3L{L:Nat}{v:Dv}(hv:Lv L v)(l:List Pr):b1Z v l=b5L v l:=by
 unfold b1Z b5L
 have ho:∀r∈lvO v,a2i r.l r.h.slot/\hdB r.h=true:=fun r hr=>b3n hv hr
 cases hf:a5A v with
 | none=>rfl
 | some p =>
  have hlo:lvO v=p.2:=by unfold lvO;rw [hf]
  rw [hlo] at ho ⊢
  show l.all _=l.all _
  congr 1
  funext x
  rw [Bool.eq_iff_iff,List.any_eq_true,List.any_eq_true]
  constructor
  ·rintro ⟨r,hr,h⟩;exact ⟨r,hr,by rw [<- b6r hv (ho r hr).1 (ho r hr).2];exact h⟩
  ·rintro ⟨r,hr,h⟩;exact ⟨r,hr,by rw [b6r hv (ho r hr).1 (ho r hr).2];exact h⟩
end Go.Abs
