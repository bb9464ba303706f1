/- check.Device. Joined texts, each with what its own name promises; no condition beyond those stated. -/
import Derived.Test.YtkmmdlicifiknaaGreatDoorCU
import Derived.Test.YtkmmdlicifiknaaGreatDoorCS
import Derived.Test.YtkmmdlicifiknaaGreatDoorCT
set_option maxHeartbeats 0
set_option maxRecDepth 100000
set_option linter.all false
namespace Go.Abs
structure Rp where
 recs:Int
 bytes:Int
 dis:Bool
 uni:Bool
 tails:Bool
def rpL(c n:Int)(q:Rp):List AV:=[.int .i64 c,.int .i64 n,.int .i64 q.recs,.int .i64 q.bytes,.bool q.dis,.bool q.uni,.bool q.tails]
def rp0:Rp:=⟨0,0,false,false,false⟩
def rp1:Rp:=⟨0,0,true,true,true⟩
def a2D(q:Rp)(f:Nat × Rec):Rp:={ q with recs:=IntKind.i64.wrap (q.recs+1),bytes:=IntKind.i64.wrap (q.bytes+(a1M f.2:Int)) }
def a2J(r:Rg)(q:Rp)(s:Rg):Rp:={ q with dis:=q.dis&&!ovB r.l r.h.slot s.l s.h.slot,uni:=q.uni&&decide (r.h.seq≠s.h.seq),tails:=q.tails&&((decide (r.h.seq<=s.h.seq) || decide (s.h.tail<=r.h.tail))&&(decide (s.h.seq<=r.h.seq) || decide (r.h.tail<=s.h.tail))) }
def a6g(v:Dv)(b:List Rg):Nat->Rp
 | 0=>rp1
 | i+1=>match b[i]? with
  | none=>a6g v b i
  | some r=>(b.take i).foldl (a2J r) ((a5Y v.image r).foldl a2D (a6g v b i))
def b4Y(v:Dv):AV:=match a5A v with
 | none=>.tup [.agg (rpL 0 0 rp0),.int .i64 4]
 | some p=>.tup [.agg (rpL p.1.length p.2.length (a6g v p.2 p.2.length)),.int .i64 0]
theorem a3f{n:Nat}(c k:Int)(q:Rp):a0d n (.fp (rpL c k q)):=⟨trivial,trivial,trivial,trivial,trivial,trivial,trivial,trivial⟩
theorem b8U(v:Dv){n:Nat}:a0d n (b4Y v):=by
 unfold b4Y
 cases a5A v with
 | none=>exact ⟨a3f 0 0 rp0,trivial,trivial⟩
 | some p=>exact ⟨a3f _ _ _,trivial,trivial⟩
def dvR(c k:Int)(q:Rp):Hp:=[some (.cells (rpL 0 0 rp0) 36),some (.cells (rpL c k q) 36)]
theorem a2g(v:Dv)(c k:Int)(q:Rp):HOk 5 (a0K v++dvR c k q):=fun j o' ho=>by
 match j,ho with
 | 0,ho=>cases ho;exact ⟨by simp [a0d],by simp [a0d],trivial,trivial,trivial,trivial⟩
 | 1,ho=>cases ho;exact a0h fun _=>a0k
 | 2,ho=>cases ho;exact ⟨by rw [List.map_map];exact a0h fun _=>trivial,by rw [List.map_map];exact a0h fun p=>(a0h (f:=u8A) fun _=>a0k:a0e _ (p.2.map u8A))⟩
 | 3,ho=>cases ho;exact a3f 0 0 rp0
 | 4,ho=>cases ho;exact a3f c k q
theorem a6i{α β:Type}{f:β->α->β}{l:List α}{i:Nat}{x:α}{q:β}(h:l[i]?=some x):(l.take (i+1)).foldl f q=f ((l.take i).foldl f q) x:=by
 obtain ⟨hi,rfl⟩:=List.getElem?_eq_some_iff.1 h
 rw [List.take_succ_eq_append_getElem hi,List.foldl_append];rfl
attribute [local irreducible] a0z a1p AWp Nx awM
theorem a6h(X:Nat->Prop)(v:Dv)(L:Nat)(hv:Lv L v)(hL:L<=20000):a0b (E0 X) 11 [.ptr 0 0] (a0K v) (fun r H'=>r=b4Y v/\H'=a0K v):=by
 have hfc:∀Y,a0b (E0 Y) 46 [.ptr 0 0] (a0K v) (fun r H'=>r=c5t (a5A v)/\H'=a0K v):=fun Y=>by
  have h:=b5x Y v L hv hL
  rw [b2X] at h
  exact h
 have hda:∀o,a5A v=o->b4Y v=match (motive:=Option (List Rg × List Rg)->AV) o with
   | none=>.tup [.agg (rpL 0 0 rp0),.int .i64 4]
   | some p=>.tup [.agg (rpL p.1.length p.2.length (a6g v p.2 p.2.length)),.int .i64 0]:=fun o h=>by subst h;rfl
 have hids:∀o,a0d 0 (c5t o):=fun o=>by
  cases o with
  | none=>exact ⟨trivial,trivial,trivial,trivial⟩
  | some p=>exact ⟨a1d _,a1d _,trivial,trivial⟩
 refine a0b.cutD ?_ (b8U v)
 refine Z0 Proofs.Tryz.func11 rfl Proofs.Tryz.ntmps11 (by kernel_rfl) rfl ?_
 repeat' (first|refine Zs rfl ?_|refine Zc rfl ?_|refine Zd rfl ?_|refine Qh ?_|refine Qk ?_|refine Zk ?_|refine Qw (by kernel_rfl) ?_|refine Zt rfl ?_)
 cases hfl:a5A v with
 | none =>
  rw [hfl] at hfc
  refine Zf rfl rfl (a2U hfc trivial (hids none) [some (.cells (rpL 0 0 rp0) 36)] (X:=X)) rfl rfl rfl ?_
  repeat' (first|refine Zs rfl ?_|refine Zc rfl ?_|refine Zd rfl ?_|refine Qh ?_|refine Qk ?_|refine Zk ?_|refine Qw (by kernel_rfl) ?_|refine Zt rfl ?_)
  refine a0c ⟨_,rfl,⟨(hda _ hfl).symm,rfl⟩⟩
 | some p =>
  obtain ⟨a,b⟩:=p
  obtain ⟨ha,hb,hbh⟩:=b1y hv hfl
  have hbo:∀r∈b,a2i r.l r.h.slot/\hdB r.h=true:=fun r hr=>b3n hv (by unfold lvO;rw [hfl];exact hr)
  rw [hfl] at hfc
  have hai:∀{n},a0e n (a.map rgA):=a1d a
  have hbi:∀{n},a0e n (b.map rgA):=a1d b
  refine Zf rfl rfl (a2U hfc trivial (hids (some (a,b))) [some (.cells (rpL 0 0 rp0) 36)] (X:=X)) rfl rfl rfl ?_
  repeat' (first|refine Zs rfl ?_|refine Zc rfl ?_|refine Zd rfl ?_|refine Qh ?_|refine Qk ?_|refine Zk ?_|refine Qw (by kernel_rfl) ?_|refine Zt rfl ?_)
  rw [show (List.map rgA (a,b).fst).length=a.length from List.length_map _,show (List.map rgA (a,b).snd).length=b.length from List.length_map _]
  refine a0s (fun i:Nat=>⟨[(0,.ptr 0 0),(2,.ptr 3 0),(3,.int .i64 0),(5,.sl 10 (b.map rgA)),(7,.ptr 4 0),(31,.sl 10 (b.map rgA)),(32,.int .i64 (b.length:Int)),(33,.int .i64 (i:Int))],a0K v++dvR a.length b.length (a6g v b i)⟩) (fun i=>i<=b.length) (fun i=>b.length - i) 0 (Nat.zero_le _) ?_ ?_
  ·exact kk 5 (a2g v _ _ _) rfl ⟨by simp [a0d],by simp [a0d],trivial,hbi,by simp [a0d],hbi,trivial,trivial,trivial⟩
  intro i hi
  repeat' (first|refine Zs rfl ?_|refine Zc rfl ?_|refine Zd rfl ?_|refine Qh ?_|refine Qk ?_|refine Zk ?_|refine Qw (by kernel_rfl) ?_|refine Zt rfl ?_)
  refine a0g rfl (fun k1=>?_) (fun k1=>?_)
  ·have hil:i<b.length:=by omega
   obtain ⟨r,hr⟩:∃r,b[i]?=some r:=⟨_,List.getElem?_eq_getElem hil⟩
   have hiw:IntKind.i64.wrap ((i:Int)+1)=((i+1:Nat):Int):=a0r (by omega) (by omega)
   have hri:∀{n},a0d n (.fp (rgL r)):=a3d r
   have hdn:a6g v b (i+1)=(b.take i).foldl (a2J r) ((a5Y v.image r).foldl a2D (a6g v b i)):=by
    show (match b[i]? with|none=>_|some r=>_)=_
    rw [hr]
   generalize hq0:a6g v b i=q0 at *
   repeat' (first|refine Zs rfl ?_|refine Zc rfl ?_|refine Zd rfl ?_|refine Qh ?_|refine Qk ?_|refine Zk ?_|refine Qw (by kernel_rfl) ?_|refine Zt rfl ?_)
   refine Qa rfl ?_
   refine a0C hr rfl rfl rfl rfl rfl rfl rfl (by first|rfl|omega) rfl ?_
   first|refine nx rfl rfl ?_|refine nx0 ?_
   repeat' (first|refine Zs rfl ?_|refine Zd rfl ?_|refine Zk ?_|refine Zt rfl ?_)
   refine Zh (Kz 5 [0,2,3,5,7,8,9,31,32,33] 5 (a2g v _ _ _) rfl rfl ⟨by simp [a0d],by simp [a0d],trivial,hbi,by simp [a0d],trivial,hri,hbi,trivial,trivial,trivial⟩ ?_)
   repeat' (first|refine Zs rfl ?_|refine Zc rfl ?_|refine Zd rfl ?_|refine Qh ?_|refine Qk ?_|refine Zk ?_|refine Qw (by kernel_rfl) ?_|refine Zt rfl ?_)
   obtain ⟨hso,hhb⟩:=hbo r (List.mem_of_getElem? hr)
   have hqn:=a5c hhb
   have hreg:∀Y,a0b (E0 Y) 47 [.ptr 0 0,laA r.l,.int .i64 r.h.slot,.int .i64 r.h.seq] (a0K v) (fun x H'=>x=.sl 6 ((a5Y v.image r).map foA)/\H'=a0K v):=fun Y=>by
    have h:=b7W Y v hv.inv r.l r.h.slot r.h.seq.toNat hso (by omega) (by omega)
    rw [Int.toNat_of_nonneg (by omega),a8h hv] at h
    exact h
   have hfn:(a5Y v.image r).length<=1000000:=by
    have:=a7i v.image r
    have:=hv.len
    omega
   generalize hfo:a5Y v.image r=fo at *
   have hfi:∀{n},a0e n (fo.map foA):=a0h fun _=>a2f
   refine Zf rfl rfl (a2U hreg ⟨a1g,trivial,trivial,trivial⟩ hfi (dvR a.length b.length q0) (X:=X)) rfl rfl rfl ?_
   repeat' (first|refine Zs rfl ?_|refine Zc rfl ?_|refine Zd rfl ?_|refine Qh ?_|refine Qk ?_|refine Zk ?_|refine Qw (by kernel_rfl) ?_|refine Zt rfl ?_)
   refine a0s (fun j:Nat=>⟨[(0,.ptr 0 0),(2,.ptr 3 0),(3,.int .i64 0),(5,.sl 10 (b.map rgA)),(7,.ptr 4 0),(8,.int .i64 (i:Int)),(9,.fp (rgL r)),(31,.sl 10 (b.map rgA)),(32,.int .i64 (b.length:Int)),(33,.int .i64 (i:Int)),(47,.sl 6 (fo.map foA)),(48,.int .i64 (fo.length:Int)),(49,.int .i64 (j:Int))],a0K v++dvR a.length b.length ((fo.take j).foldl a2D q0)⟩) (fun j=>j<=fo.length) (fun j=>fo.length - j) 0 (Nat.zero_le _) ?_ ?_
   ·refine a0j 5 (Nat.le_of_ble_eq_true rfl) (a2g v _ _ _) rfl (Nat.le_refl 5) ?_
    exact a0a ⟨rfl,by simp [a0d]⟩ (a0a ⟨rfl,by simp [a0d]⟩ (a0a ⟨rfl,trivial⟩ (a0a ⟨rfl,hbi⟩ (a0a ⟨rfl,by simp [a0d]⟩ (a0a ⟨rfl,trivial⟩ (a0a ⟨rfl,hri⟩ (a0a ⟨rfl,hbi⟩ (a0a ⟨rfl,trivial⟩ (a0a ⟨rfl,trivial⟩ (a0a ⟨rfl,hfi⟩ (a0a ⟨by rw [List.length_map];rfl,trivial⟩ (a0a ⟨rfl,trivial⟩ a0l))))))))))))
   intro j hj
   repeat' (first|refine Zs rfl ?_|refine Zc rfl ?_|refine Zd rfl ?_|refine Qh ?_|refine Qk ?_|refine Zk ?_|refine Qw (by kernel_rfl) ?_|refine Zt rfl ?_)
   refine a0g rfl (fun k2=>?_) (fun k2=>?_)
   ·have hjl:j<fo.length:=by omega
    obtain ⟨f,hf⟩:∃f,fo[j]?=some f:=⟨_,List.getElem?_eq_getElem hjl⟩
    have hjw:IntKind.i64.wrap ((j:Int)+1)=((j+1:Nat):Int):=a0r (by omega) (by omega)
    have hfs:=a6i (f:=a2D) (q:=q0) hf
    generalize hqj:(fo.take j).foldl a2D q0=qj at *
    repeat' (first|refine Zs rfl ?_|refine Zc rfl ?_|refine Zd rfl ?_|refine Qh ?_|refine Qk ?_|refine Zk ?_|refine Qw (by kernel_rfl) ?_|refine Zt rfl ?_)
    refine Qa rfl ?_
    refine a0C hf rfl rfl rfl rfl rfl rfl rfl (by first|rfl|omega) rfl ?_
    first|refine nx rfl rfl ?_|refine nx0 ?_
    repeat' (first|refine Zs rfl ?_|refine Zc rfl ?_|refine Zd rfl ?_|refine Qh ?_|refine Qk ?_|refine Zk ?_|refine Qw (by kernel_rfl) ?_|refine Zt rfl ?_)
    refine ⟨j+1,hjl,by omega,?_⟩
    rw [hfs,hjw]
    exact kk 5 (a2g v _ _ _) rfl ⟨by simp [a0d],by simp [a0d],trivial,hbi,by simp [a0d],trivial,hri,hbi,trivial,trivial,hfi,trivial,trivial,trivial⟩
   have hje:j=fo.length:=by omega
   rw [hje,List.take_length]
   generalize hq1:fo.foldl a2D q0=q1 at *
   repeat' (first|refine Zs rfl ?_|refine Zc rfl ?_|refine Zd rfl ?_|refine Qh ?_|refine Qk ?_|refine Zk ?_|refine Qw (by kernel_rfl) ?_|refine Zt rfl ?_)
   refine Qa rfl ?_
   refine a1f (l:=0) (h:=i) (ys:=b.take i) (a1u) (a0q rfl rfl) (by omega) (by omega) (by rw [List.drop_zero]) rfl rfl rfl rfl rfl ?_
   first|refine nx rfl rfl ?_|refine nx0 ?_
   repeat' (first|refine Zs rfl ?_|refine Zc rfl ?_|refine Zd rfl ?_|refine Qh ?_|refine Qk ?_|refine Zk ?_|refine Qw (by kernel_rfl) ?_|refine Zt rfl ?_)
   have hbti:∀{n},a0e n ((b.take i).map rgA):=a1d _
   have hbtl:(b.take i).length=i:=by rw [List.length_take];omega
   generalize hbt:b.take i=bt at *
   refine a0s (fun j:Nat=>⟨[(0,.ptr 0 0),(2,.ptr 3 0),(3,.int .i64 0),(5,.sl 10 (b.map rgA)),(7,.ptr 4 0),(9,.fp (rgL r)),(31,.sl 10 (b.map rgA)),(32,.int .i64 (b.length:Int)),(33,.int .i64 (i:Int)),(66,.sl 10 (bt.map rgA)),(67,.int .i64 (bt.length:Int)),(68,.int .i64 (j:Int))],a0K v++dvR a.length b.length ((bt.take j).foldl (a2J r) q1)⟩) (fun j=>j<=bt.length) (fun j=>bt.length - j) 0 (Nat.zero_le _) ?_ ?_
   ·refine a0j 5 (Nat.le_of_ble_eq_true rfl) (a2g v _ _ _) rfl (Nat.le_refl 5) ?_
    exact a0a ⟨rfl,by simp [a0d]⟩ (a0a ⟨rfl,by simp [a0d]⟩ (a0a ⟨rfl,trivial⟩ (a0a ⟨rfl,hbi⟩ (a0a ⟨rfl,by simp [a0d]⟩ (a0a ⟨rfl,hri⟩ (a0a ⟨rfl,hbi⟩ (a0a ⟨rfl,trivial⟩ (a0a ⟨rfl,trivial⟩ (a0a ⟨rfl,hbti⟩ (a0a ⟨by rw [List.length_map];rfl,trivial⟩ (a0a ⟨rfl,trivial⟩ a0l)))))))))))
   intro j hj
   repeat' (first|refine Zs rfl ?_|refine Zc rfl ?_|refine Zd rfl ?_|refine Qh ?_|refine Qk ?_|refine Zk ?_|refine Qw (by kernel_rfl) ?_|refine Zt rfl ?_)
   refine a0g rfl (fun k3=>?_) (fun k3=>?_)
   ·have hjl:j<bt.length:=by omega
    obtain ⟨s,hs⟩:∃s,bt[j]?=some s:=⟨_,List.getElem?_eq_getElem hjl⟩
    have hjw:IntKind.i64.wrap ((j:Int)+1)=((j+1:Nat):Int):=a0r (by omega) (by omega)
    have hfs:=a6i (f:=a2J r) (q:=q1) hs
    have hsi:∀{n},a0d n (.fp (rgL s)):=a3d s
    generalize hqj:(bt.take j).foldl (a2J r) q1=qj at *
    repeat' (first|refine Zs rfl ?_|refine Zc rfl ?_|refine Zd rfl ?_|refine Qh ?_|refine Qk ?_|refine Zk ?_|refine Qw (by kernel_rfl) ?_|refine Zt rfl ?_)
    refine Qa rfl ?_
    refine a0C hs rfl rfl rfl rfl rfl rfl rfl (by first|rfl|omega) rfl ?_
    first|refine nx rfl rfl ?_|refine nx0 ?_
    repeat' (first|refine Zs rfl ?_|refine Zd rfl ?_|refine Zk ?_|refine Zt rfl ?_)
    refine Zh (Kz 5 [0,2,3,5,7,9,13,31,32,33,66,67,68] 5 (a2g v _ _ _) rfl rfl ⟨by simp [a0d],by simp [a0d],trivial,hbi,by simp [a0d],hri,hsi,hbi,trivial,trivial,hbti,trivial,trivial,trivial⟩ ?_)
    refine Zc rfl ?_
    refine a1B (ι:=Unit) (fun _=>⟨[(0,.ptr 0 0),(2,.ptr 3 0),(3,.int .i64 0),(5,.sl 10 (b.map rgA)),(7,.ptr 4 0),(9,.fp (rgL r)),(13,.fp (rgL s)),(14,.fp (hdL r.h)),(15,.fp (hdL s.h)),(31,.sl 10 (b.map rgA)),(32,.int .i64 (b.length:Int)),(33,.int .i64 (i:Int)),(66,.sl 10 (bt.map rgA)),(67,.int .i64 (bt.length:Int)),(68,.int .i64 (j:Int))],a0K v++dvR a.length b.length qj⟩) (fun _=>True) ?_ ?_
    ·refine a0n [4,5,6,7] [0,1,2,3] (by exact rfl) ?_
     refine a0y (fuel:=4) [0,1,2,3] (by exact rfl) (by kernel_rfl) (by kernel_rfl) ?_
     repeat' (first|refine Zs rfl ?_|refine Zc rfl ?_|refine Zd rfl ?_|refine Qh ?_|refine Qk ?_|refine Zk ?_|refine Qw (by kernel_rfl) ?_|refine Zt rfl ?_)
     refine a1R [4,5] (by kernel_rfl) (br2 ?_ ?_)
     ·refine a1q rfl rfl rfl ?_
      refine a1C rfl rfl ?_
      first|refine nx rfl rfl ?_|refine nx0 ?_
      refine a0y (fuel:=0) [5,6,7] (by exact rfl) (by kernel_rfl) (by kernel_rfl) ?_
      repeat' (first|refine Zs rfl ?_|refine Zc rfl ?_|refine Zd rfl ?_|refine Qh ?_|refine Qk ?_|refine Zk ?_|refine Qw (by kernel_rfl) ?_|refine Zt rfl ?_)
      exact ⟨rfl,(),trivial,(a0w (id:=5) (cs:=hdL r.h) rfl).trans ((a0w (id:=6) (cs:=hdL s.h) rfl).trans (kk 5 (a2g v _ _ _) rfl ⟨by simp [a0d],by simp [a0d],trivial,hbi,by simp [a0d],hri,hsi,a2p _,a2p _,hbi,trivial,trivial,hbti,trivial,trivial,trivial⟩))⟩
     refine a1q rfl rfl rfl ?_
     refine a1C rfl rfl ?_
     first|refine nx rfl rfl ?_|refine nx0 ?_
     refine a0y (fuel:=0) [4,6,7] (by exact rfl) (by kernel_rfl) (by kernel_rfl) ?_
     repeat' (first|refine Zs rfl ?_|refine Zc rfl ?_|refine Zd rfl ?_|refine Qh ?_|refine Qk ?_|refine Zk ?_|refine Qw (by kernel_rfl) ?_|refine Zt rfl ?_)
     exact ⟨rfl,(),trivial,(a0w (id:=6) (cs:=hdL r.h) rfl).trans ((a0w (id:=5) (cs:=hdL s.h) rfl).trans (kk 5 (a2g v _ _ _) rfl ⟨by simp [a0d],by simp [a0d],trivial,hbi,by simp [a0d],hri,hsi,a2p _,a2p _,hbi,trivial,trivial,hbti,trivial,trivial,trivial⟩))⟩
    intro _ _
    obtain ⟨rc,bc,ds,un,tl⟩:=qj
    refine Zc rfl ?_
    refine a1B (ι:=Unit) (fun _=>⟨[(0,.ptr 0 0),(2,.ptr 3 0),(3,.int .i64 0),(5,.sl 10 (b.map rgA)),(7,.ptr 4 0),(9,.fp (rgL r)),(13,.fp (rgL s)),(14,.fp (hdL r.h)),(15,.fp (hdL s.h)),(31,.sl 10 (b.map rgA)),(32,.int .i64 (b.length:Int)),(33,.int .i64 (i:Int)),(66,.sl 10 (bt.map rgA)),(67,.int .i64 (bt.length:Int)),(68,.int .i64 (j:Int))],a0K v++dvR a.length b.length ⟨rc,bc,ds&&!ovB r.l r.h.slot s.l s.h.slot,un,tl⟩⟩) (fun _=>True) ?_ ?_
    ·cases ds with
     | true =>
      repeat' (first|refine Zs rfl ?_|refine Zc rfl ?_|refine Zd rfl ?_|refine Qh ?_|refine Qk ?_|refine Zk ?_|refine Qw (by kernel_rfl) ?_|refine Zt rfl ?_)
      refine Zp rfl rfl (b6N r.l r.h.slot s.l s.h.slot X) rfl ?_
      repeat' (first|refine Zs rfl ?_|refine Zc rfl ?_|refine Zd rfl ?_|refine Qh ?_|refine Qk ?_|refine Zk ?_|refine Qw (by kernel_rfl) ?_|refine Zt rfl ?_)
      exact ⟨rfl,(),trivial,kk 5 (a2g v _ _ _) rfl ⟨by simp [a0d],by simp [a0d],trivial,hbi,by simp [a0d],hri,hsi,a2p _,a2p _,hbi,trivial,trivial,hbti,trivial,trivial,trivial⟩⟩
     | false =>
      repeat' (first|refine Zs rfl ?_|refine Zc rfl ?_|refine Zd rfl ?_|refine Qh ?_|refine Qk ?_|refine Zk ?_|refine Qw (by kernel_rfl) ?_|refine Zt rfl ?_)
      exact ⟨rfl,(),trivial,kk 5 (a2g v _ _ _) rfl ⟨by simp [a0d],by simp [a0d],trivial,hbi,by simp [a0d],hri,hsi,a2p _,a2p _,hbi,trivial,trivial,hbti,trivial,trivial,trivial⟩⟩
    intro _ _
    generalize hds:(ds&&!ovB r.l r.h.slot s.l s.h.slot)=ds' at *
    refine Zc rfl ?_
    refine a1B (ι:=Unit) (fun _=>⟨[(0,.ptr 0 0),(2,.ptr 3 0),(3,.int .i64 0),(5,.sl 10 (b.map rgA)),(7,.ptr 4 0),(9,.fp (rgL r)),(13,.fp (rgL s)),(14,.fp (hdL r.h)),(15,.fp (hdL s.h)),(31,.sl 10 (b.map rgA)),(32,.int .i64 (b.length:Int)),(33,.int .i64 (i:Int)),(66,.sl 10 (bt.map rgA)),(67,.int .i64 (bt.length:Int)),(68,.int .i64 (j:Int))],a0K v++dvR a.length b.length ⟨rc,bc,ds',un&&decide (r.h.seq≠s.h.seq),tl⟩⟩) (fun _=>True) ?_ ?_
    ·cases un with
     | true =>
      repeat' (first|refine Zs rfl ?_|refine Zc rfl ?_|refine Zd rfl ?_|refine Qh ?_|refine Qk ?_|refine Zk ?_|refine Qw (by kernel_rfl) ?_|refine Zt rfl ?_)
      exact ⟨rfl,(),trivial,kk 5 (a2g v _ _ _) rfl ⟨by simp [a0d],by simp [a0d],trivial,hbi,by simp [a0d],hri,hsi,a2p _,a2p _,hbi,trivial,trivial,hbti,trivial,trivial,trivial⟩⟩
     | false =>
      repeat' (first|refine Zs rfl ?_|refine Zc rfl ?_|refine Zd rfl ?_|refine Qh ?_|refine Qk ?_|refine Zk ?_|refine Qw (by kernel_rfl) ?_|refine Zt rfl ?_)
      exact ⟨rfl,(),trivial,kk 5 (a2g v _ _ _) rfl ⟨by simp [a0d],by simp [a0d],trivial,hbi,by simp [a0d],hri,hsi,a2p _,a2p _,hbi,trivial,trivial,hbti,trivial,trivial,trivial⟩⟩
    intro _ _
    generalize hun:(un&&decide (r.h.seq≠s.h.seq))=un' at *
    obtain ⟨T,hT⟩:∃T,T=(tl&&((decide (r.h.seq<=s.h.seq) || decide (s.h.tail<=r.h.tail))&&(decide (s.h.seq<=r.h.seq) || decide (r.h.tail<=s.h.tail)))):=⟨_,rfl⟩
    have hend:(bt.take (j+1)).foldl (a2J r) q1=⟨rc,bc,ds',un',T⟩:=by
     rw [hfs]
     show (⟨rc,bc,ds&&!ovB r.l r.h.slot s.l s.h.slot,un&&decide (r.h.seq≠s.h.seq),tl&&((decide (r.h.seq<=s.h.seq) || decide (s.h.tail<=r.h.tail))&&(decide (s.h.seq<=r.h.seq) || decide (r.h.tail<=s.h.tail)))⟩:Rp)=_
     rw [hds,hun,<- hT]
    cases tl with
    | false =>
     repeat' (first|refine Zs rfl ?_|refine Zc rfl ?_|refine Zd rfl ?_|refine Qh ?_|refine Qk ?_|refine Zk ?_|refine Qw (by kernel_rfl) ?_|refine Zt rfl ?_)
     refine ⟨j+1,hjl,by omega,?_⟩
     rw [hend,hjw,show T=false by rw [hT];simp [hT]]
     exact kk 5 (a2g v _ _ _) rfl ⟨by simp [a0d],by simp [a0d],trivial,hbi,by simp [a0d],hri,hbi,trivial,trivial,hbti,trivial,trivial,trivial⟩
    | true =>
     repeat' (first|refine Zs rfl ?_|refine Zc rfl ?_|refine Zd rfl ?_|refine Qh ?_|refine Qk ?_|refine Zk ?_|refine Qw (by kernel_rfl) ?_|refine Zt rfl ?_)
     by_cases mA:r.h.seq<=s.h.seq
     ·rw [decide_eq_true mA]
      repeat' (first|refine Zs rfl ?_|refine Zc rfl ?_|refine Zd rfl ?_|refine Qh ?_|refine Qk ?_|refine Zk ?_|refine Qw (by kernel_rfl) ?_|refine Zt rfl ?_)
      by_cases mC:s.h.seq<=r.h.seq
      ·rw [decide_eq_true mC]
       repeat' (first|refine Zs rfl ?_|refine Zc rfl ?_|refine Zd rfl ?_|refine Qh ?_|refine Qk ?_|refine Zk ?_|refine Qw (by kernel_rfl) ?_|refine Zt rfl ?_)
       refine ⟨j+1,hjl,by omega,?_⟩
       rw [hend,hjw,show T=true by rw [hT];simp [mA,mC]]
       exact kk 5 (a2g v _ _ _) rfl ⟨by simp [a0d],by simp [a0d],trivial,hbi,by simp [a0d],hri,hbi,trivial,trivial,hbti,trivial,trivial,trivial⟩
      rw [decide_eq_false mC]
      repeat' (first|refine Zs rfl ?_|refine Zc rfl ?_|refine Zd rfl ?_|refine Qh ?_|refine Qk ?_|refine Zk ?_|refine Qw (by kernel_rfl) ?_|refine Zt rfl ?_)
      refine ⟨j+1,hjl,by omega,?_⟩
      rw [hend,hjw,show T=decide (r.h.tail<=s.h.tail) by rw [hT];simp [mA,mC]]
      exact kk 5 (a2g v _ _ _) rfl ⟨by simp [a0d],by simp [a0d],trivial,hbi,by simp [a0d],hri,hbi,trivial,trivial,hbti,trivial,trivial,trivial⟩
     rw [decide_eq_false mA]
     repeat' (first|refine Zs rfl ?_|refine Zc rfl ?_|refine Zd rfl ?_|refine Qh ?_|refine Qk ?_|refine Zk ?_|refine Qw (by kernel_rfl) ?_|refine Zt rfl ?_)
     by_cases mB:s.h.tail<=r.h.tail
     ·rw [decide_eq_true mB]
      repeat' (first|refine Zs rfl ?_|refine Zc rfl ?_|refine Zd rfl ?_|refine Qh ?_|refine Qk ?_|refine Zk ?_|refine Qw (by kernel_rfl) ?_|refine Zt rfl ?_)
      by_cases mC:s.h.seq<=r.h.seq
      ·rw [decide_eq_true mC]
       repeat' (first|refine Zs rfl ?_|refine Zc rfl ?_|refine Zd rfl ?_|refine Qh ?_|refine Qk ?_|refine Zk ?_|refine Qw (by kernel_rfl) ?_|refine Zt rfl ?_)
       refine ⟨j+1,hjl,by omega,?_⟩
       rw [hend,hjw,show T=true by rw [hT];simp [mA,mB,mC]]
       exact kk 5 (a2g v _ _ _) rfl ⟨by simp [a0d],by simp [a0d],trivial,hbi,by simp [a0d],hri,hbi,trivial,trivial,hbti,trivial,trivial,trivial⟩
      rw [decide_eq_false mC]
      repeat' (first|refine Zs rfl ?_|refine Zc rfl ?_|refine Zd rfl ?_|refine Qh ?_|refine Qk ?_|refine Zk ?_|refine Qw (by kernel_rfl) ?_|refine Zt rfl ?_)
      refine ⟨j+1,hjl,by omega,?_⟩
      rw [hend,hjw,show T=decide (r.h.tail<=s.h.tail) by rw [hT];simp [mA,mB,mC]]
      exact kk 5 (a2g v _ _ _) rfl ⟨by simp [a0d],by simp [a0d],trivial,hbi,by simp [a0d],hri,hbi,trivial,trivial,hbti,trivial,trivial,trivial⟩
     rw [decide_eq_false mB]
     repeat' (first|refine Zs rfl ?_|refine Zc rfl ?_|refine Zd rfl ?_|refine Qh ?_|refine Qk ?_|refine Zk ?_|refine Qw (by kernel_rfl) ?_|refine Zt rfl ?_)
     refine ⟨j+1,hjl,by omega,?_⟩
     rw [hend,hjw,show T=false by rw [hT];simp [mA,mB]]
     exact kk 5 (a2g v _ _ _) rfl ⟨by simp [a0d],by simp [a0d],trivial,hbi,by simp [a0d],hri,hbi,trivial,trivial,hbti,trivial,trivial,trivial⟩
   have hje:j=bt.length:=by omega
   rw [hje,List.take_length,<- hdn]
   repeat' (first|refine Zs rfl ?_|refine Zc rfl ?_|refine Zd rfl ?_|refine Qh ?_|refine Qk ?_|refine Zk ?_|refine Qw (by kernel_rfl) ?_|refine Zt rfl ?_)
   refine ⟨i+1,hil,by omega,?_⟩
   rw [hiw]
   exact kk 5 (a2g v _ _ _) rfl ⟨by simp [a0d],by simp [a0d],trivial,hbi,by simp [a0d],hbi,trivial,trivial,trivial⟩
  have hie:i=b.length:=by omega
  subst hie
  repeat' (first|refine Zs rfl ?_|refine Zc rfl ?_|refine Zd rfl ?_|refine Qh ?_|refine Qk ?_|refine Zk ?_|refine Qw (by kernel_rfl) ?_|refine Zt rfl ?_)
  refine a0c ⟨_,rfl,⟨(hda _ hfl).symm,rfl⟩⟩
def a6w(r:Rg)(q:Rp)(s:Rg):Rp:={ q with dis:=q.dis&&!ovB r.l r.h.slot s.l s.h.slot,uni:=q.uni&&decide (r.h.seq≠s.h.seq),tails:=q.tails&&(decide (r.h.seq<=s.h.seq) || decide (s.h.tail<=r.h.tail)) }
def rdP(b:List Rg)(r:Rg)(i:Nat)(q:Rp):Nat->Rp
 | 0=>q
 | j+1=>if i=j then rdP b r i q j else match b[j]? with
  | none=>rdP b r i q j
  | some s=>a6w r (rdP b r i q j) s
def rdN(v:Dv)(b:List Rg):Nat->Rp
 | 0=>rp1
 | i+1=>match b[i]? with
  | none=>rdN v b i
  | some r=>rdP b r i ((a5Y v.image r).foldl a2D (rdN v b i)) b.length
def rdA(v:Dv):AV:=match a5A v with
 | none=>.tup [.agg (rpL 0 0 rp0),.bool false]
 | some p=>.tup [.agg (rpL p.1.length p.2.length (rdN v p.2 p.2.length)),.bool true]
theorem c2C(v:Dv){n:Nat}:a0d n (rdA v):=by
 unfold rdA
 cases a5A v with
 | none=>exact ⟨a3f 0 0 rp0,trivial,trivial⟩
 | some p=>exact ⟨a3f _ _ _,trivial,trivial⟩
def rvR(c k:Int)(q:Rp):Hp:=[some (.cells (rpL 0 0 rp0) 40),none,some (.cells (rpL c k q) 40)]
theorem a2I(c k:Int)(q:Rp):HOk 3 (rvR c k q):=fun j o' ho=>by
 match j,ho with
 | 0,ho=>cases ho;exact a3f 0 0 rp0
 | 2,ho=>cases ho;exact a3f c k q
theorem b1X(X:Nat->Prop)(v:Dv)(L:Nat)(hv:Lv L v)(hL:L<=20000):a0b (E0 X) 12 [.sl 1 (v.image.map u8A)] [] (fun r H'=>r=rdA v/\H'=[]):=by
 have hlv:v.image.length<=20000:=by rw [hv.len];exact hL
 have hii:∀{n},a0e n (v.image.map u8A):=a0h fun _=>a0k
 have hti:=fun Y=>b2i Y v L hv hL
 refine a0b.cut0 ?_ (c2C v)
 refine Z0 Proofs.Tryz.func12 rfl Proofs.Tryz.ntmps12 (by kernel_rfl) rfl ?_
 repeat' (first|refine Zs rfl ?_|refine Zc rfl ?_|refine Zd rfl ?_|refine Qh ?_|refine Qk ?_|refine Zk ?_|refine Qw (by kernel_rfl) ?_|refine Zt rfl ?_)
 rcases b3Y v with ⟨h1,h2⟩|⟨s0,t,h1,h2,ho⟩
 ·have hda:rdA v=.tup [.agg (rpL 0 0 rp0),.bool false]:=by unfold rdA;rw [h2]
  rw [h1] at hti
  have hp:Pur (E0 X) 49 [.sl 1 (v.image.map u8A)] (tlA none):=⟨⟨hii,trivial⟩,hti⟩
  refine Zp rfl rfl (hp) rfl ?_
  repeat' (first|refine Zs rfl ?_|refine Zc rfl ?_|refine Zd rfl ?_|refine Qh ?_|refine Qk ?_|refine Zk ?_|refine Qw (by kernel_rfl) ?_|refine Zt rfl ?_)
  refine a0c ⟨_,rfl,hda.symm⟩
 rw [h1] at hti
 have hlo:lvO v=a1N t (a3F v s0):=by unfold lvO;rw [h2]
 have hda:rdA v=.tup [.agg (rpL (a3F v s0).length (lvO v).length (rdN v (lvO v) (lvO v).length)),.bool true]:=by unfold rdA;rw [hlo,h2]
 have hp:Pur (E0 X) 49 [.sl 1 (v.image.map u8A)] (tlA (some (s0,t))):=⟨⟨hii,trivial⟩,hti⟩
 have hlp:Pur (E0 X) 50 [.sl 1 (v.image.map u8A)] (.sl 10 ((lvO v).map rgA)):=⟨⟨hii,trivial⟩,fun Y=>b0H Y v L hv hL⟩
 obtain ⟨hlf,hln,hl2⟩:=a7I (a5D ho)
 have hca:=a9y v.image s0 (by omega) hlf (by omega)
 have hcf:a3J (a2q v.image) (a0W s0)=a3F v s0:=by
  unfold a3F
  rw [show a1Z v=a2q v.image from funext fun l=>funext fun k=>a4G hv l k]
 rw [hcf] at hca
 have hcp:Pur (E0 X) 51 [.sl 1 (v.image.map u8A),sbA s0] (.sl 10 ((a3F v s0).map rgA)):=⟨⟨hii,a1J,trivial⟩,hca⟩
 have hbl:=b6y hv
 have hbo:∀r∈lvO v,a2i r.l r.h.slot/\hdB r.h=true:=fun r hr=>b3n hv hr
 rw [hda]
 generalize a3F v s0=a at *
 generalize lvO v=b at *
 have hai:∀{n},a0e n (a.map rgA):=a1d a
 have hbi:∀{n},a0e n (b.map rgA):=a1d b
 refine Zp rfl rfl (hp) rfl ?_
 repeat' (first|refine Zs rfl ?_|refine Zc rfl ?_|refine Zd rfl ?_|refine Qh ?_|refine Qk ?_|refine Zk ?_|refine Qw (by kernel_rfl) ?_|refine Zt rfl ?_)
 refine Zp rfl rfl (hlp) rfl ?_
 repeat' (first|refine Zs rfl ?_|refine Zc rfl ?_|refine Zd rfl ?_|refine Qh ?_|refine Qk ?_|refine Zk ?_|refine Qw (by kernel_rfl) ?_|refine Zt rfl ?_)
 refine Zp rfl rfl (hcp) rfl ?_
 repeat' (first|refine Zs rfl ?_|refine Zc rfl ?_|refine Zd rfl ?_|refine Qh ?_|refine Qk ?_|refine Zk ?_|refine Qw (by kernel_rfl) ?_|refine Zt rfl ?_)
 rw [show (List.map rgA a).length=a.length from List.length_map _,show (List.map rgA b).length=b.length from List.length_map _]
 refine a0s (fun i:Nat=>⟨[(0,.sl 1 (v.image.map u8A)),(2,.ptr 0 0),(3,.bool false),(7,.sl 10 (b.map rgA)),(8,.ptr 2 0),(33,.sl 10 (b.map rgA)),(34,.int .i64 (b.length:Int)),(35,.int .i64 (i:Int))],rvR a.length b.length (rdN v b i)⟩) (fun i=>i<=b.length) (fun i=>b.length - i) 0 (Nat.zero_le _) ?_ ?_
 ·exact (a0w (id:=1) (cs:=sbL s0) rfl).trans (kk 3 (a2I _ _ _) rfl ⟨hii,by simp [a0d],trivial,hbi,by simp [a0d],hbi,trivial,trivial,trivial⟩)
 intro i hi
 repeat' (first|refine Zs rfl ?_|refine Zc rfl ?_|refine Zd rfl ?_|refine Qh ?_|refine Qk ?_|refine Zk ?_|refine Qw (by kernel_rfl) ?_|refine Zt rfl ?_)
 refine a0g rfl (fun k1=>?_) (fun k1=>?_)
 ·have hil:i<b.length:=by omega
  obtain ⟨r,hr⟩:∃r,b[i]?=some r:=⟨_,List.getElem?_eq_getElem hil⟩
  have hiw:IntKind.i64.wrap ((i:Int)+1)=((i+1:Nat):Int):=a0r (by omega) (by omega)
  have hri:∀{n},a0d n (.fp (rgL r)):=a3d r
  have hdn:rdN v b (i+1)=rdP b r i ((a5Y v.image r).foldl a2D (rdN v b i)) b.length:=by
   show (match b[i]? with|none=>_|some r=>_)=_
   rw [hr]
  generalize hq0:rdN v b i=q0 at *
  repeat' (first|refine Zs rfl ?_|refine Zc rfl ?_|refine Zd rfl ?_|refine Qh ?_|refine Qk ?_|refine Zk ?_|refine Qw (by kernel_rfl) ?_|refine Zt rfl ?_)
  refine Qa rfl ?_
  refine a0C hr rfl rfl rfl rfl rfl rfl rfl (by first|rfl|omega) rfl ?_
  first|refine nx rfl rfl ?_|refine nx0 ?_
  repeat' (first|refine Zs rfl ?_|refine Zd rfl ?_|refine Zk ?_|refine Zt rfl ?_)
  refine Zh (Kz 3 [0,2,3,7,8,9,10,33,34,35] 3 (a2I _ _ _) rfl rfl ⟨hii,by simp [a0d],trivial,hbi,by simp [a0d],trivial,hri,hbi,trivial,trivial,trivial⟩ ?_)
  obtain ⟨hso,hhb⟩:=hbo r (List.mem_of_getElem? hr)
  have hqn:=a5c hhb
  have hreg:Pur (E0 X) 52 [.sl 1 (v.image.map u8A),laA r.l,.int .i64 r.h.slot,.int .i64 r.h.seq] (.sl 6 ((a5Y v.image r).map foA)):=⟨⟨hii,a1g,trivial,trivial,trivial⟩,fun Y=>by
   have h:=b0K Y v.image (by omega) r.l r.h.slot r.h.seq.toNat hso (a9f hso.1) (by omega) (by omega)
   rw [Int.toNat_of_nonneg (by omega)] at h
   exact h⟩
  have hfn:(a5Y v.image r).length<=1000000:=by
   have:=a7i v.image r
   omega
  generalize hfo:a5Y v.image r=fo at *
  have hfi:∀{n},a0e n (fo.map foA):=a0h fun _=>a2f
  repeat' (first|refine Zs rfl ?_|refine Zc rfl ?_|refine Zd rfl ?_|refine Qh ?_|refine Qk ?_|refine Zk ?_|refine Qw (by kernel_rfl) ?_|refine Zt rfl ?_)
  refine Zp rfl rfl (hreg) rfl ?_
  repeat' (first|refine Zs rfl ?_|refine Zc rfl ?_|refine Zd rfl ?_|refine Qh ?_|refine Qk ?_|refine Zk ?_|refine Qw (by kernel_rfl) ?_|refine Zt rfl ?_)
  refine a0s (fun j:Nat=>⟨[(0,.sl 1 (v.image.map u8A)),(2,.ptr 0 0),(3,.bool false),(7,.sl 10 (b.map rgA)),(8,.ptr 2 0),(9,.int .i64 (i:Int)),(10,.fp (rgL r)),(33,.sl 10 (b.map rgA)),(34,.int .i64 (b.length:Int)),(35,.int .i64 (i:Int)),(49,.sl 6 (fo.map foA)),(50,.int .i64 (fo.length:Int)),(51,.int .i64 (j:Int))],rvR a.length b.length ((fo.take j).foldl a2D q0)⟩) (fun j=>j<=fo.length) (fun j=>fo.length - j) 0 (Nat.zero_le _) ?_ ?_
  ·refine a0j 3 (Nat.zero_le _) (a2I _ _ _) rfl (Nat.le_refl 3) ?_
   exact a0a ⟨rfl,hii⟩ (a0a ⟨rfl,by simp [a0d]⟩ (a0a ⟨rfl,trivial⟩ (a0a ⟨rfl,hbi⟩ (a0a ⟨rfl,by simp [a0d]⟩ (a0a ⟨rfl,trivial⟩ (a0a ⟨rfl,hri⟩ (a0a ⟨rfl,hbi⟩ (a0a ⟨rfl,trivial⟩ (a0a ⟨rfl,trivial⟩ (a0a ⟨rfl,hfi⟩ (a0a ⟨by rw [List.length_map];rfl,trivial⟩ (a0a ⟨rfl,trivial⟩ a0l))))))))))))
  intro j hj
  repeat' (first|refine Zs rfl ?_|refine Zc rfl ?_|refine Zd rfl ?_|refine Qh ?_|refine Qk ?_|refine Zk ?_|refine Qw (by kernel_rfl) ?_|refine Zt rfl ?_)
  refine a0g rfl (fun k2=>?_) (fun k2=>?_)
  ·have hjl:j<fo.length:=by omega
   obtain ⟨f,hf⟩:∃f,fo[j]?=some f:=⟨_,List.getElem?_eq_getElem hjl⟩
   have hjw:IntKind.i64.wrap ((j:Int)+1)=((j+1:Nat):Int):=a0r (by omega) (by omega)
   have hfs:=a6i (f:=a2D) (q:=q0) hf
   generalize hqj:(fo.take j).foldl a2D q0=qj at *
   repeat' (first|refine Zs rfl ?_|refine Zc rfl ?_|refine Zd rfl ?_|refine Qh ?_|refine Qk ?_|refine Zk ?_|refine Qw (by kernel_rfl) ?_|refine Zt rfl ?_)
   refine Qa rfl ?_
   refine a0C hf rfl rfl rfl rfl rfl rfl rfl (by first|rfl|omega) rfl ?_
   first|refine nx rfl rfl ?_|refine nx0 ?_
   repeat' (first|refine Zs rfl ?_|refine Zd rfl ?_|refine Zk ?_|refine Zt rfl ?_)
   refine Zh (Kz 3 [0,2,3,7,8,9,10,12,33,34,35,49,50,51] 3 (a2I _ _ _) rfl rfl ⟨hii,by simp [a0d],trivial,hbi,by simp [a0d],trivial,hri,a0F (Nat.zero_le _) (a7B f),hbi,trivial,trivial,hfi,trivial,trivial,trivial⟩ ?_)
   refine a0n [9,11] [0,2,3,5,6,7,8,10] (by exact rfl) ?_
   refine a0y (fuel:=0) [0,3,5,6,1,2,4,7,8,9,10,11] (by exact rfl) (by kernel_rfl) (by kernel_rfl) ?_
   repeat' (first|refine Zs rfl ?_|refine Zc rfl ?_|refine Zd rfl ?_|refine Qh ?_|refine Qk ?_|refine Zk ?_|refine Qw (by kernel_rfl) ?_|refine Zt rfl ?_)
   refine ⟨j+1,hjl,by omega,?_⟩
   rw [hfs,hjw]
   exact kk 3 (a2I _ _ _) rfl ⟨hii,by simp [a0d],trivial,hbi,by simp [a0d],trivial,hri,hbi,trivial,trivial,hfi,trivial,trivial,trivial⟩
  have hje:j=fo.length:=by omega
  rw [hje,List.take_length]
  generalize hq1:fo.foldl a2D q0=q1 at *
  repeat' (first|refine Zs rfl ?_|refine Zc rfl ?_|refine Zd rfl ?_|refine Qh ?_|refine Qk ?_|refine Zk ?_|refine Qw (by kernel_rfl) ?_|refine Zt rfl ?_)
  refine a0s (fun j:Nat=>⟨[(0,.sl 1 (v.image.map u8A)),(2,.ptr 0 0),(3,.bool false),(7,.sl 10 (b.map rgA)),(8,.ptr 2 0),(9,.int .i64 (i:Int)),(10,.fp (rgL r)),(33,.sl 10 (b.map rgA)),(34,.int .i64 (b.length:Int)),(35,.int .i64 (i:Int)),(66,.sl 10 (b.map rgA)),(67,.int .i64 (b.length:Int)),(68,.int .i64 (j:Int))],rvR a.length b.length (rdP b r i q1 j)⟩) (fun j=>j<=b.length) (fun j=>b.length - j) 0 (Nat.zero_le _) ?_ ?_
  ·refine a0j 3 (Nat.zero_le _) (a2I _ _ _) rfl (Nat.le_refl 3) ?_
   exact a0a ⟨rfl,hii⟩ (a0a ⟨rfl,by simp [a0d]⟩ (a0a ⟨rfl,trivial⟩ (a0a ⟨rfl,hbi⟩ (a0a ⟨rfl,by simp [a0d]⟩ (a0a ⟨rfl,trivial⟩ (a0a ⟨rfl,hri⟩ (a0a ⟨rfl,hbi⟩ (a0a ⟨rfl,trivial⟩ (a0a ⟨rfl,trivial⟩ (a0a ⟨rfl,hbi⟩ (a0a ⟨by rw [List.length_map];rfl,trivial⟩ (a0a ⟨rfl,trivial⟩ a0l))))))))))))
  intro j hj
  repeat' (first|refine Zs rfl ?_|refine Zc rfl ?_|refine Zd rfl ?_|refine Qh ?_|refine Qk ?_|refine Zk ?_|refine Qw (by kernel_rfl) ?_|refine Zt rfl ?_)
  refine a0g rfl (fun k3=>?_) (fun k3=>?_)
  ·have hjl:j<b.length:=by omega
   obtain ⟨s,hs⟩:∃s,b[j]?=some s:=⟨_,List.getElem?_eq_getElem hjl⟩
   have hjw:IntKind.i64.wrap ((j:Int)+1)=((j+1:Nat):Int):=a0r (by omega) (by omega)
   have hsi:∀{n},a0d n (.fp (rgL s)):=a3d s
   have hfs:rdP b r i q1 (j+1)=if i=j then rdP b r i q1 j else a6w r (rdP b r i q1 j) s:=by
    show (if i=j then rdP b r i q1 j else match b[j]? with|none=>_|some s=>_)=_
    rw [hs]
   generalize hqj:rdP b r i q1 j=qj at *
   repeat' (first|refine Zs rfl ?_|refine Zc rfl ?_|refine Zd rfl ?_|refine Qh ?_|refine Qk ?_|refine Zk ?_|refine Qw (by kernel_rfl) ?_|refine Zt rfl ?_)
   refine Qa rfl ?_
   refine a0C hs rfl rfl rfl rfl rfl rfl rfl (by first|rfl|omega) rfl ?_
   first|refine nx rfl rfl ?_|refine nx0 ?_
   repeat' (first|refine Zs rfl ?_|refine Zd rfl ?_|refine Zk ?_|refine Zt rfl ?_)
   refine Zh (Kz 3 [0,2,3,7,8,9,10,13,14,33,34,35,66,67,68] 3 (a2I _ _ _) rfl rfl ⟨hii,by simp [a0d],trivial,hbi,by simp [a0d],trivial,hri,trivial,hsi,hbi,trivial,trivial,hbi,trivial,trivial,trivial⟩ ?_)
   repeat' (first|refine Zs rfl ?_|refine Zc rfl ?_|refine Zd rfl ?_|refine Qh ?_|refine Qk ?_|refine Zk ?_|refine Qw (by kernel_rfl) ?_|refine Zt rfl ?_)
   refine a0g rfl (fun k4=>?_) (fun k4=>?_)
   ·have k4:i=j:=by have:(i:Int)=(j:Int):=k4;omega
    rw [if_pos k4] at hfs
    repeat' (first|refine Zs rfl ?_|refine Zc rfl ?_|refine Zd rfl ?_|refine Qh ?_|refine Qk ?_|refine Zk ?_|refine Qw (by kernel_rfl) ?_|refine Zt rfl ?_)
    refine ⟨j+1,hjl,by omega,?_⟩
    rw [hfs,hjw]
    exact kk 3 (a2I _ _ _) rfl ⟨hii,by simp [a0d],trivial,hbi,by simp [a0d],trivial,hri,hbi,trivial,trivial,hbi,trivial,trivial,trivial⟩
   have k4:¬ i=j:=by have:¬ (i:Int)=(j:Int):=k4;omega
   rw [if_neg k4] at hfs
   refine Zc rfl ?_
   obtain ⟨rc,bc,ds,un,tl⟩:=qj
   refine Zc rfl ?_
   refine a1B (ι:=Unit) (fun _=>⟨[(0,.sl 1 (v.image.map u8A)),(2,.ptr 0 0),(3,.bool false),(7,.sl 10 (b.map rgA)),(8,.ptr 2 0),(9,.int .i64 (i:Int)),(10,.fp (rgL r)),(14,.fp (rgL s)),(33,.sl 10 (b.map rgA)),(34,.int .i64 (b.length:Int)),(35,.int .i64 (i:Int)),(66,.sl 10 (b.map rgA)),(67,.int .i64 (b.length:Int)),(68,.int .i64 (j:Int))],rvR a.length b.length ⟨rc,bc,ds&&!ovB r.l r.h.slot s.l s.h.slot,un,tl⟩⟩) (fun _=>True) ?_ ?_
   ·cases ds with
    | true =>
     repeat' (first|refine Zs rfl ?_|refine Zc rfl ?_|refine Zd rfl ?_|refine Qh ?_|refine Qk ?_|refine Zk ?_|refine Qw (by kernel_rfl) ?_|refine Zt rfl ?_)
     refine Zp rfl rfl (a8D r.l r.h.slot s.l s.h.slot X) rfl ?_
     repeat' (first|refine Zs rfl ?_|refine Zc rfl ?_|refine Zd rfl ?_|refine Qh ?_|refine Qk ?_|refine Zk ?_|refine Qw (by kernel_rfl) ?_|refine Zt rfl ?_)
     exact ⟨rfl,(),trivial,kk 3 (a2I _ _ _) rfl ⟨hii,by simp [a0d],trivial,hbi,by simp [a0d],trivial,hri,hsi,hbi,trivial,trivial,hbi,trivial,trivial,trivial⟩⟩
    | false =>
     repeat' (first|refine Zs rfl ?_|refine Zc rfl ?_|refine Zd rfl ?_|refine Qh ?_|refine Qk ?_|refine Zk ?_|refine Qw (by kernel_rfl) ?_|refine Zt rfl ?_)
     exact ⟨rfl,(),trivial,kk 3 (a2I _ _ _) rfl ⟨hii,by simp [a0d],trivial,hbi,by simp [a0d],trivial,hri,hsi,hbi,trivial,trivial,hbi,trivial,trivial,trivial⟩⟩
   intro _ _
   generalize hds:(ds&&!ovB r.l r.h.slot s.l s.h.slot)=ds' at *
   refine Zc rfl ?_
   refine a1B (ι:=Unit) (fun _=>⟨[(0,.sl 1 (v.image.map u8A)),(2,.ptr 0 0),(3,.bool false),(7,.sl 10 (b.map rgA)),(8,.ptr 2 0),(9,.int .i64 (i:Int)),(10,.fp (rgL r)),(14,.fp (rgL s)),(33,.sl 10 (b.map rgA)),(34,.int .i64 (b.length:Int)),(35,.int .i64 (i:Int)),(66,.sl 10 (b.map rgA)),(67,.int .i64 (b.length:Int)),(68,.int .i64 (j:Int))],rvR a.length b.length ⟨rc,bc,ds',un&&decide (r.h.seq≠s.h.seq),tl⟩⟩) (fun _=>True) ?_ ?_
   ·cases un with
    | true =>
     repeat' (first|refine Zs rfl ?_|refine Zc rfl ?_|refine Zd rfl ?_|refine Qh ?_|refine Qk ?_|refine Zk ?_|refine Qw (by kernel_rfl) ?_|refine Zt rfl ?_)
     exact ⟨rfl,(),trivial,kk 3 (a2I _ _ _) rfl ⟨hii,by simp [a0d],trivial,hbi,by simp [a0d],trivial,hri,hsi,hbi,trivial,trivial,hbi,trivial,trivial,trivial⟩⟩
    | false =>
     repeat' (first|refine Zs rfl ?_|refine Zc rfl ?_|refine Zd rfl ?_|refine Qh ?_|refine Qk ?_|refine Zk ?_|refine Qw (by kernel_rfl) ?_|refine Zt rfl ?_)
     exact ⟨rfl,(),trivial,kk 3 (a2I _ _ _) rfl ⟨hii,by simp [a0d],trivial,hbi,by simp [a0d],trivial,hri,hsi,hbi,trivial,trivial,hbi,trivial,trivial,trivial⟩⟩
   intro _ _
   generalize hun:(un&&decide (r.h.seq≠s.h.seq))=un' at *
   obtain ⟨T,hT⟩:∃T,T=(tl&&(decide (r.h.seq<=s.h.seq) || decide (s.h.tail<=r.h.tail))):=⟨_,rfl⟩
   have hend:rdP b r i q1 (j+1)=⟨rc,bc,ds',un',T⟩:=by
    rw [hfs]
    show (⟨rc,bc,ds&&!ovB r.l r.h.slot s.l s.h.slot,un&&decide (r.h.seq≠s.h.seq),tl&&(decide (r.h.seq<=s.h.seq) || decide (s.h.tail<=r.h.tail))⟩:Rp)=_
    rw [hds,hun,<- hT]
   cases tl with
   | false =>
    repeat' (first|refine Zs rfl ?_|refine Zc rfl ?_|refine Zd rfl ?_|refine Qh ?_|refine Qk ?_|refine Zk ?_|refine Qw (by kernel_rfl) ?_|refine Zt rfl ?_)
    refine ⟨j+1,hjl,by omega,?_⟩
    rw [hend,hjw,show T=false by rw [hT];simp [hT]]
    exact kk 3 (a2I _ _ _) rfl ⟨hii,by simp [a0d],trivial,hbi,by simp [a0d],trivial,hri,hbi,trivial,trivial,hbi,trivial,trivial,trivial⟩
   | true =>
    repeat' (first|refine Zs rfl ?_|refine Zc rfl ?_|refine Zd rfl ?_|refine Qh ?_|refine Qk ?_|refine Zk ?_|refine Qw (by kernel_rfl) ?_|refine Zt rfl ?_)
    by_cases mA:r.h.seq<=s.h.seq
    ·rw [decide_eq_true mA]
     repeat' (first|refine Zs rfl ?_|refine Zc rfl ?_|refine Zd rfl ?_|refine Qh ?_|refine Qk ?_|refine Zk ?_|refine Qw (by kernel_rfl) ?_|refine Zt rfl ?_)
     refine ⟨j+1,hjl,by omega,?_⟩
     rw [hend,hjw,show T=true by rw [hT];simp [mA]]
     exact kk 3 (a2I _ _ _) rfl ⟨hii,by simp [a0d],trivial,hbi,by simp [a0d],trivial,hri,hbi,trivial,trivial,hbi,trivial,trivial,trivial⟩
    rw [decide_eq_false mA]
    repeat' (first|refine Zs rfl ?_|refine Zc rfl ?_|refine Zd rfl ?_|refine Qh ?_|refine Qk ?_|refine Zk ?_|refine Qw (by kernel_rfl) ?_|refine Zt rfl ?_)
    refine ⟨j+1,hjl,by omega,?_⟩
    rw [hend,hjw,show T=decide (s.h.tail<=r.h.tail) by rw [hT];simp [mA]]
    exact kk 3 (a2I _ _ _) rfl ⟨hii,by simp [a0d],trivial,hbi,by simp [a0d],trivial,hri,hbi,trivial,trivial,hbi,trivial,trivial,trivial⟩
  have hje:j=b.length:=by omega
  rw [hje,<- hdn]
  repeat' (first|refine Zs rfl ?_|refine Zc rfl ?_|refine Zd rfl ?_|refine Qh ?_|refine Qk ?_|refine Zk ?_|refine Qw (by kernel_rfl) ?_|refine Zt rfl ?_)
  refine ⟨i+1,hil,by omega,?_⟩
  rw [hiw]
  exact kk 3 (a2I _ _ _) rfl ⟨hii,by simp [a0d],trivial,hbi,by simp [a0d],hbi,trivial,trivial,trivial⟩
 have hie:i=b.length:=by omega
 subst hie
 repeat' (first|refine Zs rfl ?_|refine Zc rfl ?_|refine Zd rfl ?_|refine Qh ?_|refine Qk ?_|refine Zk ?_|refine Qw (by kernel_rfl) ?_|refine Zt rfl ?_)
 refine a0c ⟨_,rfl,rfl⟩
def Tl(r s:Rg):Prop:=r.h.seq<=s.h.seq\/s.h.tail<=r.h.tail
theorem c3Q(r:Rg):∀(bt:List Rg) (q:Rp),(bt.foldl (a2J r) q).recs=q.recs/\(bt.foldl (a2J r) q).bytes=q.bytes/\((bt.foldl (a2J r) q).dis=true ↔ q.dis=true/\∀s∈bt,ovB r.l r.h.slot s.l s.h.slot=false) /\
  ((bt.foldl (a2J r) q).uni=true ↔ q.uni=true/\∀s∈bt,r.h.seq≠s.h.seq)/\((bt.foldl (a2J r) q).tails=true ↔ q.tails=true/\∀s∈bt,Tl r s/\Tl s r)
 | [],q=>by simp
 | s::bt,q=>by
  obtain ⟨h1,h2,h3,h4,h5⟩:=c3Q r bt (a2J r q s)
  rw [List.foldl_cons]
  refine ⟨h1,h2,h3.trans ?_,h4.trans ?_,h5.trans ?_⟩
  ·simp [a2J,and_assoc]
  ·simp [a2J,and_assoc]
  ·simp [a2J,Tl,and_assoc]
theorem c6k(b:List Rg)(r:Rg)(i:Nat)(q:Rp):∀n,n<=b.length->(rdP b r i q n).recs=q.recs/\(rdP b r i q n).bytes=q.bytes/\((rdP b r i q n).dis=true ↔ q.dis=true/\∀j s,j<n->i≠j->b[j]?=some s->ovB r.l r.h.slot s.l s.h.slot=false) /\
  ((rdP b r i q n).uni=true ↔ q.uni=true/\∀j s,j<n->i≠j->b[j]?=some s->r.h.seq≠s.h.seq)/\((rdP b r i q n).tails=true ↔ q.tails=true/\∀j s,j<n->i≠j->b[j]?=some s->Tl r s)
 | 0,_=>by simp [rdP]
 | n+1,hn=>by
  obtain ⟨h1,h2,h3,h4,h5⟩:=c6k b r i q n (by omega)
  obtain ⟨s,hs⟩:∃s,b[n]?=some s:=⟨_,List.getElem?_eq_getElem (by omega)⟩
  have e:rdP b r i q (n+1)=if i=n then rdP b r i q n else a6w r (rdP b r i q n) s:=by
   show (if i=n then rdP b r i q n else match b[n]? with|none=>_|some s=>_)=_
   rw [hs]
  have key:∀P:Rg->Prop,(∀j s,j<n+1->i≠j->b[j]?=some s->P s) ↔ (∀j s,j<n->i≠j->b[j]?=some s->P s)/\(i≠n->P s):=fun P=>by
   constructor
   ·exact fun h=>⟨fun j s hj=>h j s (by omega),fun hi=>h n s (by omega) hi hs⟩
   rintro ⟨h,h'⟩ j s' hj hi hs'
   rcases Nat.lt_or_ge j n with h1|h1
   ·exact h j s' h1 hi hs'
   have:j=n:=by omega
   subst this
   rw [hs] at hs';cases hs';exact h' hi
  rw [e,key,key,key]
  by_cases hi:i=n
  ·rw [if_pos hi]
   have z:∀P:Prop,(i≠n->P) ↔ True:=fun P=>⟨fun _=>trivial,fun _ h=>absurd hi h⟩
   simp only [z,and_true]
   exact ⟨h1,h2,h3,h4,h5⟩
  rw [if_neg hi]
  refine ⟨h1,h2,?_,?_,?_⟩
  ·simp only [a6w,Bool.and_eq_true,h3,Bool.not_eq_true',and_assoc];simp [hi]
  ·simp only [a6w,Bool.and_eq_true,h4,decide_eq_true_eq,and_assoc];simp [hi]
  ·simp only [a6w,Bool.and_eq_true,h5,Bool.or_eq_true,decide_eq_true_eq,and_assoc,Tl];simp [hi]
theorem c4x(r s:Rg):ovB r.l r.h.slot s.l s.h.slot=ovB s.l s.h.slot r.l r.h.slot:=by
 unfold ovB
 rw [Bool.eq_iff_iff]
 simp only [Bool.and_eq_true]
 constructor<;>(rintro ⟨a,b,c,d⟩;exact ⟨b,a,d,c⟩)
theorem c3H(v:Dv)(b:List Rg):∀n,n<=b.length->(a6g v b n).recs=(rdN v b n).recs/\(a6g v b n).bytes=(rdN v b n).bytes /\
  ((a6g v b n).dis=true ↔ ∀i r,i<n->b[i]?=some r->∀s∈b.take i,ovB r.l r.h.slot s.l s.h.slot=false) /\
  ((a6g v b n).uni=true ↔ ∀i r,i<n->b[i]?=some r->∀s∈b.take i,r.h.seq≠s.h.seq) /\
  ((a6g v b n).tails=true ↔ ∀i r,i<n->b[i]?=some r->∀s∈b.take i,Tl r s/\Tl s r) /\
  ((rdN v b n).dis=true ↔ ∀i r,i<n->b[i]?=some r->∀j s,j<b.length->i≠j->b[j]?=some s->ovB r.l r.h.slot s.l s.h.slot=false) /\
  ((rdN v b n).uni=true ↔ ∀i r,i<n->b[i]?=some r->∀j s,j<b.length->i≠j->b[j]?=some s->r.h.seq≠s.h.seq) /\
  ((rdN v b n).tails=true ↔ ∀i r,i<n->b[i]?=some r->∀j s,j<b.length->i≠j->b[j]?=some s->Tl r s)
 | 0,_=>by simp [a6g,rdN,rp1]
 | n+1,hn=>by
  obtain ⟨h1,h2,h3,h4,h5,h6,h7,h8⟩:=c3H v b n (by omega)
  obtain ⟨r,hr⟩:∃r,b[n]?=some r:=⟨_,List.getElem?_eq_getElem (by omega)⟩
  have e1:a6g v b (n+1)=(b.take n).foldl (a2J r) ((a5Y v.image r).foldl a2D (a6g v b n)):=by
   show (match b[n]? with|none=>_|some r=>_)=_
   rw [hr]
  have e2:rdN v b (n+1)=rdP b r n ((a5Y v.image r).foldl a2D (rdN v b n)) b.length:=by
   show (match b[n]? with|none=>_|some r=>_)=_
   rw [hr]
  have fa:∀(l:List (Nat × Rec)) (q:Rp),(l.foldl a2D q).dis=q.dis/\(l.foldl a2D q).uni=q.uni/\(l.foldl a2D q).tails=q.tails:=fun l=>by
   induction l with
   | nil=>intro q;exact ⟨rfl,rfl,rfl⟩
   | cons f l ih=>intro q;exact ih (a2D q f)
  have fb:∀(l:List (Nat × Rec)) (q q':Rp),q.recs=q'.recs->q.bytes=q'.bytes->(l.foldl a2D q).recs=(l.foldl a2D q').recs/\(l.foldl a2D q).bytes=(l.foldl a2D q').bytes:=fun l=>by
   induction l with
   | nil=>intro q q' a b;exact ⟨a,b⟩
   | cons f l ih=>intro q q' a b;exact ih _ _ (by simp [a2D,a]) (by simp [a2D,b])
  obtain ⟨a1,a2,a3,a4,a5⟩:=c3Q r (b.take n) ((a5Y v.image r).foldl a2D (a6g v b n))
  obtain ⟨b1,b2,b3,b4,b5⟩:=c6k b r n ((a5Y v.image r).foldl a2D (rdN v b n)) b.length (Nat.le_refl _)
  obtain ⟨c1,c2⟩:=fb (a5Y v.image r) _ _ h1 h2
  obtain ⟨f1,f2,f3⟩:=fa (a5Y v.image r) (a6g v b n)
  obtain ⟨g1,g2,g3⟩:=fa (a5Y v.image r) (rdN v b n)
  have key:∀P:Nat->Rg->Prop,(∀i x,i<n+1->b[i]?=some x->P i x) ↔ (∀i x,i<n->b[i]?=some x->P i x)/\P n r:=fun P=>by
   constructor
   ·exact fun h=>⟨fun i x hi=>h i x (by omega),h n r (by omega) hr⟩
   rintro ⟨h,h'⟩ i x hi hx
   rcases Nat.lt_or_ge i n with k|k
   ·exact h i x k hx
   have:i=n:=by omega
   subst this
   rw [hr] at hx;cases hx;exact h'
  rw [e1,e2,a1,a2,b1,b2,a3,a4,a5,b3,b4,b5,f1,f2,f3,g1,g2,g3,h3,h4,h5,h6,h7,h8]
  refine ⟨c1,c2,?_,?_,?_,?_,?_,?_⟩
  ·exact (key fun i x=>∀s∈b.take i,ovB x.l x.h.slot s.l s.h.slot=false).symm
  ·exact (key fun i x=>∀s∈b.take i,x.h.seq≠s.h.seq).symm
  ·exact (key fun i x=>∀s∈b.take i,Tl x s/\Tl s x).symm
  ·exact (key fun i x=>∀j s,j<b.length->i≠j->b[j]?=some s->ovB x.l x.h.slot s.l s.h.slot=false).symm
  ·exact (key fun i x=>∀j s,j<b.length->i≠j->b[j]?=some s->x.h.seq≠s.h.seq).symm
  ·exact (key fun i x=>∀j s,j<b.length->i≠j->b[j]?=some s->Tl x s).symm
theorem a7Q{b:List Rg}{P Q:Rg->Rg->Prop}(h:∀r s,P r s ↔ Q r s/\Q s r):(∀i r,i<b.length->b[i]?=some r->∀s∈b.take i,P r s) ↔ ∀i r,i<b.length->b[i]?=some r->∀j s,j<b.length->i≠j->b[j]?=some s->Q r s:=by
 have mem:∀i s,s∈b.take i ↔ ∃j,j<i/\b[j]?=some s:=fun i s=>by
  rw [List.mem_iff_getElem?]
  constructor
  ·rintro ⟨j,hj⟩
   rw [List.getElem?_take] at hj
   split at hj
   ·rename_i hji;exact ⟨j,hji,hj⟩
   ·cases hj
  ·rintro ⟨j,hji,hj⟩
   exact ⟨j,by rw [List.getElem?_take,if_pos hji];exact hj⟩
 constructor
 ·intro hp i r hi hr j s hj hij hs
  rcases Nat.lt_or_ge j i with hl|hl
  ·exact ((h r s).1 (hp i r hi hr s ((mem i s).2 ⟨j,hl,hs⟩))).1
  ·exact ((h s r).1 (hp j s hj hs r ((mem j r).2 ⟨i,by omega,hr⟩))).2
 intro hq i r hi hr s hs
 obtain ⟨j,hji,hj⟩:=(mem i s).1 hs
 exact (h r s).2 ⟨hq i r hi hr j s (by omega) (by omega) hj,hq j s (by omega) hj i r hi (by omega) hr⟩
theorem c3J(v:Dv)(b:List Rg):a6g v b b.length=rdN v b b.length:=by
 obtain ⟨h1,h2,h3,h4,h5,h6,h7,h8⟩:=c3H v b b.length (Nat.le_refl _)
 have d:(a6g v b b.length).dis=(rdN v b b.length).dis:=by
  rw [Bool.eq_iff_iff,h3,h6]
  exact a7Q (P:=fun r s=>ovB r.l r.h.slot s.l s.h.slot=false) (Q:=fun r s=>ovB r.l r.h.slot s.l s.h.slot=false) fun r s=>by rw [c4x s r];exact ⟨fun h=>⟨h,h⟩,fun h=>h.1⟩
 have u:(a6g v b b.length).uni=(rdN v b b.length).uni:=by
  rw [Bool.eq_iff_iff,h4,h7]
  exact a7Q (P:=fun r s=>r.h.seq≠s.h.seq) (Q:=fun r s=>r.h.seq≠s.h.seq) fun r s=>⟨fun h=>⟨h,h.symm⟩,fun h=>h.1⟩
 have t:(a6g v b b.length).tails=(rdN v b b.length).tails:=by
  rw [Bool.eq_iff_iff,h5,h8]
  exact a7Q (P:=fun r s=>Tl r s/\Tl s r) (Q:=Tl) fun r s=>Iff.rfl
 cases hx:a6g v b b.length
 cases hy:rdN v b b.length
 rw [hx,hy] at h1 h2 d u t
 simp only at h1 h2 d u t
 rw [h1,h2,d,u,t]
theorem b3O(c n:Int)(q:Rp):∀X,Pur (E0 X) 13 [.agg (rpL c n q),.agg (rpL c n q)] (.bool true):=fun X=>by
 refine ⟨⟨a3f c n q,a3f c n q,trivial⟩,fun X=>?_⟩
 refine a0b.cut0 ?_ trivial
 obtain ⟨a,b,d,u,t⟩:=q
 show a0b (E0 X) _ [.agg [.int .i64 c,.int .i64 n,.int .i64 a,.int .i64 b,.bool d,.bool u,.bool t],.agg [.int .i64 c,.int .i64 n,.int .i64 a,.int .i64 b,.bool d,.bool u,.bool t]] [] _
 refine Z0 Proofs.Tryz.func13 rfl Proofs.Tryz.ntmps13 (by kernel_rfl) rfl ?_
 refine Zc rfl (Zc rfl (Zs rfl (Zs rfl (Zs rfl (Zh ?_)))))
 refine a0t ((a0w (id:=0) (cs:=[.int .i64 c,.int .i64 n,.int .i64 a,.int .i64 b,.bool d,.bool u,.bool t]) rfl).trans ((a0w (id:=1) (cs:=[.int .i64 c,.int .i64 n,.int .i64 a,.int .i64 b,.bool d,.bool u,.bool t]) rfl).trans (kk 0 a0X rfl (sl':=[(2,.fp [.int .i64 c,.int .i64 n,.int .i64 a,.int .i64 b,.bool d,.bool u,.bool t]),(3,.fp [.int .i64 c,.int .i64 n,.int .i64 a,.int .i64 b,.bool d,.bool u,.bool t]),(4,.bool false)]) ⟨⟨trivial,trivial,trivial,trivial,trivial,trivial,trivial,trivial⟩,⟨trivial,trivial,trivial,trivial,trivial,trivial,trivial,trivial⟩,trivial,trivial⟩))) ?_
 refine Zc rfl (Zb rfl rfl ?_)
 refine a0c ⟨_,rfl,congrArg AV.bool (by simp)⟩
def la1:La:=⟨1,1,2,4⟩
theorem c0d:∀X,Pur (E0 X) 44 [.int .i64 0,.int .i64 0,.int .i64 0] (laA la1):=fun X=>by
 refine ⟨⟨trivial,trivial,trivial,trivial⟩,fun X=>?_⟩
 refine a0b.cut0 ?_ a1g
 refine Z0 Proofs.Tryz.func44 rfl Proofs.Tryz.ntmps44 (by kernel_rfl) rfl ?_
 repeat' (first|refine Zs rfl ?_|refine Zc rfl ?_|refine Zd rfl ?_|refine Qh ?_|refine Qk ?_|refine Zk ?_|refine Qw (by kernel_rfl) ?_|refine Zt rfl ?_)
 refine Qa rfl ?_
 refine a8M rfl rfl (by decide) ?_
 first|refine nx rfl rfl ?_|refine nx0 ?_
 repeat' (first|refine Zs rfl ?_|refine Zc rfl ?_|refine Zd rfl ?_|refine Qh ?_|refine Qk ?_|refine Zk ?_|refine Qw (by kernel_rfl) ?_|refine Zt rfl ?_)
 refine a0c ⟨_,rfl,by show one _=_;kernel_rfl⟩
def Dv.zer(v:Dv):Nat->Dv
 | 0=>v
 | n+1=>(v.zer n).put n []
theorem Lv.zer{L:Nat}{v:Dv}(h:Lv L v):∀n,n*64<=L->Lv L (v.zer n)
 | 0,_=>h
 | n+1,hn=>(h.zer n (by omega)).put (by omega) (b:=[]) (by decide)
theorem b8t{L:Nat}{v:Dv}(h:Lv L v):∀n,n*64<=L->(v.zer n).image=List.replicate (n*64) 0++v.image.drop (n*64)
 | 0,_=>by simp [Dv.zer]
 | n+1,hn=>by
  have ih:=b8t h n (by omega)
  show (v.zer n).image.take (n*64)++([]++List.replicate (64 - 0) 0)++(v.zer n).image.drop (n*64+64)=_
  have e:(n+1)*64=n*64+64:=by omega
  rw [ih,List.take_left' List.length_replicate,e,<- List.drop_drop,List.drop_left' List.length_replicate,List.drop_drop,List.nil_append,List.replicate_append_replicate]
def fmS(l:La):Sb:=⟨1,1,0,1,0,l,⟨0,0,0,0⟩,[]⟩
theorem c3P{l:La}(h:a1a l=true):sbB (fmS l)=true:=by
 unfold sbB phB fmS
 simp [h]
def Dv.fm0(v:Dv):Dv:={ v.zer (v.image.length / 64) with old:=[] }
def Dv.fmt(v:Dv)(l:La):Dv:=v.fm0.pubd (fmS l)
theorem Lv.fm0{L:Nat}{v:Dv}(h:Lv L v):Lv L v.fm0:=(h.zer _ (by have:=h.len;omega)).clean
theorem c1y{L:Nat}{v:Dv}(h:Lv L v):v.fm0.image=List.replicate L 0:=by
 have h1:=h.len
 have h2:=h.inv.load.1
 show (v.zer (v.image.length / 64)).image=_
 have e:v.image.length / 64*64=v.image.length:=by omega
 rw [b8t h _ (by omega),e,List.drop_length,List.append_nil,h1]
theorem Lv.fmt{L:Nat}{v:Dv}(h:Lv L v)(hL:128<=L)(l:La):Lv L (v.fmt l):=h.fm0.pubd hL _
theorem b1w{L:Nat}{v:Dv}(h:Lv L v)(l:La){j:Nat}(hL:128<=L)(hj:j*64+64<=L):((v.fmt l).image.drop (j*64)).take 64=if j=1 then a3D (fmS l) 1 else List.replicate 64 0:=by
 have h1:=h.fm0.len
 have hs:a4f (fmS l)=1:=rfl
 have e:=b9H (v:=v.fm0) (s:=fmS l) (j:=j) (by omega) (by omega)
 rw [hs,c1y h] at e
 refine e.trans ?_
 split
 ·rfl
 ·rw [List.drop_replicate,List.take_replicate,Nat.min_eq_left (by omega)]
theorem b9e{L:Nat}{v:Dv}(h:Lv L v){l:La}(hL:128<=L)(hl:a1a l=true):a2c (v.fmt l)=some (fmS l):=by
 have h0:=b1w h l (j:=0) hL (by omega)
 have h1:=b1w h l (j:=1) hL (by omega)
 rw [b3l (h.fmt hL l) hL,b0g,h0,h1,if_neg (by decide),if_pos rfl,a6s (a7y 0),b4A (o:=none) (b5J (c3P hl) 1) rfl (by show (0:Int)<1;decide)]
theorem c1B{L:Nat}{v:Dv}(h:Lv L v)(l a:La)(hL:128<=L)(i:Int):a2q (v.fmt l).image a i=none:=by
 have hlen:=(h.fmt hL l).len
 unfold a2q
 split
 ·rename_i hs
  obtain ⟨h0,_,_⟩:=a2y hs.1 hs.2.1 hs.2.2
  obtain ⟨k,hk⟩:=Int.eq_ofNat_of_zero_le (show 0<=74+i*a.rs by omega)
  have hz:∀n:Nat,n%256≠0\/True->a7x (List.replicate 64 0) n=none:=fun n _=>by
   unfold a7x
   rw [b5I (by decide)]
  rw [hk,Int.toNat_natCast]
  by_cases hb:k*64+64<=L
  ·rw [c3c (by omega),b1w h l hL hb,if_neg (by omega),hz k (.inr trivial)]
   rfl
  have e:a4H (v.fmt l).image (k:Int)=[]:=if_pos (.inr (by omega))
  rw [e]
  unfold a7x
  rw [show a2A 1 0 k []=none by unfold a2A;rfl]
  rfl
 ·rfl
theorem c1z{L:Nat}{v:Dv}(h:Lv L v)(l:La)(hL:128<=L)(ls:List La):a3J (a2q (v.fmt l).image) ls=[]:=by
 have hh:=fun a i=>c1B h l a hL i
 generalize a2q (v.fmt l).image=f at *
 unfold a3J
 rw [List.flatMap_eq_nil_iff]
 intro a _
 unfold a6D
 rw [List.filterMap_eq_nil_iff]
 intro i _
 simp [hh]
theorem c1A{L:Nat}{v:Dv}(h:Lv L v){l:La}(hL:128<=L)(hf:b1e l ((L / 64:Nat):Int)=true):a5A (v.fmt l)=some ([],[]):=by
 have hfo:a1a l=true:=by
  unfold b1e at hf
  simp only [Bool.and_eq_true] at hf
  exact hf.1
 have hlen:=(h.fmt hL l).len
 have e1:a3F (v.fmt l) (fmS l)=[]:=by
  unfold a3F
  rw [show a1Z (v.fmt l)=a2q (v.fmt l).image from funext fun a=>funext fun i=>a4G (h.fmt hL l) a i]
  exact c1z h l hL _
 have e2:(a0W (fmS l)).any (nfB (v.fmt l))=false:=by
  have:a0W (fmS l)=[l]:=rfl
  rw [this]
  show (nfB (v.fmt l) l || false)=false
  unfold nfB
  rw [hlen,hf]
  rfl
 unfold a5A
 rw [b9e h hL hfo]
 simp only [e1,e2,cond_false]
 rfl
theorem b5t(n:Nat)(h1:2<=n)(h2:n<=300):a5A (Dv.fresh (List.replicate (n*64) 0))=none:=by
 have hv:Lv (n*64) (Dv.fresh (List.replicate (n*64) 0)):=by
  have:=a9p (img:=List.replicate (n*64) 0) (by rw [List.length_replicate];exact ⟨by omega,by omega,by omega⟩)
  rwa [List.length_replicate] at this
 have hl:a2c (Dv.fresh (List.replicate (n*64) 0))=none:=by
  rw [b3l hv (by omega),b0g]
  show a1Y (a1Y none 0 (((List.replicate (n*64) (0:UInt8)).drop (0*64)).take 64)) 1 (((List.replicate (n*64) (0:UInt8)).drop (1*64)).take 64)=_
  rw [List.drop_replicate,List.take_replicate,List.drop_replicate,List.take_replicate,Nat.min_eq_left (by omega),Nat.min_eq_left (by omega),a6s (a7y 0),a6s (a7y 1)]
 unfold a5A
 rw [hl]
theorem c3r{L:Nat}{v:Dv}(h:Lv L v){i:Nat}(hi:i*64+64<=L)(R:Hp)(X:Nat->Prop):a0b (E0 X) 95 [.ptr 0 0,.int .i64 (i:Int),.nils] (a0K v++R) (fun r H'=>r=.int .i64 0/\H'=a0K (v.put i [])++R):=by
 have hw:=h.write hi (b:=[]) (by decide)
 have h1:=a2U (fun X=>b8s X v h.inv.ok (i:Int) [] (by decide)) ⟨trivial,trivial,trivial⟩ trivial R (X:=X)
 rw [hw] at h1
 exact a0b.wkA h1 (a9V (a9V (a9U c1j b8r)))
theorem wi{i:Nat}(h:i<4611686018427387904):IntKind.i64.wrap ((i:Int)+1)=((i+1:Nat):Int):=a0r (by omega) (by omega)
theorem c0H{n:Nat}{v:Dv}(h:3<=n):HL n (a0K v):=by
 refine ⟨⟨?_,?_,trivial,trivial,trivial,trivial⟩,a0h fun _=>a0k,⟨?_,?_⟩,trivial⟩
 ·show 1<n;omega
 ·show 2<n;omega
 ·rw [List.map_map];exact a0h fun _=>trivial
 ·rw [List.map_map];exact a0h fun p=>(a0h (f:=u8A) fun _=>a0k:a0e _ (p.2.map u8A))
theorem b6o{n:Nat}{l:La}:a0e n (laL l):=a1g (l:=l)
theorem b9g(X:Nat->Prop)(v:Dv)(L:Nat)(hv:Lv L v)(hL:L<=20000)(l:La):a0b (E0 X) 43 [.ptr 0 0,laA l] (a0K v)
  (fun r H'=>r=.int .i64 (if b1e l ((L / 64:Nat):Int)=true then 0 else 4)/\H'=a0K (if b1e l ((L / 64:Nat):Int)=true then v.fmt l else v)):=by
 refine a0b.cutDv ?_ trivial
 have hd:=fun R=>a2U (fun X=>c0E X v) trivial trivial R (X:=X)
 rw [hv.dead] at hd
 have hs:=fun R=>a2U (fun X=>a8b X v) trivial trivial R (X:=X)
 have hlen:=hv.len
 have h64:=hv.inv.load.1
 rw [a8a (by omega),hlen] at hs
 have hft:=c0F l ((L / 64:Nat):Int) X
 refine Z0 Proofs.Tryz.func43 rfl Proofs.Tryz.ntmps43 (by kernel_rfl) rfl (G0 rfl ?_)
 refine GF (hd _) rfl rfl rfl rfl rfl rfl ⟨nofun,fun _=>?_⟩
 refine Ge rfl (by kernel_rfl) rfl ?_
 refine GQ (hs _) rfl rfl rfl rfl rfl rfl rfl ?_
 refine GQ (a0f hft.2 hft.1 _) rfl rfl rfl rfl rfl rfl rfl ?_
 have hfit:b1e l ((L / 64:Nat):Int)=true->74<=L / 64/\a1a l=true:=fun h=>by
  unfold b1e at h
  simp only [Bool.and_eq_true,decide_eq_true_eq] at h
  obtain ⟨a,_,b,_⟩:=a1z h.1
  have:0<=l.regs*l.rs:=Int.mul_nonneg (by omega) (by omega)
  exact ⟨by omega,h.1⟩
 refine ⟨fun h=>?_,fun h=>?_⟩
 ·rw [if_neg (by simpa using h),if_neg (by simpa using h)]
  exact ⟨_,rfl,rfl,rfl⟩
 rw [Bool.not_eq_false'] at h
 rw [if_pos h,if_pos h]
 obtain ⟨h74,hfo⟩:=hfit h
 refine GF (hs _) rfl rfl rfl rfl rfl rfl ?_
 refine Gl 0 (fun i:Nat=>[(19,.int .i64 (i:Int))]) (fun i=>a0K (v.zer i)++[some (.cells (laL l) 23)]) (fun i=>i<=L / 64) (fun i=>L / 64 - i) 0 rfl (Nat.zero_le _) (gi 4 rfl (by simp [sd,c0H,b6o])) fun i hi=>?_
 have hw:=c3r (hv.zer i (by omega)) (i:=i)
 refine Gc rfl ⟨fun h1=>?_,fun h1=>?_⟩
 ·have h1:(i:Int)<((L / 64:Nat):Int):=of_decide_eq_true h1
  refine GF (hw (by omega) _ X) rfl rfl rfl rfl rfl rfl ?_
  refine ⟨nofun,fun _=>?_⟩
  rw [wi (by omega)]
  exact ⟨i+1,by omega,by omega,gi 4 rfl (by simp [sd,c0H,b6o])⟩
 have h1:¬ (i:Int)<((L / 64:Nat):Int):=of_decide_eq_false h1
 obtain rfl:i=L / 64:=by omega
 have hbr:=a2U (fun X=>b0f X (v.zer (L / 64)) (hv.zer _ (by omega)).inv.fuse) trivial trivial [some (.cells (laL l) 23)] (X:=X)
 rw [(hv.zer _ (by omega)).bar] at hbr
 refine GF hbr rfl rfl rfl rfl rfl rfl ⟨nofun,fun _=>?_⟩
 have hpb:=a2U (fun X=>b7d X v.fm0 hv.fm0.inv.ok (fmS l) .nils a7j (Nat.zero_le _)) ⟨⟨trivial,trivial,trivial,trivial,trivial,trivial,trivial,trivial,trivial,trivial,trivial,trivial,trivial,trivial,trivial⟩,trivial⟩ trivial [some (.cells (laL l) 23)] (X:=X)
 rw [hv.fm0.pub (by omega) (c3P hfo)] at hpb
 have e:({ v.zer (L / 64) with old:=[] }:Dv)=v.fm0:=by unfold Dv.fm0;rw [hlen]
 rw [e]
 exact GF hpb rfl rfl rfl rfl rfl rfl ⟨_,rfl,rfl,rfl⟩
def v29:Dv:=Dv.fresh (List.replicate 7040 0)
theorem c5l:Dv.fresh (List.replicate ((110:Int).toNat*64) 0)=v29:=by
 unfold v29
 rw [show (110:Int).toNat*64=7040 from rfl]
theorem b0Z:Lv 7040 v29:=by
 have h:=a9p (img:=List.replicate 7040 0) (by rw [List.length_replicate];exact ⟨by decide,by decide,by decide⟩)
 rw [List.length_replicate] at h
 unfold v29
 exact h
theorem c3q(X:Nat->Prop):a0b (E0 X) 42 [.int .i64 110] [] (fun r H'=>r=.ptr 0 0/\H'=a0K v29):=(c5O X 110).mono fun r H' h=>by
 rcases h with ⟨_,_,h1,h2⟩|⟨h1,_⟩
 ·rw [c5l] at h2;exact ⟨h1,h2⟩
 ·exact absurd ⟨by decide,by decide⟩ h1
theorem c0p:b4Y v29=.tup [.agg (rpL 0 0 rp0),.int .i64 4]:=by
 have h:=b5t 110 (by decide) (by decide)
 rw [show 110*64=7040 from rfl] at h
 unfold b4Y
 rw [show v29=Dv.fresh (List.replicate 7040 0) by unfold v29;rfl,h]
theorem b2v:b1e la1 ((7040 / 64:Nat):Int)=true:=by kernel_rfl
theorem b8q:a5A (v29.fmt la1)=some ([],[]):=c1A b0Z (by decide) b2v
theorem b8V{v:Dv}(h:a5A v=some ([],[])):b4Y v=.tup [.agg (rpL 0 0 rp1),.int .i64 0]:=by
 unfold b4Y
 rw [h]
 rfl
theorem b9a{v:Dv}(h:a5A v=some ([],[])):b5L v []=true:=by
 unfold b5L
 rw [h]
 rfl
theorem b5m:∀X,Pur (E0 X) 9 [] (.bool true):=by
 refine Zj trivial trivial fun X=>?_
 have hn:=c3q X
 have h1:=a6h X v29 7040 b0Z (by decide)
 rw [c0p] at h1
 have h2:=fun R=>a2U (X:=X) (R:=R) (v':=v29.fmt la1) (r0:=.int .i64 0) (fun X=>by have h:=b9g X v29 7040 b0Z (by decide) la1;rw [if_pos b2v,if_pos b2v] at h;exact h) (by exact ⟨a1g,trivial⟩) trivial
 have h3:=fun R=>a2U (X:=X) (R:=R) (v':=v29.fmt la1) (r0:=.tup [.agg (rpL 0 0 rp1),.int .i64 0]) (fun X=>by have h:=a6h X (v29.fmt la1) 7040 (b0Z.fmt (by decide) la1) (by decide);rw [b8V b8q] at h;exact h) (by exact trivial) (by exact ⟨a3f _ _ _,trivial,trivial⟩)
 have h4:=fun R=>a2U (X:=X) (R:=R) (v':=v29.fmt la1) (r0:=.bool true) (fun X=>by have h:=b0p X (v29.fmt la1) 7040 (b0Z.fmt (by decide) la1) (by decide) [] (fun _=>by decide);rw [b9a b8q] at h;exact a0b.wkA (args:=[.ptr 0 0,.nils]) h (a9V (a9U c1j b8r))) (by exact ⟨trivial,trivial⟩) trivial
 generalize v29.fmt la1=v1 at *
 generalize v29=v0 at *
 refine Z0 Proofs.Tryz.func9 rfl Proofs.Tryz.ntmps9 (by kernel_rfl) rfl (G0 rfl ?_)
 refine GF hn rfl rfl rfl rfl rfl rfl ?_
 refine GF h1 rfl rfl rfl rfl rfl rfl ?_
 refine GP (c0d X) rfl rfl rfl rfl rfl ?_
 refine GF (h2 _) rfl rfl rfl rfl rfl rfl ⟨nofun,fun _=>?_⟩
 refine GF (h3 _) rfl rfl rfl rfl rfl rfl ?_
 refine Gu rfl rfl rfl rfl ⟨fun _=>?_,nofun⟩
 refine Gu rfl rfl rfl rfl ⟨fun _=>?_,nofun⟩
 refine Gu rfl rfl rfl rfl ⟨fun _=>?_,nofun⟩
 refine Gu rfl rfl rfl rfl ⟨fun _=>?_,nofun⟩
 exact GF (h4 _) rfl rfl rfl rfl rfl rfl ⟨_,rfl,rfl⟩
theorem b4k(X:Nat->Prop)(s:Sb)(ps:List Pt)(hp:∀p∈ps,c3y p)(hpl:ps.length<=maxLen)(l:List Pr)(hl:l.length<=maxLen):a0b (E0 X) 3 [sbA s,.sl 33 (ps.map ptA),.sl 6 (l.map prA)] [] (fun r H'=>r=.bool true/\H'=[]):=by
 refine a0b.cut0 ?_ trivial
 have hdv:=b8W X s ps hp hpl
 have haw:=b5m X
 refine Z0 Proofs.Tryz.func3 rfl Proofs.Tryz.ntmps3 (by kernel_rfl) rfl (G1 4 rfl ?_)
 refine Gz 0 0 0 rfl rfl rfl rfl (by simp [sd,a5h,b7a,a4o]) (Gc rfl ?_)
 refine GM hdv rfl rfl rfl ?_
 rintro r H' (⟨img,hd,rfl,rfl⟩|⟨rfl,rfl,-⟩)
 rotate_left
 ·exact Gr rfl ⟨fun _=>GP haw rfl rfl rfl rfl rfl ⟨_,rfl,rfl⟩,nofun⟩
 obtain ⟨hok,him⟩:=b5K hd
 refine Gr rfl ⟨nofun,fun _=>?_⟩
 refine GM (b6w X img (by omega)) rfl rfl rfl ?_
 rintro r H' (⟨-,rfl,rfl⟩|⟨h,-,-⟩)
 rotate_left
 ·exact absurd hok h
 have hlv:Lv img.length (Dv.fresh img):=a9p hok
 have hc:=a6h X (Dv.fresh img) _ hlv (by omega)
 have hrc:Pur (E0 X) 12 [.sl 1 (img.map u8A)] (rdA (Dv.fresh img)):=⟨⟨a0h fun _=>a0k,trivial⟩,fun Y=>b1X Y (Dv.fresh img) _ hlv (by omega)⟩
 have hen:=fun (q:List Pr) hq R=>a2U (X:=X) (R:=R) (v':=Dv.fresh img) (r0:=.bool (b5L (Dv.fresh img) q)) (fun X=>b0p X (Dv.fresh img) _ hlv (by omega) q hq) (by exact ⟨a4o q,trivial⟩) trivial
 refine Gr rfl ?_
 cases hf:a5A (Dv.fresh img) with
 | none =>
  have e1:b4Y (Dv.fresh img)=.tup [.agg (rpL 0 0 rp0),.int .i64 4]:=by unfold b4Y;rw [hf]
  have e2:rdA (Dv.fresh img)=.tup [.agg (rpL 0 0 rp0),.bool false]:=by unfold rdA;rw [hf]
  rw [e1] at hc
  rw [e2] at hrc
  generalize hv0:Dv.fresh img=v at *
  refine GF hc rfl rfl rfl rfl rfl rfl ?_
  refine GP hrc rfl rfl rfl rfl rfl ⟨fun _=>?_,nofun⟩
  replace hen:=hen l (fun h=>absurd hf h)
  rw [show b5L v l=false by unfold b5L;rw [hf]] at hen
  refine GP haw rfl rfl rfl rfl rfl (Gu rfl rfl rfl rfl ⟨fun _=>Gu rfl rfl rfl rfl ⟨fun _=>?_,nofun⟩,nofun⟩)
  refine GP (b3O 0 0 rp0 X) rfl rfl rfl rfl rfl (Gu rfl rfl rfl rfl ⟨fun _=>?_,nofun⟩)
  refine GF (hen _) rfl rfl rfl rfl rfl rfl ⟨_,rfl,rfl⟩
 | some p =>
  have e1:b4Y (Dv.fresh img)=.tup [.agg (rpL p.1.length p.2.length (a6g (Dv.fresh img) p.2 p.2.length)),.int .i64 0]:=by unfold b4Y;rw [hf]
  have e2:rdA (Dv.fresh img)=.tup [.agg (rpL p.1.length p.2.length (a6g (Dv.fresh img) p.2 p.2.length)),.bool true]:=by unfold rdA;rw [hf,c3J]
  rw [e1] at hc
  rw [e2] at hrc
  have hl8:(l.take 8).length<=8:=List.length_take_le _ _
  obtain ⟨n,hn⟩:∃n:Nat,n=min l.length 8:=⟨_,rfl⟩
  have hsm:=b3O p.1.length p.2.length (a6g (Dv.fresh img) p.2 p.2.length) X
  replace hen:=hen (l.take n) (fun _=>by rw [List.length_take];omega)
  have hre:Pur (E0 X) 15 [.sl 1 (img.map u8A),.sl 6 ((l.take n).map prA)] (.bool (b5L (Dv.fresh img) (l.take n))):=⟨⟨a0h fun _=>a0k,a4o _,trivial⟩,fun Y=>by
   have:=b4I Y (Dv.fresh img) _ hlv (by omega) (l.take n) (by rw [List.length_take];omega)
   rw [c3L hlv] at this;exact this⟩
  have him:=fun R=>a2U (X:=X) (R:=R) (v':=Dv.fresh img) (r0:=.sl 1 (img.map u8A)) (fun X=>c1O X (Dv.fresh img) (by show img.length<=_;omega)) trivial (by exact a0h fun _=>a0k)
  have heq:Pur (E0 X) 16 [.sl 1 (img.map u8A),.sl 1 (img.map u8A)] (.bool true):=⟨⟨a0h fun _=>a0k,a0h fun _=>a0k,trivial⟩,fun Y=>(b4q Y img img (by omega)).mono fun r H' h=>by rw [decide_eq_true rfl] at h;exact h⟩
  generalize b5L (Dv.fresh img) (l.take n)=eb at *
  generalize a6g (Dv.fresh img) p.2 p.2.length=q at *
  generalize hv0:Dv.fresh img=v at *
  refine GF hc rfl rfl rfl rfl rfl rfl ?_
  refine GP hrc rfl rfl rfl rfl rfl ⟨nofun,fun _=>?_⟩
  refine GS (a1f (l:=0) (h:=n) (ys:=l.take n) rfl (a0q rfl (by rw [hn,List.length_map];omega)) (by omega) (by omega) rfl rfl rfl rfl rfl rfl ⟨rfl,rfl⟩) rfl rfl rfl rfl ?_
  refine GP haw rfl rfl rfl rfl rfl (Gu rfl rfl rfl rfl ⟨fun _=>Gu rfl rfl rfl rfl ⟨fun _=>?_,nofun⟩,nofun⟩)
  refine GP hsm rfl rfl rfl rfl rfl (Gu rfl rfl rfl rfl ⟨fun _=>?_,nofun⟩)
  refine GF1 [68] (hen _) rfl rfl rfl rfl rfl rfl ?_
  refine GP1 [68] hre rfl rfl rfl rfl rfl (Gu rfl rfl rfl rfl ⟨fun _=>?_,fun h=>absurd h (by simp)⟩)
  refine GF1 [77] (him _) rfl rfl rfl rfl rfl rfl ?_
  exact GP1 [77] heq rfl rfl rfl rfl rfl ⟨_,rfl,rfl⟩
theorem c4D{X:Nat->Prop}{x:AV}(h:a3E (E0 X) 4 28 [x]):∃l:List Pr,x=.sl 6 (l.map prA)/\l.length<=maxLen:=by
 have h1:∃es,[x]=[.sl 6 es]/\es.length<=maxLen/\∀y∈es,∃ys,y=elA true ys/\b3b (E0 X) (a3E (E0 X) 2) [(0,9),(1,67)] ys:=h
 obtain ⟨es,h2,hlen,h3⟩:=h1
 simp only [List.cons.injEq,and_true] at h2
 subst h2
 obtain ⟨l,rfl⟩:=a9n (f:=prA) fun y hy=>by
  obtain ⟨ys,rfl,_,_,rfl,⟨s,rfl,_⟩,e,_,rfl,he,rfl⟩:=h3 y hy
  have he1:b3b (E0 X) (a3E (E0 X) 1) [(0,3),(1,3),(2,3),(3,3),(4,4)] e:=he
  obtain ⟨_,_,rfl,⟨a,rfl,_⟩,_,_,rfl,⟨b,rfl,_⟩,_,_,rfl,⟨c,rfl,_⟩,_,_,rfl,⟨d,rfl,_⟩,_,_,rfl,⟨t,rfl⟩,rfl⟩:=he1
  exact ⟨(s,⟨a,b,c,d,t⟩),rfl⟩
 exact ⟨l,rfl,by simpa using hlen⟩
end Go.Abs
