/- The device of the reference. Joined texts, each with what its own name promises; no condition beyond those stated. -/
import Derived.Test.YtkmmdlicifiknaaGreatDoorCC
import Derived.Test.YtkmmdlicifiknaaGreatDoorCJ
import Derived.Test.YtkmmdlicifiknaaGreatDoorCO
import Derived.Test.YtkmmdlicifiknaaGreatDoorCF
import Derived.Test.YtkmmdlicifiknaaGreatDoorCE
import Derived.Test.YtkmmdlicifiknaaGreatDoorCI
set_option maxHeartbeats 0
set_option maxRecDepth 100000
set_option linter.all false
namespace Go.Abs
theorem w64{k:Nat}(h:k<=16777216):IntKind.i64.wrap ((k:Int)*64)=((k*64:Nat):Int):=a0x (by simp) (by omega) (by omega)
theorem c7v{k:Nat}{j:Int}{m:Nat}(h:k<=16777216)(h2:(k*64:Nat)+j=(m:Int))(h3:m<=1073741824):IntKind.i64.wrap (IntKind.i64.wrap ((k:Int)*64)+j)=(m:Int):=by
 rw [w64 h];exact a0x h2 (by omega) (by omega)
attribute [local irreducible] a0z a1p AWp Nx awM
end Go.Abs
namespace Go.Abs
structure Rd where
 old:List UInt8
 new:List UInt8
 dirt:List Bool
 has:Bool
 left:Int
 gone:Bool
 wrote:Int
def rdH(r:Rd):Hp :=
 [some (.cells [.own 1 0 r.old.length,.own 2 0 r.new.length,.own 3 0 r.dirt.length,.bool r.has,.int .i64 r.left,.bool r.gone,.int .i64 r.wrote] 105),
  some (.arr (r.old.map u8A) 5),some (.arr (r.new.map u8A) 5),some (.arr (r.dirt.map boA) 4)]
theorem a1I(r:Rd):HOk 4 (rdH r):=fun j o ho=>by
 match j,ho with
 | 0,ho=>cases ho;exact ⟨by simp [a0d],by simp [a0d],by simp [a0d],trivial,trivial,trivial,trivial,trivial⟩
 | 1,ho=>cases ho;exact a0h fun _=>a0k
 | 2,ho=>cases ho;exact a0h fun _=>a0k
 | 3,ho=>cases ho;exact a0h fun _=>b5u
def Rd.dies(r:Rd):Bool:=r.has&&decide (r.left=0)
def Rd.burn(r:Rd):Rd:=if r.dies=true then { r with gone:=true } else { r with left:=IntKind.i64.wrap (r.left - 1) }
attribute [local irreducible] a0z a1p AWp Nx awM
theorem b7h(X:Nat->Prop)(r:Rd):a0b (E0 X) 84 [.ptr 0 0] (rdH r) (fun v H'=>v=.bool (!r.dies)/\H'=rdH r.burn):=by
 refine Z0 Proofs.Tryz.func84 rfl Proofs.Tryz.ntmps84 (by kernel_rfl) rfl ?_
 repeat' (first|refine Zs rfl ?_|refine Zc rfl ?_|refine Zh ?_|refine Qs ?_|((fail_if_success refine QV rfl ?_);refine Qz rfl rfl (fun _=>?_) (fun _=>?_)))
 ·rename_i h1
  refine a0g rfl (fun h2=>?_) (fun h2=>?_)
  ·have h2':r.left=0:=h2
   repeat' (first|refine Zs rfl ?_|refine Zc rfl ?_|refine Zh ?_|refine Qs ?_)
   refine a0c ⟨_,rfl,?_,?_⟩
   ·simp [Rd.dies,h1,h2']<;>rfl
   ·simp [Rd.dies,Rd.burn,h1,h2']<;>rfl
  have h2':¬ r.left=0:=h2
  repeat' (first|refine Zs rfl ?_|refine Zc rfl ?_|refine Zh ?_|refine Qs ?_)
  refine a0c ⟨_,rfl,?_,?_⟩
  ·simp [Rd.dies,h1,h2']<;>rfl
  ·simp [Rd.dies,Rd.burn,h1,h2']<;>rfl
 rename_i h1
 refine a0c ⟨_,rfl,?_,?_⟩
 ·simp [Rd.dies,h1]<;>rfl
 ·simp [Rd.dies,Rd.burn,h1]<;>rfl
def b6P(b:List UInt8):List UInt8:=b++List.replicate (64 - b.length) 0
def a5y(new b:List UInt8)(i k:Nat):List UInt8:=new.take (i*64)++(b6P b).take k++new.drop (i*64+k)
def Rd.put(r:Rd)(i:Nat)(b:List UInt8):Rd:={ r with new:=a5y r.new b i 64,dirt:=r.dirt.set i true,wrote:=IntKind.i64.wrap (r.wrote+1) }
def Rd.check(r:Rd)(i:Int):Int:=if r.gone=true then 1 else if i<0\/(r.dirt.length:Int)<=i then 2 else 0
def Rd.write(r:Rd)(i:Int)(b:List UInt8):Int × Rd :=
 if r.check i≠0 then (r.check i,r) else if 64<b.length then (3,r) else if r.dies=true then (1,r.burn) else (0,r.burn.put i.toNat b)
theorem b6R{b:List UInt8}(h:b.length<=64):(b6P b).length=64:=by simp [b6P];omega
theorem a2N{new b:List UInt8}{i k:Nat}(hb:b.length<=64)(h:i*64+64<=new.length)(hk:k<=64):(a5y new b i k).length=new.length:=by
 simp [a5y,b6R hb];omega
theorem b9d{new b:List UInt8}{i k:Nat}{x:UInt8}(hb:b.length<=64)(h:i*64+64<=new.length)(hk:k<64)(hx:(b6P b)[k]?=some x):(a5y new b i k).set (i*64+k) x=a5y new b i (k+1):=by
 have hl:=b6R hb
 have h1:(new.take (i*64)++(b6P b).take k).length=i*64+k:=by simp [hl];omega
 have h2:new.drop (i*64+k)=new[i*64+k]'(by omega)::new.drop (i*64+k+1):=List.drop_eq_getElem_cons (by omega)
 have h3:(b6P b).take (k+1)=(b6P b).take k++[x]:=by
  rw [List.take_add_one,hx];rfl
 unfold a5y
 rw [h2,List.set_append_right _ _ (by rw [h1];exact Nat.le_refl _),h1,Nat.sub_self,List.set_cons_zero,h3]
 simp [Nat.add_assoc]
theorem c2o{b:List UInt8}{k:Nat}(hk:k<64):(b6P b)[k]?=some ((b[k]?).getD 0):=by
 unfold b6P
 rcases Nat.lt_or_ge k b.length with h|h
 ·rw [List.getElem?_append_left h,List.getElem?_eq_getElem h];rfl
 ·rw [List.getElem?_append_right h,List.getElem?_eq_none h,List.getElem?_replicate,if_pos (by omega)];rfl
theorem c4G{r:Rd}{i:Int}(h:r.check i=0):r.gone=false/\∃k:Nat,i=k/\k<r.dirt.length:=by
 unfold Rd.check at h
 split at h
 ·omega
 rename_i h1
 split at h
 ·omega
 ·rename_i h2
  exact ⟨by simpa using h1,i.toNat,by omega,by omega⟩
theorem a4p{r:Rd}{l:List UInt8}(h:l.length=r.new.length) :
  rdH { r with new:=l }=[some (.cells [.own 1 0 r.old.length,.own 2 0 r.new.length,.own 3 0 r.dirt.length,.bool r.has,.int .i64 r.left,.bool r.gone,.int .i64 r.wrote] 105),
  some (.arr (r.old.map u8A) 5),some (.arr (l.map u8A) 5),some (.arr (r.dirt.map boA) 4)]:=by rw [<- h];rfl
theorem a5P(X:Nat->Prop)(r:Rd)(i:Int)(b:List UInt8)(hb:b.length<=1073741824)(hd:r.dirt.length*64=r.new.length)(hl:r.new.length<=1073741824) :
  a0b (E0 X) 32 [.ptr 0 0,.int .i64 i,.sl 1 (b.map u8A)] (rdH r) (fun v H'=>v=.int .i64 (r.write i b).1/\H'=rdH (r.write i b).2):=by
 refine Z0 Proofs.Tryz.func32 rfl Proofs.Tryz.ntmps32 (by kernel_rfl) rfl ?_
 repeat' (first|refine Zs rfl ?_|refine Zc rfl ?_|refine Zh ?_|refine Qs ?_)
 refine a0I rfl (fun hg=>?_) (fun hg=>?_)
 ·have e:r.write i b=(1,r):=by simp [Rd.write,Rd.check,hg]
  repeat' (first|refine Zs rfl ?_|refine Zc rfl ?_|refine Zh ?_|refine Qs ?_)
  refine a0c ⟨_,rfl,?_,?_⟩
  ·rw [e]<;>rfl
  ·rw [e]<;>rfl
 refine b2G (s1:=⟨[(0,.ptr 0 0),(1,.int .i64 i),(2,.sl 1 (b.map u8A)),(14,.bool (decide (i<0\/(r.dirt.length:Int)<=i)))],rdH r⟩) ?_ ?_
 ·repeat' (first|refine Zs rfl ?_|refine Zc rfl ?_|refine Zh ?_|((fail_if_success refine QV rfl ?_);refine Qy rfl rfl (fun _=>?_) (fun _=>?_)))
  ·rename_i h1
   refine ⟨rfl,a0j 4 (Nat.le_refl _) (a1I r) rfl (by first|exact Nat.le_refl 4|simp) ?_⟩
   repeat' (first|exact a0l|refine a0a ⟨?_,?_⟩ ?_)
   all_goals (try first|exact rfl|exact trivial|(simp [a0d,a0e];done)|(simp [a0R, *];done))
  rename_i h1
  refine ⟨rfl,a0j 4 (Nat.le_refl _) (a1I r) rfl (by first|exact Nat.le_refl 4|simp) ?_⟩
  repeat' (first|exact a0l|refine a0a ⟨?_,?_⟩ ?_)
  all_goals (try first|exact rfl|exact trivial|(simp [a0d,a0e];done)|(simp [a0R, *];done))
 refine a0g rfl (fun h1=>?_) (fun h1=>?_)
 ·have e:r.write i b=(2,r):=by simp [Rd.write,Rd.check,hg,h1]
  repeat' (first|refine Zs rfl ?_|refine Zc rfl ?_|refine Zh ?_|refine Qs ?_)
  refine a0c ⟨_,rfl,?_,?_⟩
  ·rw [e]<;>rfl
  ·rw [e]<;>rfl
 have hc:r.check i=0:=by simp only [Rd.check,hg];simp [h1]
 obtain ⟨-,k,rfl,hk⟩:=c4G hc
 repeat' (first|refine Zs rfl ?_|refine Zc rfl ?_|refine Zh ?_|refine Qs ?_)
 refine a0g rfl (fun h2=>?_) (fun h2=>?_)
 ·have h2':64<b.length:=by simpa using Int.ofNat_lt.1 h2
  have e:r.write k b=(3,r):=by simp [Rd.write,hc,h2']
  repeat' (first|refine Zs rfl ?_|refine Zc rfl ?_|refine Zh ?_|refine Qs ?_)
  refine a0c ⟨_,rfl,?_,?_⟩
  ·rw [e]<;>rfl
  ·rw [e]<;>rfl
 have hb2:b.length<=64:=by simp at h2;omega
 repeat' (first|refine Zs rfl ?_|refine Zc rfl ?_|refine Qa rfl ?_)
 refine Cn rfl (b7h X r) rfl rfl ?_
 repeat' (first|refine Zs rfl ?_|refine Zh ?_|refine Qs ?_)
 cases hdie:r.dies with
 | true =>
  have e:r.write k b=(1,r.burn):=by simp [Rd.write,hc,hdie];omega
  repeat' (first|refine Zs rfl ?_|refine Zc rfl ?_|refine Zh ?_|refine Qs ?_)
  refine a0c ⟨_,rfl,?_,?_⟩
  ·rw [e]<;>rfl
  ·rw [e]<;>rfl
 | false =>
  have e:r.write k b=(0,r.burn.put k b):=by simp [Rd.write,hc,hdie];omega
  rw [e]
  have hd1:r.burn.dirt.length*64=r.burn.new.length:=by unfold Rd.burn;rw [hdie];exact hd
  have hl1:r.burn.new.length<=1073741824:=by unfold Rd.burn;rw [hdie];exact hl
  have hk1:k<r.burn.dirt.length:=by unfold Rd.burn;rw [hdie];exact hk
  generalize r.burn=r1 at *
  repeat' (first|refine Zs rfl ?_|refine Zc rfl ?_)
  refine a0s (fun j:Nat=>⟨[(0,.ptr 0 0),(1,.int .i64 (k:Int)),(2,.sl 1 (b.map u8A)),(7,.int .i64 j)],rdH { r1 with new:=a5y r1.new b k j }⟩) (fun j=>j<=64) (fun j=>64 - j) 0 (Nat.zero_le _) ?_ ?_
  ·have h0:a5y r1.new b k 0=r1.new:=by simp [a5y]
   rw [h0]
   exact kk 4 (a1I r1) rfl (by simp [a0d,a0e])
  rintro j hj
  rw [a4p (a2N hb2 (by omega) hj)]
  repeat' (first|refine Zs rfl ?_|refine Zc rfl ?_|refine Zh ?_|refine Qs ?_)
  refine a0g rfl (fun h3=>?_) (fun h3=>?_)
  ·have hj3:j<64:=by omega
   repeat' (first|refine Zs rfl ?_|refine Zc rfl ?_|refine Zh ?_|refine Qs ?_)
   refine a2T (s1:=⟨[(0,.ptr 0 0),(1,.int .i64 (k:Int)),(2,.sl 1 (b.map u8A)),(7,.int .i64 j),(8,u8A ((b[j]?).getD 0))],rdH { r1 with new:=a5y r1.new b k j }⟩) ?_ ?_
   ·refine a0g rfl (fun h4=>?_) (fun h4=>?_)
    ·have h5:j<b.length:=by simpa using Int.ofNat_lt.1 h4
     obtain ⟨q,hq⟩:∃q,b[j]?=some q:=⟨_,List.getElem?_eq_getElem h5⟩
     repeat' (first|refine Zs rfl ?_|refine Zc rfl ?_|refine Qa rfl ?_)
     refine a0C hq rfl rfl rfl rfl rfl rfl rfl (by first|rfl|omega) rfl ?_
     refine nx rfl rfl ?_
     repeat' (first|refine Zs rfl ?_|refine Zh ?_)
     rw [hq,a4p (a2N hb2 (by omega) hj)]
     refine ⟨rfl,a0j 4 (Nat.le_refl _) ?_ rfl (by simp) ?_⟩
     ·rw [<- a4p (a2N hb2 (by omega) hj)];exact a1I _
     repeat' (first|exact a0l|refine a0a ⟨?_,?_⟩ ?_)
     all_goals (try first|exact rfl|exact trivial|(simp [a0d,a0e];done))
    have h5:b[j]?=none:=List.getElem?_eq_none (by simp at h4;omega)
    repeat' (refine Zc rfl ?_)
    rw [h5,a4p (a2N hb2 (by omega) hj)]
    refine ⟨rfl,a0j 4 (Nat.le_refl _) ?_ rfl (by simp) ?_⟩
    ·rw [<- a4p (a2N hb2 (by omega) hj)];exact a1I _
    repeat' (first|exact a0l|refine a0a ⟨?_,?_⟩ ?_)
    all_goals (try first|exact rfl|exact trivial|(simp [a0d,a0e];done))
   rw [a4p (a2N hb2 (by omega) hj)]
   repeat' (first|refine Zs rfl ?_|refine Zc rfl ?_|refine Qa rfl ?_)
   refine a3m (j:=k*64+j) rfl rfl rfl rfl rfl rfl rfl rfl (c7v (by omega) (by simp) (by omega)) (by omega) ?_
   refine nx rfl rfl ?_
   repeat' (refine Qb rfl ?_)
   have hlen:=a2N hb2 (show k*64+64<=r1.new.length by omega) hj
   obtain ⟨y,hy⟩:∃y,(a5y r1.new b k j)[k*64+j]?=some y:=⟨_,List.getElem?_eq_getElem (by omega)⟩
   refine a3h rfl rfl rfl rfl (y:=u8A y) (by rw [Nat.zero_add];simp [hy]) rfl rfl rfl rfl rfl ?_
   refine nx rfl rfl ?_
   repeat' (first|refine Zs rfl ?_|refine Zc rfl ?_|refine Zh ?_|refine Qh ?_|refine Qs ?_)
   refine ⟨j+1,by omega,by omega,a0j 4 (Nat.le_refl _) (a1I _) ?_ (by simp) ?_⟩
   ·rw [a4p (a2N hb2 (by omega) (by omega)),<- b9d hb2 (by omega) hj3 (c2o hj3),List.map_set]
    simp only [Nat.zero_add]
    rfl
   repeat' (first|exact a0l|refine a0a ⟨?_,?_⟩ ?_)
   all_goals (try first|exact rfl|exact trivial|(simp [a0d,a0e];done)|(refine congrArg (AV.int .i64) (a0x ?_ ?_ ?_)<;>(first|omega|(simp;omega))))
  have hj3:j=64:=by omega
  subst hj3
  repeat' (first|refine Zs rfl ?_|refine Zc rfl ?_|refine Qa rfl ?_)
  refine a3m (j:=k) rfl rfl rfl rfl rfl rfl rfl rfl rfl hk1 ?_
  refine nx rfl rfl ?_
  repeat' (refine Qb rfl ?_)
  obtain ⟨y,hy⟩:∃y,r1.dirt[k]?=some y:=⟨_,List.getElem?_eq_getElem hk1⟩
  refine a3h rfl rfl rfl rfl (y:=boA y) (by rw [Nat.zero_add];simp [hy]) rfl rfl rfl rfl rfl ?_
  refine nx rfl rfl ?_
  repeat' (first|refine Zs rfl ?_|refine Zc rfl ?_|refine Zh ?_|refine Qh ?_|refine Qs ?_)
  refine a0c ⟨_,rfl,?_,?_⟩
  ·rfl
  show _=rdH (r1.put k b)
  have e1:rdH (r1.put k b)=rdH { r1 with new:=a5y r1.new b k 64,dirt:=r1.dirt.set k true,wrote:=IntKind.i64.wrap (r1.wrote+1) }:=rfl
  rw [e1]
  simp only [rdH,List.map_set,Nat.zero_add,List.length_set,a2N hb2 (show k*64+64<=r1.new.length by omega) (Nat.le_refl 64)]
  rfl
end Go.Abs
namespace Go.Abs
attribute [local irreducible] a0z a1p AWp Nx awM
def Rd.barrier(r:Rd):Int × Rd :=
 if r.gone=true then (1,r) else if r.dies=true then (1,r.burn) else (0,{ r.burn with old:=r.burn.new,dirt:=List.replicate r.burn.dirt.length false })
theorem c1s{d:List Bool}{k:Nat}(hk:k<d.length):(List.replicate k false++d.drop k).set k false=List.replicate (k+1) false++d.drop (k+1):=by
 rw [List.set_append_right _ _ (by simp),List.length_replicate,Nat.sub_self,List.drop_eq_getElem_cons hk,List.set_cons_zero,List.replicate_succ']
 simp
theorem c3h{es src:List AV}(h:es.length=src.length):spl es 0 (src.take (min es.length src.length))=src:=by
 rw [h,Nat.min_self,List.take_length]
 simp [spl,<- h]
theorem a8B(X:Nat->Prop)(r:Rd)(hl:r.dirt.length<=1073741824)(ho:r.old.length=r.new.length):a0b (E0 X) 90 [.ptr 0 0] (rdH r) (fun v H'=>v=.int .i64 r.barrier.1/\H'=rdH r.barrier.2):=by
 refine Z0 Proofs.Tryz.func90 rfl Proofs.Tryz.ntmps90 (by kernel_rfl) rfl ?_
 repeat' (first|refine Zs rfl ?_|refine Zc rfl ?_|refine Zh ?_|refine Qs ?_)
 refine a0I rfl (fun hg=>?_) (fun hg=>?_)
 ·have e:r.barrier=(1,r):=by simp [Rd.barrier,hg]
  rw [e]
  repeat' (first|refine Zs rfl ?_|refine Zc rfl ?_|refine Zh ?_|refine Qs ?_)
  refine a0c ⟨_,rfl,?_,?_⟩
  ·rfl
  ·rfl
 repeat' (first|refine Zs rfl ?_|refine Zc rfl ?_|refine Qa rfl ?_)
 refine Cn rfl (b7h X r) rfl rfl ?_
 repeat' (first|refine Zs rfl ?_|refine Zh ?_|refine Qs ?_)
 cases hdie:r.dies with
 | true =>
  have e:r.barrier=(1,r.burn):=by simp [Rd.barrier,hg,hdie]
  rw [e]
  repeat' (first|refine Zs rfl ?_|refine Zc rfl ?_|refine Zh ?_|refine Qs ?_)
  refine a0c ⟨_,rfl,?_,?_⟩
  ·rfl
  ·rfl
 | false =>
  have e:r.barrier=(0,{ r.burn with old:=r.burn.new,dirt:=List.replicate r.burn.dirt.length false }):=by simp [Rd.barrier,hg,hdie]
  rw [e]
  have ho1:r.burn.old.length=r.burn.new.length:=by unfold Rd.burn;rw [hdie];exact ho
  have hl1:r.burn.dirt.length<=1073741824:=by unfold Rd.burn;rw [hdie];exact hl
  generalize r.burn=r1 at *
  repeat' (first|refine Zd rfl ?_|refine Zc rfl ?_|refine Qx rfl (by kernel_rfl) ?_)
  refine a1E rfl rfl rfl ?_
  refine b8c rfl rfl rfl rfl rfl rfl rfl rfl (by simp) (b3R rfl rfl rfl (by simp)) ?_ ?_
  ·simp only [List.drop_zero,List.take_length];exact a0P _
  simp only [List.drop_zero,List.take_length]
  have e3:spl (r1.old.map u8A) 0 ((r1.new.map u8A).take (min r1.old.length (r1.new.map u8A).length))=r1.new.map u8A:=by
   have:=c3h (es:=r1.old.map u8A) (src:=r1.new.map u8A) (by simpa using ho1)
   simpa using this
  rw [e3]
  refine nx rfl rfl ?_
  repeat' (first|refine Zs rfl ?_|refine Zc rfl ?_|refine Qk ?_)
  refine a0s (fun j:Nat=>⟨[(0,.ptr 0 0),(24,.int .i64 r1.dirt.length),(25,.int .i64 j)],rdH { r1 with old:=r1.new,dirt:=List.replicate j false++r1.dirt.drop j }⟩) (fun j=>j<=r1.dirt.length) (fun j=>r1.dirt.length - j) 0 (Nat.zero_le _) ?_ ?_
  ·refine a0j 4 (Nat.le_refl _) (a1I _) ?_ (by simp) ?_
   ·simp only [rdH,ho1];rfl
   repeat' (first|exact a0l|refine a0a ⟨?_,?_⟩ ?_)
   all_goals (try first|exact rfl|exact trivial|(simp [a0d,a0e];done))
  rintro j hj
  have hlen:(List.replicate j false++r1.dirt.drop j).length=r1.dirt.length:=by simp;omega
  repeat' (first|refine Zs rfl ?_|refine Zc rfl ?_)
  refine a0g rfl (fun h3=>?_) (fun h3=>?_)
  ·have hj3:j<r1.dirt.length:=by omega
   repeat' (first|refine Zs rfl ?_|refine Zc rfl ?_|refine Qa rfl ?_)
   refine a3m (j:=j) rfl rfl rfl rfl rfl rfl rfl rfl rfl (by show j < _;rw [hlen];exact hj3) ?_
   refine nx rfl rfl ?_
   repeat' (refine Qb rfl ?_)
   obtain ⟨y,hy⟩:∃y,(List.replicate j false++r1.dirt.drop j)[j]?=some y:=⟨_,List.getElem?_eq_getElem (by omega)⟩
   refine a3h rfl rfl rfl rfl (y:=boA y) (by rw [Nat.zero_add];simp only [List.getElem?_map,hy];rfl) rfl rfl rfl rfl rfl ?_
   refine nx rfl rfl ?_
   repeat' (first|refine Zs rfl ?_|refine Zc rfl ?_|refine Zh ?_|refine Qh ?_|refine Qs ?_)
   refine ⟨j+1,by omega,by omega,a0j 4 (Nat.le_refl _) (a1I _) ?_ (by simp) ?_⟩
   ·have e4:List.map boA (List.replicate (j+1) false++List.drop (j+1) r1.dirt)=(List.map boA (List.replicate j false++List.drop j r1.dirt)).set j (boA false):=by
     rw [<- c1s hj3,List.map_set]
    have e5:(List.replicate (j+1) false++List.drop (j+1) r1.dirt).length=(List.replicate j false++r1.dirt.drop j).length:=by simp;omega
    simp only [rdH,e4,e5,Nat.zero_add]
    rfl
   repeat' (first|exact a0l|refine a0a ⟨?_,?_⟩ ?_)
   all_goals (try first|exact rfl|exact trivial|(simp [a0d,a0e];done)|(refine congrArg (AV.int .i64) (a0x ?_ ?_ ?_)<;>(first|omega|(simp;omega))))
  have hj3:j=r1.dirt.length:=by omega
  subst hj3
  repeat' (first|refine Zs rfl ?_|refine Zc rfl ?_|refine Zh ?_|refine Qs ?_)
  refine a0c ⟨_,rfl,?_,?_⟩
  ·rfl
  ·simp only [List.drop_length,List.append_nil]<;>rfl
end Go.Abs
namespace Go.Abs
def Rd.fresh(img:List UInt8):Rd:={ old:=img,new:=img,dirt:=List.replicate (img.length / 64) false,has:=false,left:=0,gone:=false,wrote:=0 }
theorem a7U(img:List UInt8):rdH (Rd.fresh img)=[some (.cells [.own 1 0 img.length,.own 2 0 img.length,.own 3 0 (img.length / 64),.bool false,.int .i64 0,.bool false,.int .i64 0] 105),
  some (.arr (img.map u8A) 5),some (.arr (img.map u8A) 5),some (.arr (List.replicate (img.length / 64) (boA false)) 4)]:=by
 simp [rdH,Rd.fresh]
theorem c5E(n:Nat):IntKind.i64.wrap ((n:Int).tdiv 64)=((n / 64:Nat):Int)\/1073741824<n:=by
 rcases Nat.lt_or_ge 1073741824 n with h|h
 ·exact .inr h
 left
 rw [Int.tdiv_eq_ediv_of_nonneg (by omega)]
 exact a0x (by omega) (by omega) (by omega)
attribute [local irreducible] a0z a1p AWp Nx awM
theorem c5Z(X:Nat->Prop)(img:List UInt8)(hl:img.length<=1073741824):a0b (E0 X) 83 [.sl 1 (img.map u8A)] [] (fun v H'=>v=.ptr 0 0/\H'=rdH (Rd.fresh img)):=by
 refine Z0 Proofs.Tryz.func83 rfl Proofs.Tryz.ntmps83 (by kernel_rfl) rfl ?_
 have hd:IntKind.i64.wrap (((img.map u8A).length:Int).tdiv 64)=((img.length / 64:Nat):Int):=by
  rw [List.length_map];exact (c5E img.length).resolve_right (by omega)
 repeat' (first|refine Zs rfl ?_|refine Zc rfl ?_)
 refine a0n [1,3,7,9] [0,2,4,5,6] (by exact rfl) ?_
 refine a0y (fuel:=6) [0,2,4,5,6] (by exact rfl) (by kernel_rfl) (by kernel_rfl) ?_
 repeat' (first|refine Zd rfl ?_|refine Zk ?_)
 refine a1R [1,7] (by kernel_rfl) (br2 ?_ ?_)
 ·refine a1q rfl rfl rfl ?_
  refine a2E (oid:=none) (es:=[]) (new:=img.map u8A) rfl rfl rfl rfl rfl rfl rfl rfl (rfl) (rfl) (a0P _) ?_ ?_ ?_
  ·simp [maxLen];omega
  ·show _*1<=_
   simp;omega
  refine nx rfl rfl ?_
  try simp only [List.length_nil,Nat.zero_add,List.length_map,List.nil_append,a2V]
  refine a1R [3,7] (by kernel_rfl) (br2 ?_ ?_)
  ·refine a1q rfl rfl rfl ?_
   refine a2E (oid:=none) (es:=[]) (new:=img.map u8A) rfl rfl rfl rfl rfl rfl rfl rfl (rfl) (rfl) (a0P _) ?_ ?_ ?_
   ·simp [maxLen];omega
   ·show _*1<=_
    simp;omega
   refine nx rfl rfl ?_
   try simp only [List.length_nil,Nat.zero_add,List.length_map,List.nil_append,a2V]
   refine a1R [7] (by kernel_rfl) (br1 ?_)
   refine a1q rfl rfl rfl ?_
   refine b3T (n:=img.length / 64) (el:=boA false) rfl (by simpa using hd) (by simpa using hd) ?_ ?_ rfl rfl rfl rfl rfl rfl (.inr rfl) (.inr rfl) rfl rfl ?_
   ·show 1 * _<=281474976710656
    omega
   ·show _<=9223372036854775807
    omega
   refine nx rfl rfl ?_
   refine a0y (fuel:=0) [8,9,10] (by exact rfl) (by kernel_rfl) (by kernel_rfl) ?_
   repeat' (first|refine Zd rfl ?_|refine Zk ?_|refine Qs ?_|refine Qw (by kernel_rfl) ?_)
   refine a0t (a0S 0 [3,0,1,2] (sl':=[(2,.ptr 0 0)]) (H':=rdH (Rd.fresh img))
    (os:=[.cells [.own 1 0 img.length,.own 2 0 img.length,.own 3 0 (img.length / 64),.bool false,.int .i64 0,.bool false,.int .i64 0] 105,.arr (img.map u8A) 5,.arr (img.map u8A) 5,.arr (List.replicate (img.length / 64) (boA false)) 4])
    (Nat.le_refl _) (Nat.zero_le _) (by simp) (by simp) (by simp [HOk]) rfl (by rw [a7U];rfl) ?_ ?_) ?_
   ·repeat' (first|exact a0l|refine a0a ?_ ?_|exact a1h rfl)
   ·repeat' (first|exact a0T|exact a4x.nil|refine a0E rfl (a1y ?_) ?_|refine a0E rfl (a0A 0 (fun i h=>absurd h (Nat.not_lt_zero i)) (by simp [a2b,a0e,a0d])) ?_|refine a4x.cons ?_ ?_|exact a0L rfl|exact a0v rfl (by first|trivial|(simp [a0d,a0e];done)))
   refine a0c ⟨_,rfl,?_,?_⟩
   ·rfl
   ·rfl
  refine a1q rfl rfl rfl ?_
  refine b3T (n:=img.length / 64) (el:=boA false) rfl (by simpa using hd) (by simpa using hd) ?_ ?_ rfl rfl rfl rfl rfl rfl (.inr rfl) (.inr rfl) rfl rfl ?_
  ·show 1 * _<=281474976710656
   omega
  ·show _<=9223372036854775807
   omega
  refine nx rfl rfl ?_
  refine a1R [3] (by kernel_rfl) (br1 ?_)
  refine a1q rfl rfl rfl ?_
  refine a2E (oid:=none) (es:=[]) (new:=img.map u8A) rfl rfl rfl rfl rfl rfl rfl rfl (rfl) (rfl) (a0P _) ?_ ?_ ?_
  ·simp [maxLen];omega
  ·show _*1<=_
   simp;omega
  refine nx rfl rfl ?_
  try simp only [List.length_nil,Nat.zero_add,List.length_map,List.nil_append,a2V]
  refine a0y (fuel:=0) [8,9,10] (by exact rfl) (by kernel_rfl) (by kernel_rfl) ?_
  repeat' (first|refine Zd rfl ?_|refine Zk ?_|refine Qs ?_|refine Qw (by kernel_rfl) ?_)
  refine a0t (a0S 0 [3,0,2,1] (sl':=[(2,.ptr 0 0)]) (H':=rdH (Rd.fresh img))
   (os:=[.cells [.own 1 0 img.length,.own 2 0 img.length,.own 3 0 (img.length / 64),.bool false,.int .i64 0,.bool false,.int .i64 0] 105,.arr (img.map u8A) 5,.arr (img.map u8A) 5,.arr (List.replicate (img.length / 64) (boA false)) 4])
   (Nat.le_refl _) (Nat.zero_le _) (by simp) (by simp) (by simp [HOk]) rfl (by rw [a7U];rfl) ?_ ?_) ?_
  ·repeat' (first|exact a0l|refine a0a ?_ ?_|exact a1h rfl)
  ·repeat' (first|exact a0T|exact a4x.nil|refine a0E rfl (a1y ?_) ?_|refine a0E rfl (a0A 0 (fun i h=>absurd h (Nat.not_lt_zero i)) (by simp [a2b,a0e,a0d])) ?_|refine a4x.cons ?_ ?_|exact a0L rfl|exact a0v rfl (by first|trivial|(simp [a0d,a0e];done)))
  refine a0c ⟨_,rfl,?_,?_⟩
  ·rfl
  ·rfl
 refine a1q rfl rfl rfl ?_
 refine b3T (n:=img.length / 64) (el:=boA false) rfl (by simpa using hd) (by simpa using hd) ?_ ?_ rfl rfl rfl rfl rfl rfl (.inr rfl) (.inr rfl) rfl rfl ?_
 ·show 1 * _<=281474976710656
  omega
 ·show _<=9223372036854775807
  omega
 refine nx rfl rfl ?_
 refine a1R [1] (by kernel_rfl) (br1 ?_)
 refine a1q rfl rfl rfl ?_
 refine a2E (oid:=none) (es:=[]) (new:=img.map u8A) rfl rfl rfl rfl rfl rfl rfl rfl (rfl) (rfl) (a0P _) ?_ ?_ ?_
 ·simp [maxLen];omega
 ·show _*1<=_
  simp;omega
 refine nx rfl rfl ?_
 try simp only [List.length_nil,Nat.zero_add,List.length_map,List.nil_append,a2V]
 refine a1R [3] (by kernel_rfl) (br1 ?_)
 refine a1q rfl rfl rfl ?_
 refine a2E (oid:=none) (es:=[]) (new:=img.map u8A) rfl rfl rfl rfl rfl rfl rfl rfl (rfl) (rfl) (a0P _) ?_ ?_ ?_
 ·simp [maxLen];omega
 ·show _*1<=_
  simp;omega
 refine nx rfl rfl ?_
 try simp only [List.length_nil,Nat.zero_add,List.length_map,List.nil_append,a2V]
 refine a0y (fuel:=0) [8,9,10] (by exact rfl) (by kernel_rfl) (by kernel_rfl) ?_
 repeat' (first|refine Zd rfl ?_|refine Zk ?_|refine Qs ?_|refine Qw (by kernel_rfl) ?_)
 refine a0t (a0S 0 [3,1,2,0] (sl':=[(2,.ptr 0 0)]) (H':=rdH (Rd.fresh img))
  (os:=[.cells [.own 1 0 img.length,.own 2 0 img.length,.own 3 0 (img.length / 64),.bool false,.int .i64 0,.bool false,.int .i64 0] 105,.arr (img.map u8A) 5,.arr (img.map u8A) 5,.arr (List.replicate (img.length / 64) (boA false)) 4])
  (Nat.le_refl _) (Nat.zero_le _) (by simp) (by simp) (by simp [HOk]) rfl (by rw [a7U];rfl) ?_ ?_) ?_
 ·repeat' (first|exact a0l|refine a0a ?_ ?_|exact a1h rfl)
 ·repeat' (first|exact a0T|exact a4x.nil|refine a0E rfl (a1y ?_) ?_|refine a0E rfl (a0A 0 (fun i h=>absurd h (Nat.not_lt_zero i)) (by simp [a2b,a0e,a0d])) ?_|refine a4x.cons ?_ ?_|exact a0L rfl|exact a0v rfl (by first|trivial|(simp [a0d,a0e];done)))
 refine a0c ⟨_,rfl,?_,?_⟩
 ·rfl
 ·rfl
theorem c2f(r:Rd):a8m (rdH r)=true:=by
 simp only [a8m,rdH,List.all_cons,List.all_nil,a8n,a6p,b9v,Bool.and_true,Bool.true_and,Bool.and_eq_true]
 exact ⟨a2v (fun _=>rfl) _,a2v (fun _=>rfl) _,a2v (fun _=>rfl) _⟩
def rdS(s:Nat)(r:Rd):Hp :=
 [some (.cells [.own (1+s) 0 r.old.length,.own (2+s) 0 r.new.length,.own (3+s) 0 r.dirt.length,.bool r.has,.int .i64 r.left,.bool r.gone,.int .i64 r.wrote] 105),
  some (.arr (r.old.map u8A) 5),some (.arr (r.new.map u8A) 5),some (.arr (r.dirt.map boA) 4)]
theorem c2a(s:Nat)(r:Rd):a1T (·+s) (rdH r)=rdS s r:=by
 simp [a1T,rdH,rdS,rnO,rnL,rnA,a1O (f:=u8A) (fun _=>rfl),a1O (f:=boA) (fun _=>rfl)]
theorem c4V(X:Nat->Prop)(H:Hp)(x:AV)(img:List UInt8)(hl:img.length<=1073741824)(hx:a6O (E0 X) H 1 x=some (img.map u8A)) :
  a0b (E0 X) 83 [x] H (fun v H'=>v=.ptr H.length 0/\H'=H++rdS H.length (Rd.fresh img)):=by
 refine (a1W (E:=E0 X) (P:=fun v H'=>v=.ptr 0 0/\H'=rdH (Rd.fresh img)) (fun X=>c5Z X img hl) (fun r h' h=>by obtain ⟨h1,h2⟩:=h;subst h1;subst h2;exact ⟨rfl,c2f _⟩) (Bor.sl (a1H _) hx .nil)).mono ?_
 rintro r H' ⟨r0,h',⟨rfl,rfl⟩,rfl,rfl⟩
 exact ⟨by simp [rnA],by rw [c2a]⟩
theorem b9L(X:Nat->Prop)(n:Nat)(hn:n<=16777216):a0b (E0 X) 31 [.int .i64 n] [] (fun v H'=>v=.ptr 0 0/\H'=rdH (Rd.fresh (List.replicate (n*64) 0))):=by
 refine Z0 Proofs.Tryz.func31 rfl Proofs.Tryz.ntmps31 (by kernel_rfl) rfl ?_
 repeat' (first|refine Zs rfl ?_|refine Zc rfl ?_|refine Qa rfl ?_)
 refine c1d (n:=n*64) (el:=u8A 0) rfl rfl (w64 hn) (w64 hn) ?_ ?_ rfl rfl rfl rfl rfl rfl (.inr rfl) (.inr rfl) rfl rfl ?_
 ·show 1 * _<=281474976710656
  omega
 ·show _<=9223372036854775807
  omega
 refine nx rfl rfl ?_
 have e:List.replicate (n*64) (u8A 0)=(List.replicate (n*64) (0:UInt8)).map u8A:=by simp
 rw [e]
 repeat' (refine Qa rfl ?_)
 refine Cn rfl (c4V X [] _ (List.replicate (n*64) 0) (by simp;omega) rfl) rfl rfl ?_
 repeat' (first|refine Zs rfl ?_|refine Zh ?_|refine Qs ?_)
 refine a0c ⟨_,rfl,?_,?_⟩
 ·rfl
 ·rfl
end Go.Abs
namespace Go.Abs
theorem b3p(s q:Nat)(r:Rd):a1T (sh s q 4) (rdH r)=rdS s r:=by
 simp [a1T,rdH,rdS,rnO,rnL,rnA,sh,a1O (f:=u8A) (fun _=>rfl),a1O (f:=boA) (fun _=>rfl)]
theorem c3f(r:Rd):∀j:Nat,(rdH r)[j]?≠some none:=fun j=>by
 match j with
 | 0=>simp [rdH]
 | 1=>simp [rdH]
 | 2=>simp [rdH]
 | 3=>simp [rdH]
 | j+4=>simp [rdH]
section
variable{X:Nat->Prop}{f:FuncId}{rest:List AV}{r0:AV}
theorem c5W{v v':Rd}(hc:∀X,a0b (E0 X) f (.ptr 0 0::rest) (rdH v) (fun r H'=>r=r0/\H'=rdH v'))(hrest:a0e 0 rest)(hr:a0d 0 r0)(L R:Hp)(s:Nat)(hs:L.length=s) :
  a0b (E0 X) f (.ptr s 0::rest) (L++rdS s v++R) (fun r H'=>r=r0/\H'=L++rdS s v'++R):=by
 subst hs
 refine a0b.conv (a0b.frameLR (E:=E0 X) hc L R (c3f v) ⟨by simp [a0d,rdH],a0F (Nat.zero_le _) hrest⟩ (a1I v)) ?_ (by rw [show (rdH v).length=4 from rfl,b3p]) ?_
 ·show _::rnL _ rest=_
  rw [a1r _ hrest];simp [rnA,sh,rdH]
 rintro r H' ⟨r1,h',⟨rfl,rfl⟩,-,rfl,rfl⟩
 refine ⟨a2h _ hr,?_⟩
 show L++a1T (sh L.length R.length 4) (rdH v')++R++[]=_
 rw [b3p,List.append_nil]
end
def rpC(l:La)(slot seq:Int)(n t id:Nat):AO:=.cells [.int .i64 l.id,.int .i64 l.ver,.int .i64 l.rs,.int .i64 l.regs,.int .i64 slot,.int .i64 seq,.own id 0 n,.int .i64 (t:Int)] 172
def rpH(l:La)(slot seq:Int)(s:List UInt8)(t:Nat):Hp:=[some (rpC l slot seq s.length t 1),some (arB s)]
def rpM(l:La)(slot seq:Int)(s:List UInt8)(t:Nat):Hp:=[some (rpC l slot seq s.length t 2),none,some (arB s)]
theorem a6J(l:La)(slot seq:Int)(s:List UInt8)(t:Nat):HOk 2 (rpH l slot seq s t):=fun j o ho=>by
 match j,ho with
 | 0,ho=>cases ho;exact ⟨trivial,trivial,trivial,trivial,trivial,trivial,by simp [a0d],trivial,trivial⟩
 | 1,ho=>cases ho;exact a0h fun _=>a0k
theorem c1K(l:La)(slot seq:Int)(s:List UInt8)(t:Nat):HOk 3 (rpM l slot seq s t):=fun j o ho=>by
 match j,ho with
 | 0,ho=>cases ho;exact ⟨trivial,trivial,trivial,trivial,trivial,trivial,by simp [a0d],trivial,trivial⟩
 | 1,ho=>cases ho
 | 2,ho=>cases ho;exact a0h fun _=>a0k
attribute [local irreducible] a0z a1p AWp Nx awM
theorem c0V(X:Nat->Prop)(l:La)(h:-1000000<=l.rs/\l.rs<=1000000):a0b (E0 X) 137 [laA l] [] (fun r H'=>r=.int .i64 ((l.rs - 1)*59)/\H'=[]):=by
 refine a0b.cut0 ?_ trivial
 have w1:IntKind.i64.wrap (l.rs - 1)=l.rs - 1:=a0r (by omega) (by omega)
 have w2:IntKind.i64.wrap ((l.rs - 1)*59)=(l.rs - 1)*59:=a0r (by omega) (by omega)
 show a0b (E0 X) _ [.agg [.int .i64 l.id,.int .i64 l.ver,.int .i64 l.rs,.int .i64 l.regs]] [] _
 refine Z0 Proofs.Tryz.func137 rfl Proofs.Tryz.ntmps137 (by kernel_rfl) rfl ?_
 repeat' (first|refine Zs rfl ?_|refine Zc rfl ?_|refine Zh ?_|refine Qs ?_)
 rw [w1,w2]
 exact a0c ⟨_,rfl,rfl⟩
theorem b9R(X:Nat->Prop)(l:La)(slot seq:Int)(s:List UInt8)(t:Nat)(r:Rec)(hc:a4i l.ver r≠0) :
  a0b (E0 X) 91 [.ptr 0 0,a5X r] (rpH l slot seq s t) (fun q H'=>q=.tup [.int .i64 0,.int .i64 0,.int .i64 (a4i l.ver r)]/\H'=rpH l slot seq s t):=by
 have hck:=fun X=>a7f X l.ver r
 generalize a4i l.ver r=e at *
 show a0b (E0 X) _ [.ptr 0 0,.agg [.int .i64 r.kind,.sl 1 (r.key.map u8A),.sl 1 (r.val.map u8A),.int .i64 r.exp]] [some (.cells [.int .i64 l.id,.int .i64 l.ver,.int .i64 l.rs,.int .i64 l.regs,.int .i64 slot,.int .i64 seq,.own 1 0 s.length,.int .i64 (t:Int)] 172),some (.arr (s.map u8A) 5)] _
 refine Z0 Proofs.Tryz.func91 rfl Proofs.Tryz.ntmps91 (by kernel_rfl) rfl ?_
 repeat' (first|refine Zs rfl ?_|refine Zc rfl ?_)
 refine a0p [] [] (by exact rfl) (by kernel_rfl) ?_
 repeat' (refine Zd rfl ?_)
 apply ds rfl rfl rfl rfl
 ·refine Ck (fun _=>rfl) rfl (a0f (E:=E0 X) hck (by simp [a0e,a0d]) _) ?_
  exact nx rfl rfl ⟨rfl,rfl⟩
 repeat' (first|refine Zs rfl ?_|refine Zd rfl ?_|refine Zc rfl ?_|refine Zh ?_|refine Qs ?_)
 rw [decide_eq_true hc]
 repeat' (first|refine Zs rfl ?_|refine Zc rfl ?_|refine Zh ?_|refine Qs ?_)
 refine a0t (a0j 2 (Nat.le_refl _) (a6J l slot seq s t) rfl (by simp) (sl':=[(4,.int .i64 0),(5,.int .i64 0),(6,.int .i64 e)]) ?_) ?_
 ·repeat' (first|exact a0l|refine a0a ⟨?_,?_⟩ ?_)
  all_goals (try first|exact rfl|exact trivial)
 exact a0c ⟨_,rfl,rfl,rfl⟩
theorem b7A(X:Nat->Prop)(l:La)(slot seq:Int)(s:List UInt8)(t:Nat)(r:Rec)(hc:a4i l.ver r=0)(hr:1<=l.rs/\l.rs<=2048)(hs:s.length<=1000000)(hl:(l.rs - 1)*59 - s.length<(a1M r:Int)) :
  a0b (E0 X) 91 [.ptr 0 0,a5X r] (rpH l slot seq s t) (fun q H'=>q=.tup [.int .i64 0,.int .i64 0,.int .i64 8]/\H'=rpH l slot seq s t):=by
 have hok:=b0B hc
 have hck:=fun X=>a7f X l.ver r
 rw [hc] at hck
 have hle:=fun X=>a7W X r (by have:=hok.keyle;omega) (by have:=hok.val;omega)
 have hca:=fun X=>c0V X l (by omega)
 have hlr:a1M r<=70000:=by have:=hok.keyle;have:=hok.val;unfold a1M;omega
 generalize a1M r=L at *
 have hw:IntKind.i64.wrap ((l.rs - 1)*59 - (s.length:Int))=(l.rs - 1)*59 - (s.length:Int):=a0r (by omega) (by omega)
 show a0b (E0 X) _ [.ptr 0 0,.agg [.int .i64 r.kind,.sl 1 (r.key.map u8A),.sl 1 (r.val.map u8A),.int .i64 r.exp]] [some (.cells [.int .i64 l.id,.int .i64 l.ver,.int .i64 l.rs,.int .i64 l.regs,.int .i64 slot,.int .i64 seq,.own 1 0 s.length,.int .i64 (t:Int)] 172),some (.arr (s.map u8A) 5)] _
 refine Z0 Proofs.Tryz.func91 rfl Proofs.Tryz.ntmps91 (by kernel_rfl) rfl ?_
 repeat' (first|refine Zs rfl ?_|refine Zc rfl ?_)
 refine a0p [] [] (by exact rfl) (by kernel_rfl) ?_
 repeat' (refine Zd rfl ?_)
 apply ds rfl rfl rfl rfl
 ·refine Ck (fun _=>rfl) rfl (a0f (E:=E0 X) hck (by simp [a0e,a0d]) _) ?_
  exact nx rfl rfl ⟨rfl,rfl⟩
 repeat' (first|refine Zs rfl ?_|refine Zd rfl ?_|refine Zc rfl ?_)
 refine a0p [] [] (by exact rfl) (by kernel_rfl) ?_
 repeat' (refine Zd rfl ?_)
 apply ds rfl rfl rfl rfl
 ·refine Ck (fun _=>rfl) rfl (a0f (E:=E0 X) hle (by simp [a0e,a0d]) _) ?_
  exact nx rfl rfl ⟨rfl,rfl⟩
 repeat' (first|refine Zs rfl ?_|refine Zd rfl ?_|refine Zc rfl ?_|refine Qa rfl ?_)
 refine Cn rfl (a0f (E:=E0 X) (fun X=>hca X) (by simp [a0e,a0d]) _) rfl rfl ?_
 repeat' (first|refine Zs rfl ?_|refine Zh ?_|refine Qs ?_)
 rw [hw,decide_eq_true hl]
 repeat' (first|refine Zs rfl ?_|refine Zc rfl ?_|refine Zh ?_|refine Qs ?_)
 refine a0t (a0j 2 (Nat.le_refl _) (a6J l slot seq s t) rfl (by simp) (sl':=[(4,.int .i64 0),(5,.int .i64 0),(6,.int .i64 8)]) ?_) ?_
 ·repeat' (first|exact a0l|refine a0a ⟨?_,?_⟩ ?_)
  all_goals (try first|exact rfl|exact trivial)
 exact a0c ⟨_,rfl,rfl,rfl⟩
theorem c2U(X:Nat->Prop)(l:La)(slot:Int)(seq:Nat)(s:List UInt8)(t:Nat)(r:Rec)(hc:a4i l.ver r=0)(hq:seq<9223372036854775808)(hr:1<=l.rs/\l.rs<=2048)(hl:(s.length:Int)+(a1M r:Int)<=(l.rs - 1)*59) :
  a0b (E0 X) 91 [.ptr 0 0,a5X r] (rpH l slot seq s t) (fun q H'=>q=.tup [.int .i64 (s.length:Int),.int .i64 (a1M r:Int),.int .i64 0]/\H'=rpM l slot seq (s++a4a l.ver seq s.length r) t):=by
 have hok:=b0B hc
 have hck:=fun X=>a7f X l.ver r
 have hen:=fun X=>b7F X l.ver seq s.length r hc hq (by omega)
 have hel:=a4E l.ver seq s.length r
 generalize a4a l.ver seq s.length r=eb at *
 rw [hc] at hck
 have hle:=fun X=>a7W X r (by have:=hok.keyle;omega) (by have:=hok.val;omega)
 have hca:=fun X=>c0V X l (by omega)
 have hlr:a1M r<=70000:=by have:=hok.keyle;have:=hok.val;unfold a1M;omega
 generalize a1M r=L at *
 subst hel
 have hem:(eb.map u8A).length=eb.length:=List.length_map _
 have hw:IntKind.i64.wrap ((l.rs - 1)*59 - (s.length:Int))=(l.rs - 1)*59 - (s.length:Int):=a0r (by omega) (by omega)
 have hl2:¬ (l.rs - 1)*59 - (s.length:Int)<(eb.length:Int):=by omega
 show a0b (E0 X) _ [.ptr 0 0,.agg [.int .i64 r.kind,.sl 1 (r.key.map u8A),.sl 1 (r.val.map u8A),.int .i64 r.exp]] [some (.cells [.int .i64 l.id,.int .i64 l.ver,.int .i64 l.rs,.int .i64 l.regs,.int .i64 slot,.int .i64 (seq:Int),.own 1 0 s.length,.int .i64 (t:Int)] 172),some (.arr (s.map u8A) 5)] _
 refine Z0 Proofs.Tryz.func91 rfl Proofs.Tryz.ntmps91 (by kernel_rfl) rfl ?_
 repeat' (first|refine Zs rfl ?_|refine Zc rfl ?_)
 refine a0t (Imp.trans (a0w (id:=2) (cs:=[.int .i64 r.kind,.sl 1 (r.key.map u8A),.sl 1 (r.val.map u8A),.int .i64 r.exp]) rfl) (a0j 2 (Nat.le_refl _) (a6J l slot seq s t) rfl (by simp) (sl':=[(0,.ptr 0 0),(3,.fp [.int .i64 r.kind,.sl 1 (r.key.map u8A),.sl 1 (r.val.map u8A),.int .i64 r.exp])]) ?_)) ?_
 ·repeat' (first|exact a0l|refine a0a ⟨?_,?_⟩ ?_)
  all_goals (try first|exact rfl|(simp [a0d,a0e];done))
 show AWp _ _ _ _ _ ⟨_,[some (.cells [.int .i64 l.id,.int .i64 l.ver,.int .i64 l.rs,.int .i64 l.regs,.int .i64 slot,.int .i64 (seq:Int),.own 1 0 s.length,.int .i64 (t:Int)] 172),some (.arr (s.map u8A) 5)]⟩
 refine a0p [] [] (by exact rfl) (by kernel_rfl) ?_
 repeat' (refine Zd rfl ?_)
 apply ds rfl rfl rfl rfl
 ·refine Ck (fun _=>rfl) rfl (a0f (E:=E0 X) hck (by simp [a0e,a0d]) _) ?_
  exact nx rfl rfl ⟨rfl,rfl⟩
 repeat' (first|refine Zs rfl ?_|refine Zd rfl ?_|refine Zc rfl ?_)
 refine a0p [] [] (by exact rfl) (by kernel_rfl) ?_
 repeat' (refine Zd rfl ?_)
 apply ds rfl rfl rfl rfl
 ·refine Ck (fun _=>rfl) rfl (a0f (E:=E0 X) hle (by simp [a0e,a0d]) _) ?_
  exact nx rfl rfl ⟨rfl,rfl⟩
 repeat' (first|refine Zs rfl ?_|refine Zd rfl ?_|refine Zc rfl ?_|refine Qa rfl ?_)
 refine Cn rfl (a0f (E:=E0 X) (fun X=>hca X) (by simp [a0e,a0d]) _) rfl rfl ?_
 repeat' (first|refine Zs rfl ?_|refine Zh ?_|refine Qs ?_)
 rw [hw,decide_eq_false hl2]
 repeat' (refine Zc rfl ?_)
 refine a0n [17,20] [0,1,2,3,5,6,7,8,10,11,12,14,18,19] (by exact rfl) ?_
 refine a0y (fuel:=0) [0,1,2,3,4,5,6,7,8,9,10,11,12,13,14,15,16,17,18,19,20] (by exact rfl) (by kernel_rfl) (by kernel_rfl) ?_
 repeat' (refine Zd rfl ?_)
 apply ds rfl rfl rfl rfl
 ·refine Ck (fun _=>rfl) rfl (a0f (E:=E0 X) hen (by simp [a0e,a0d]) _) ?_
  exact nx rfl rfl ⟨rfl,rfl⟩
 refine a1E rfl rfl rfl ?_
 refine a0V (oid:=some 1) (es:=s.map u8A) (out:=(s++eb).map u8A) (n:=s.length+eb.length) (a0M rfl (List.length_map _).symm) (rfl) (a0P _) (by rw [List.map_append]) (by rw [List.length_map,List.length_map]) (by show _<=9223372036854775807;omega) (by show _*1<=_;omega) rfl rfl rfl rfl rfl rfl rfl rfl ?_
 refine nx rfl rfl ?_
 repeat' (first|refine Zs rfl ?_|refine Zd rfl ?_|refine Zc rfl ?_|refine Zh ?_|refine Zk ?_|refine Qs ?_|refine Qw (by kernel_rfl) ?_)
 have hsl:s.length+eb.length=(s++eb).length:=(List.length_append).symm
 rw [hsl]
 refine a0t (a0j 3 (by simp [rpH]) (c1K l slot seq (s++eb) t) rfl (by simp) (sl':=[(4,.int .i64 (s.length:Int)),(5,.int .i64 (eb.length:Int)),(6,.int .i64 0)]) ?_) ?_
 ·repeat' (first|exact a0l|refine a0a ⟨?_,?_⟩ ?_)
  all_goals (try first|exact rfl|exact trivial)
 exact a0c ⟨_,rfl,rfl,rfl⟩
theorem c4W(X:Nat->Prop)(l:La)(slot seq:Int)(s:List UInt8)(t:Nat)(hs:s.length<=1000000) :
  a0b (E0 X) 93 [.ptr 0 0] (rpH l slot seq s t) (fun q H'=>q=.tup []/\H'=rpM l slot seq (padS s) t):=by
 rw [<- b9y]
 show a0b (E0 X) _ [.ptr 0 0] [some (.cells [.int .i64 l.id,.int .i64 l.ver,.int .i64 l.rs,.int .i64 l.regs,.int .i64 slot,.int .i64 seq,.own 1 0 s.length,.int .i64 (t:Int)] 172),some (.arr (s.map u8A) 5)] _
 refine Z0 Proofs.Tryz.func93 rfl Proofs.Tryz.ntmps93 (by kernel_rfl) rfl ?_
 repeat' (refine Zc rfl ?_)
 refine a0s (fun i:Nat=>⟨[(0,.ptr 0 0)],rpM l slot seq (a6r s i) t⟩) (fun i=>i<=(59 - s.length%59)%59) (fun i=>(59 - s.length%59)%59 - i) 0 (Nat.zero_le _) ?_ ?_
 ·refine b0w [some (rpC l slot seq (a6r s 0).length t 2),none] [1] [arB (a6r s 0)] (Nat.le_refl _) (Nat.le_refl _) (by simp) (by simp) rfl rfl ⟨⟨_,rfl,?_⟩,trivial⟩ ?_ ?_
  ·rw [show a6r s 0=s by simp [a6r]]
   refine a1y ?_
   repeat' (first|exact a4x.nil|refine a4x.cons ?_ ?_|exact a0L rfl|exact a1x rfl (by first|trivial|(simp [a0d,a0e];done)))
  ·repeat' (first|exact a0l|refine a0a ?_ ?_|exact a1h rfl)
  ·rw [show a6r s 0=s by simp [a6r]]
   exact a0E rfl (b3J s) a0T
 rintro i hi
 have hil:=b3x s i
 have hsu:=b6Q s i
 have hi':i<=(59 - s.length%59)%59:=hi
 have hil2:=b3x s (i+1)
 have hpl:(a6r s i).length<=1000058:=by omega
 show AWp _ _ _ _ _ ⟨[(0,.ptr 0 0)],[some (.cells [.int .i64 l.id,.int .i64 l.ver,.int .i64 l.rs,.int .i64 l.regs,.int .i64 slot,.int .i64 seq,.own 2 0 (a6r s i).length,.int .i64 (t:Int)] 172),none,some (.arr ((a6r s i).map u8A) 5)]⟩
 repeat' (first|refine Zs rfl ?_|refine Zc rfl ?_|refine Zh ?_|refine Qs ?_)
 rw [show Int.tmod ((a6r s i).length:Int) 59=(((a6r s i).length%59:Nat):Int) from rfl]
 by_cases hz:(a6r s i).length%59=0
 ·rw [hz]
  have hii:i=(59 - s.length%59)%59:=by omega
  rw [decide_eq_false (show ¬ ¬ ((0:Nat):Int)=0 from fun h=>h rfl)]
  repeat' (first|refine Zc rfl ?_|refine Qt ?_|refine Qv ?_)
  refine ⟨_,rfl,rfl,?_⟩
  rw [<- hii];rfl
 have hlt:i<(59 - s.length%59)%59:=by omega
 rw [decide_eq_true (show ¬ (((a6r s i).length%59:Nat):Int)=0 by omega)]
 repeat' (first|refine Zs rfl ?_|refine Zc rfl ?_|refine Qa rfl ?_)
 refine a0V (oid:=some 2) (es:=(a6r s i).map u8A) (out:=(a6r s (i+1)).map u8A) (n:=(a6r s i).length+1) (a0M rfl (List.length_map _).symm) (rfl) (a0P [0]) (by rw [hsu,List.map_append];rfl) (by rw [List.length_map];rfl) (by show _<=9223372036854775807;omega) (by show _*1<=_;omega) rfl rfl rfl rfl rfl rfl rfl rfl ?_
 refine nx rfl rfl ?_
 repeat' (first|refine Zs rfl ?_|refine Zh ?_|refine Qs ?_|refine Qu ?_)
 refine ⟨i+1,hlt,by omega,?_⟩
 rw [show (a6r s i).length+1=(a6r s (i+1)).length by omega]
 refine b0w [some (rpC l slot seq (a6r s (i+1)).length t 2),none] [3] [arB (a6r s (i+1))] (Nat.le_refl _) (by simp) (by simp) (by simp) rfl rfl ⟨⟨_,rfl,?_⟩,trivial⟩ ?_ ?_
 ·refine a1y ?_
  repeat' (first|exact a4x.nil|refine a4x.cons ?_ ?_|exact a0L rfl|exact a1x rfl (by first|trivial|(simp [a0d,a0e];done)))
 ·repeat' (first|exact a0l|refine a0a ?_ ?_|exact a1h rfl)
 ·exact a0E rfl (b3J _) a0T
theorem b6g(l:La)(slot seq:Int)(s:List UInt8)(t:Nat)(a:List Int)(b:List (List UInt8)):HOk 4 (rpH l slot seq s t++[some (.arr (a.map iA) 3),some (.arr (b.map a6A) 29)]):=fun j o ho=>by
 match j,ho with
 | 0,ho=>cases ho;exact ⟨trivial,trivial,trivial,trivial,trivial,trivial,by simp [a0d],trivial,trivial⟩
 | 1,ho=>cases ho;exact a0h fun _=>a0k
 | 2,ho=>cases ho;exact a6l _
 | 3,ho=>cases ho;exact a5e _
theorem c2Z(X:Nat->Prop)(l:La)(slot:Int)(F seq:Nat)(s:List UInt8)(t n:Nat)(hq:seq<9223372036854775808)(hF:F+s.length<=1000000)(hn:t+n=s.length / 59)(hsl0:IntKind.i64.wrap (74+IntKind.i64.wrap (slot*l.rs))=(F:Int)) :
  a0b (E0 X) 138 [.ptr 0 0] (rpH l slot seq s t) (fun q H'=>q=.tup [.sl 1 ((tkS F t n).map iA),.sl 1 ((tkF F seq s t n).map a6A)]/\H'=rpH l slot seq s (t+n)):=by
 show a0b (E0 X) _ [.ptr 0 0] [some (.cells [.int .i64 l.id,.int .i64 l.ver,.int .i64 l.rs,.int .i64 l.regs,.int .i64 slot,.int .i64 (seq:Int),.own 1 0 s.length,.int .i64 (t:Int)] 172),some (.arr (s.map u8A) 5)] _
 refine Z0 Proofs.Tryz.func138 rfl Proofs.Tryz.ntmps138 (by kernel_rfl) rfl ?_
 repeat' (first|refine Zs rfl ?_|refine Zc rfl ?_)
 refine a0s (fun i:Nat=>⟨[(0,.ptr 0 0),(4,.own 2 0 i),(5,.own 3 0 i)],rpH l slot seq s (t+i)++[some (.arr ((tkS F t i).map iA) 3),some (.arr ((tkF F seq s t i).map a6A) 29)]⟩) (fun i=>i<=n) (fun i=>n - i) 0 (Nat.zero_le _) ?_ ?_
 ·refine Imp.trans (imp_nil 4 3 rfl) (Imp.trans (imp_nil 5 29 rfl) (a0j 4 (by simp) (b6g l slot seq s t [] []) rfl (by simp) ?_))
  repeat' (first|exact a0l|refine a0a ⟨?_,?_⟩ ?_)
  all_goals (try first|exact rfl|(simp [a0d,a0e];done))
 rintro i hi
 have hi':i<=n:=hi
 have hsl:=b8j F t i
 have hfl:=b8i F seq s t i
 have hss:=c0m F t i
 have hfs:=c0l F seq s t i
 have w1:IntKind.i64.wrap (IntKind.i64.wrap (((t+i:Nat):Int)+1)*59)=(((t+i+1)*59:Nat):Int):=by
  rw [show IntKind.i64.wrap (((t+i:Nat):Int)+1)=((t+i+1:Nat):Int) from a0x (by omega) (by omega) (by omega)]
  exact a0x (by omega) (by omega) (by omega)
 have w2:IntKind.i64.wrap (IntKind.i64.wrap (IntKind.i64.wrap (74+IntKind.i64.wrap (slot*l.rs))+1)+((t+i:Nat):Int))=((F+1+(t+i):Nat):Int):=by
  rw [hsl0,show IntKind.i64.wrap ((F:Int)+1)=((F+1:Nat):Int) from a0x (by omega) (by omega) (by omega)]
  exact a0x (by omega) (by omega) (by omega)
 have w3:IntKind.i64.wrap (((t+i:Nat):Int)*59)=(((t+i)*59:Nat):Int):=a0x (by omega) (by omega) (by omega)
 have w4:IntKind.i64.wrap (((t+i:Nat):Int)+1)=((t+(i+1):Nat):Int):=a0x (by omega) (by omega) (by omega)
 show AWp _ _ _ _ _ ⟨[(0,.ptr 0 0),(4,.own 2 0 i),(5,.own 3 0 i)],[some (.cells [.int .i64 l.id,.int .i64 l.ver,.int .i64 l.rs,.int .i64 l.regs,.int .i64 slot,.int .i64 (seq:Int),.own 1 0 s.length,.int .i64 ((t+i:Nat):Int)] 172),some (.arr (s.map u8A) 5),some (.arr ((tkS F t i).map iA) 3),some (.arr ((tkF F seq s t i).map a6A) 29)]⟩
 have hfr:frN F seq s (t+i)=a3C 2 seq (F+1+(t+i)) ((s.drop ((t+i)*59)).take 59):=rfl
 have hSb:F+1+(t+i)<1048576:=by omega
 repeat' (refine Zc rfl ?_)
 refine a0p [] [] (by exact rfl) (by kernel_rfl) ?_
 repeat' (first|refine Zd rfl ?_|refine Zk ?_|refine Qs ?_)
 rw [w1]
 by_cases hlt:i<n
 ·have hi9:i+1<=1000000:=by omega
  have hmu:n - (i+1)<n - i:=by omega
  have hle:(t+i+1)*59<=s.length:=by omega
  rw [decide_eq_true (show (((t+i+1)*59:Nat):Int)<=(s.length:Int) by omega)]
  have hpl:((s.drop ((t+i)*59)).take 59).length=59:=by simp;omega
  generalize hp:(s.drop ((t+i)*59)).take 59=p at *
  have hel:(a3C 2 seq (F+1+(t+i)) p).length=64:=a2M (by omega)
  have hen:=fun X H x (hH:HOk H.length H) hx=>a0b.froz (E:=E0 X) 1 (a9B X H x 2 seq (F+1+(t+i)) p hq hSb (by omega) hx) (by rw [List.length_map,hel]) rfl rfl hH (a0h fun _=>a0k)
  rw [<- hfr] at hen hel
  generalize frN F seq s (t+i)=fr at *
  have hB1:=b6g l slot seq s (t+i) (tkS F t (i+1)) (tkF F seq s t i)
  generalize hA:tkS F t (i+1)=A2 at *
  generalize hB:tkF F seq s t (i+1)=B2 at *
  generalize hA0:tkS F t i=A1 at *
  generalize hB0:tkF F seq s t i=B1 at *
  generalize hS:F+1+(t+i)=S at *
  have hS2:F+1+t+i=S:=by omega
  rw [hS2] at hss
  repeat' (refine Zc rfl ?_)
  refine a0p [] [] (by exact rfl) (by kernel_rfl) ?_
  repeat' (first|refine Zs rfl ?_|refine Zd rfl ?_|refine Zc rfl ?_|refine Qa rfl ?_)
  rw [w2]
  refine a0V (oid:=some 2) (es:=(A1).map iA) (out:=(A2).map iA) (n:=i+1) (a0M rfl (by rw [List.length_map,hsl])) (rfl) (b6J [(S:Int)]) (by rw [hss,List.map_append];rfl) (by rw [List.length_map,hsl];rfl) (by show _<=9223372036854775807;omega) (by show _*8<=_;omega) rfl rfl rfl rfl rfl rfl rfl rfl ?_
  refine nx rfl rfl ?_
  repeat' (first|refine Zs rfl ?_|refine Zh ?_|refine Qs ?_)
  refine a0t (a0S 2 [4,3] (sl':=[(0,.ptr 0 0),(4,.own 2 0 (i+1)),(5,.own 3 0 i),(6,.int .i64 (S:Int))]) (H':=rpH l slot seq s (t+i)++[some (.arr (A2.map iA) 3),some (.arr (B1.map a6A) 29)]) (os:=[.arr (A2.map iA) 3,.arr (B1.map a6A) 29]) (Nat.le_refl _) ?_ ?_ ?_ ?_ rfl ?_ ?_ ?_) ?_
  ·simp
  ·simp
  ·simp
  ·exact a6J l slot seq s (t+i)
  ·rfl
  ·exact a0a (a0v rfl (by simp [a0d])) (a0a (a0L rfl) (a0a (a0L rfl) (a0a (a0v rfl trivial) a0l)))
  ·exact a0E rfl (a0A 2 a2m (a6l _)) (a0E rfl (a0A 2 a2m (a5e _)) a0T)
  show AWp _ _ _ _ _ ⟨[(0,.ptr 0 0),(4,.own 2 0 (i+1)),(5,.own 3 0 i),(6,.int .i64 (S:Int))],[some (.cells [.int .i64 l.id,.int .i64 l.ver,.int .i64 l.rs,.int .i64 l.regs,.int .i64 slot,.int .i64 (seq:Int),.own 1 0 s.length,.int .i64 ((t+i:Nat):Int)] 172),some (.arr (s.map u8A) 5),some (.arr (A2.map iA) 3),some (.arr (B1.map a6A) 29)]⟩
  refine a0n [22,23,24] [0,1,2,3,5,6,7,8,10,11,12,14,15,16,17,19,20,25] (by exact rfl) ?_
  refine a0y (fuel:=0) [0,1,2,3,4,5,6,7,8,9,10,11,12,13,14,15,16,17,18,19,20,21,22,23,24,25] (by exact rfl) (by kernel_rfl) (by kernel_rfl) ?_
  repeat' (refine Zd rfl ?_)
  apply ds rfl rfl rfl rfl
  ·refine a6R (l:=(t+i)*59) (h:=(t+i+1)*59) (lo':=(t+i)*59) (n':=59) (a0q rfl w3) (a0q rfl w1) (by omega) (by first|omega|(simp;omega)) (by omega) (by omega) rfl rfl rfl rfl rfl rfl rfl ?_
   exact nx rfl rfl ⟨rfl,rfl⟩
  refine a1E rfl rfl rfl ?_
  refine Cn rfl (hen X _ _ (by exact hB1) (a0B rfl rfl rfl (by omega) (by rw [hp]))) rfl rfl ?_
  repeat' (refine Zd rfl ?_)
  refine a1E rfl rfl rfl ?_
  refine a0V (oid:=some 3) (es:=(B1).map a6A) (out:=(B2).map a6A) (n:=i+1) (new:=[fr].map a6A) (a0M rfl (by rw [List.length_map,hfl])) rfl (b6K [fr]) (by rw [hfs,List.map_append]) (by rw [List.length_map,hfl];rfl) (Nat.le_trans hi9 (by decide)) (Nat.le_trans (Nat.mul_le_mul_right 24 hi9) (by decide)) rfl rfl rfl rfl rfl rfl rfl rfl ?_
  refine nx rfl rfl ?_
  repeat' (first|refine Zs rfl ?_|refine Zd rfl ?_|refine Zc rfl ?_|refine Zh ?_|refine Zk ?_|refine Qs ?_|refine Qw (by kernel_rfl) ?_)
  rw [w4]
  refine ⟨i+1,hlt,hmu,?_⟩
  show Imp _ _ _ _ ⟨[(0,.ptr 0 0),(4,.own 2 0 (i+1)),(5,.own 3 0 (i+1))],rpH l slot seq s (t+(i+1))++[some (.arr ((tkS F t (i+1)).map iA) 3),some (.arr ((tkF F seq s t (i+1)).map a6A) 29)]⟩
  rw [hA,hB]
  refine a0S 2 [2,4] (H':=rpH l slot seq s (t+(i+1))++[some (.arr ((A2).map iA) 3),some (.arr ((B2).map a6A) 29)]) (os:=[.arr ((A2).map iA) 3,.arr ((B2).map a6A) 29]) (Nat.le_refl _) ?_ ?_ ?_ ?_ rfl ?_ ?_ ?_
  ·simp
  ·simp
  ·simp
  ·exact a6J l slot seq s (t+(i+1))
  ·rfl
  ·exact a0a (a0v rfl (by simp [a0d])) (a0a (a0L rfl) (a0a (a0L rfl) a0l))
  ·exact a0E rfl (a0A 2 a2m (a6l _)) (a0E rfl (a0A 2 a2m (a5e _)) a0T)
 have hii:i=n:=by omega
 subst hii
 rw [decide_eq_false (show ¬ (((t+i+1)*59:Nat):Int)<=(s.length:Int) by omega)]
 repeat' (first|refine Zs rfl ?_|refine Zc rfl ?_|refine Zh ?_|refine Qs ?_)
 refine a0t (Imp.trans (a0N (id:=3) (k:=1) (es:=(tkF F seq s t i).map a6A) (e:=29) rfl rfl rfl) (Imp.trans (a0N (id:=2) (k:=1) (es:=(tkS F t i).map iA) (e:=3) rfl rfl rfl) (a0j 2 (Nat.le_refl _) (a6J l slot seq s (t+i)) rfl (by simp) (sl':=[(2,.sl 1 ((tkS F t i).map iA)),(3,.sl 1 ((tkF F seq s t i).map a6A))]) ?_))) ?_
 ·refine a0a ⟨?_,a6l _⟩ (a0a ⟨?_,a5e _⟩ a0l)
  ·show frz 2 1 ((tkS F t i).map iA) (frz 3 1 ((tkF F seq s t i).map a6A) (.own 2 0 i))=_
   simp [frz,hsl,List.take_of_length_le]
  ·show frz 2 1 ((tkS F t i).map iA) (frz 3 1 ((tkF F seq s t i).map a6A) (.own 3 0 i))=_
   simp [frz,hfl,List.take_of_length_le]
 exact a0c ⟨_,rfl,rfl,rfl⟩
theorem b5I{k s n:Nat}(h:k%256≠0):a2A k s n (List.replicate 64 0)=none:=by
 unfold a2A
 rw [if_neg]
 rintro ⟨_,h2⟩
 have h3:=congrArg (fun l=>l[0]?) h2
 have e:∀p,(a3C k s n p)[0]?=some (UInt8.ofNat (k%256)):=fun p=>rfl
 simp only [e] at h3
 have h4:UInt8.ofNat (k%256)=0:=by simpa using h3
 have h5:=congrArg UInt8.toNat h4
 rw [UInt8.toNat_ofNat'] at h5
 have h6:k%256%256=0:=h5
 omega
def c4E(img:List UInt8)(k:Nat)(b:List UInt8):List UInt8:=img.take (k*64)++b++img.drop (k*64+64)
theorem b9I{img:List UInt8}{k:Nat}{b:List UInt8}(hk:k*64+64<=img.length)(hb:b.length=64):(c4E img k b).length=img.length:=by
 simp [c4E,hb];omega
theorem c3c{img:List UInt8}{j:Nat}(h:j*64+64<=img.length):a4H img (j:Int)=(img.drop (j*64)).take 64:=by
 unfold a4H
 rw [if_neg (by omega),Int.toNat_natCast]
structure Lr(L:Nat)(r:Rd):Prop where
 new:r.new.length=L
 old:r.old.length=L
 dirt:r.dirt.length*64=L
 has:r.has=false
 gone:r.gone=false
 le:L<=67108864
def Rd.wr(r:Rd)(k:Nat)(b:List UInt8):Rd:=r.burn.put k b
def Rd.bar(r:Rd):Rd:={ r.burn with old:=r.burn.new,dirt:=List.replicate r.burn.dirt.length false }
theorem Lr.dies{L:Nat}{r:Rd}(h:Lr L r):r.dies=false:=by simp [Rd.dies,h.has]
theorem Lr.burn{L:Nat}{r:Rd}(h:Lr L r):r.burn={ r with left:=IntKind.i64.wrap (r.left - 1) }:=by simp [Rd.burn,h.dies]
theorem b5N{img b:List UInt8}{k:Nat}(hb:b.length=64):a5y img b k 64=c4E img k b:=by
 have e:b6P b=b:=by simp [b6P,hb]
 unfold a5y c4E
 rw [e,List.take_of_length_le (show b.length<=64 by omega)]
theorem Lr.write{L k:Nat}{r:Rd}(h:Lr L r)(hk:k*64+64<=L){b:List UInt8}(hb:b.length=64):r.write (k:Int) b=(0,r.wr k b):=by
 have hc:r.check (k:Int)=0:=by
  unfold Rd.check
  rw [h.gone,if_neg (by simp),if_neg (by have:=h.dirt;omega)]
 unfold Rd.write
 rw [hc,if_neg (by simp),if_neg (by omega),h.dies,if_neg (by simp),Int.toNat_natCast]
 rfl
theorem Lr.wr_new{L k:Nat}{r:Rd}(h:Lr L r){b:List UInt8}(hb:b.length=64):(r.wr k b).new=c4E r.new k b:=by
 unfold Rd.wr
 rw [h.burn]
 exact b5N hb
theorem Lr.wr{L k:Nat}{r:Rd}(h:Lr L r)(hk:k*64+64<=L){b:List UInt8}(hb:b.length=64):Lr L (r.wr k b) where
 new:=by rw [h.wr_new hb,b9I (by rw [h.new];exact hk) hb];exact h.new
 old:=by unfold Rd.wr;rw [h.burn];exact h.old
 dirt:=by
  unfold Rd.wr
  rw [h.burn]
  show (r.dirt.set k true).length*64=L
  rw [List.length_set];exact h.dirt
 has:=by unfold Rd.wr;rw [h.burn];exact h.has
 gone:=by unfold Rd.wr;rw [h.burn];exact h.gone
 le:=h.le
theorem Lr.barrier{L:Nat}{r:Rd}(h:Lr L r):r.barrier=(0,r.bar):=by
 unfold Rd.barrier
 rw [h.gone,if_neg (by simp),h.dies,if_neg (by simp)]
 rfl
theorem Lr.bar_new{L:Nat}{r:Rd}(h:Lr L r):r.bar.new=r.new:=by
 unfold Rd.bar
 rw [h.burn]
theorem Lr.bar{L:Nat}{r:Rd}(h:Lr L r):Lr L r.bar where
 new:=by rw [h.bar_new];exact h.new
 old:=by unfold Rd.bar;rw [h.burn];exact h.new
 dirt:=by
  unfold Rd.bar
  rw [h.burn]
  show (List.replicate r.dirt.length false).length*64=L
  rw [List.length_replicate];exact h.dirt
 has:=by unfold Rd.bar;rw [h.burn];exact h.has
 gone:=by unfold Rd.bar;rw [h.burn];exact h.gone
 le:=h.le
theorem b9t{n:Nat}(hn:n<=1048576):Lr (n*64) (Rd.fresh (List.replicate (n*64) 0)) where
 new:=by simp [Rd.fresh]
 old:=by simp [Rd.fresh]
 dirt:=by simp [Rd.fresh]
 has:=rfl
 gone:=rfl
 le:=by omega
def a8j(r:Rd)(F seq:Nat)(s:List UInt8)(t:Nat):Nat->Rd
 | 0=>r
 | i+1=>(a8j r F seq s t i).wr (F+1+t+i) (frN F seq s (t+i))
theorem Lr.df{L:Nat}{r:Rd}(hv:Lr L r){F seq:Nat}{s:List UInt8}{t:Nat}:∀n,(F+1+t+n)*64<=L->Lr L (a8j r F seq s t n)
 | 0,_=>hv
 | n+1,h=>(Lr.df hv n (by omega)).wr (by omega) b5U
def rrC(h:Hd):AO:=.cells [.ptr 0 0,.int .i64 h.ver,.int .i64 h.slot,.int .i64 h.lay,.int .i64 h.seq,.int .i64 h.tail,.int .i64 h.now,.ptr 5 0] 174
def rrH(r:Rd)(h:Hd)(l:La)(s:List UInt8)(t:Nat):Hp:=rdH r++[some (rrC h),some (rpC l h.slot h.seq s.length t 6),some (arB s)]
def rrM(r:Rd)(h:Hd)(l:La)(s:List UInt8)(t:Nat):Hp:=rdH r++[some (rrC h),some (rpC l h.slot h.seq s.length t 7),none,some (arB s)]
theorem a6K(r:Rd)(h:Hd)(l:La)(s:List UInt8)(t:Nat):HOk 7 (rrH r h l s t):=fun j o ho=>by
 match j,ho with
 | 0,ho=>cases ho;exact ⟨by simp [a0d],by simp [a0d],by simp [a0d],trivial,trivial,trivial,trivial,trivial⟩
 | 1,ho=>cases ho;exact a0h fun _=>a0k
 | 2,ho=>cases ho;exact a0h fun _=>a0k
 | 3,ho=>cases ho;exact a0h fun _=>b5u
 | 4,ho=>cases ho;exact ⟨by simp [a0d],trivial,trivial,trivial,trivial,trivial,trivial,by simp [a0d],trivial⟩
 | 5,ho=>cases ho;exact ⟨trivial,trivial,trivial,trivial,trivial,trivial,by simp [a0d],trivial,trivial⟩
 | 6,ho=>cases ho;exact a0h fun _=>a0k
theorem b7U(l:La)(slot seq:Int)(s:List UInt8)(t:Nat):∀j:Nat,(rpH l slot seq s t)[j]?≠some none:=fun j=>by
 match j with
 | 0|1=>simp [rpH]
 | j+2=>simp [rpH]
theorem c3g(r:Rd)(h:Hd)(l:La)(s:List UInt8)(t:Nat):∀j:Nat,(rrH r h l s t)[j]?≠some none:=fun j=>by
 match j with
 | 0|1|2|3|4|5|6=>simp [rrH,rdH]
 | j+7=>simp [rrH,rdH]
theorem b6B(g:Nat->Nat)(l:La)(slot seq:Int)(s:List UInt8)(t k:Nat)(hg:g 1=k):a1T g (rpH l slot seq s t)=[some (rpC l slot seq s.length t k),some (arB s)]:=by
 simp [a1T,rpH,rpC,arB,rnO,rnL,rnA,hg,a1O (f:=u8A) (fun _=>rfl)]
theorem c2R{X:Nat->Prop}{f:FuncId}{rest:List AV}{r0:AV}{l:La}{slot seq:Int}{s s':List UInt8}{t t':Nat}(hc:∀X,a0b (E0 X) f (.ptr 0 0::rest) (rpH l slot seq s t) (fun r H'=>r=r0/\H'=rpH l slot seq s' t'))(hrest:a0e 0 rest)(hr:a0d 0 r0)(L:Hp)(k:Nat)(hs:L.length=k) :
  a0b (E0 X) f (.ptr k 0::rest) (L++[some (rpC l slot seq s.length t (1+k)),some (arB s)]) (fun r H'=>r=r0/\H'=L++[some (rpC l slot seq s'.length t' (1+k)),some (arB s')]):=by
 subst hs
 have e:∀s t,a1T (sh L.length ([]:Hp).length 2) (rpH l slot seq s t)=[some (rpC l slot seq s.length t (1+L.length)),some (arB s)]:=fun s t=>b6B _ l slot seq s t _ (by simp [sh])
 refine a0b.conv (a0b.frameLR (E:=E0 X) hc L [] (b7U l slot seq s t) ⟨by simp [a0d,rpH],a0F (Nat.zero_le _) hrest⟩ (a6J l slot seq s t)) ?_ (by rw [show (rpH l slot seq s t).length=2 from rfl,e,List.append_nil]) ?_
 ·show _::rnL _ rest=_
  rw [a1r _ hrest];simp [rnA,sh,rpH]
 rintro r H' ⟨r1,h',⟨rfl,rfl⟩,-,rfl,rfl⟩
 refine ⟨a2h _ hr,?_⟩
 show L++a1T (sh L.length ([]:Hp).length 2) (rpH l slot seq s' t')++[]++[]=_
 rw [e,List.append_nil,List.append_nil]
theorem c0Y{X:Nat->Prop}{f:FuncId}{rest:List AV}{r0:AV}{l:La}{slot seq:Int}{s s':List UInt8}{t t':Nat}(hc:∀X,a0b (E0 X) f (.ptr 0 0::rest) (rpH l slot seq s t) (fun r H'=>r=r0/\H'=rpM l slot seq s' t'))(hrest:a0e 0 rest)(hr:a0d 0 r0)(L:Hp)(k:Nat)(hs:L.length=k) :
  a0b (E0 X) f (.ptr k 0::rest) (L++[some (rpC l slot seq s.length t (1+k)),some (arB s)]) (fun r H'=>r=r0/\H'=L++[some (rpC l slot seq s'.length t' (2+k)),none,some (arB s')]):=by
 subst hs
 have e:∀s t,a1T (sh L.length ([]:Hp).length 2) (rpH l slot seq s t)=[some (rpC l slot seq s.length t (1+L.length)),some (arB s)]:=fun s t=>b6B _ l slot seq s t _ (by simp [sh])
 refine a0b.conv (a0b.frameLR (E:=E0 X) hc L [] (b7U l slot seq s t) ⟨by simp [a0d,rpH],a0F (Nat.zero_le _) hrest⟩ (a6J l slot seq s t)) ?_ (by rw [show (rpH l slot seq s t).length=2 from rfl,e,List.append_nil]) ?_
 ·show _::rnL _ rest=_
  rw [a1r _ hrest];simp [rnA,sh,rpH]
 rintro r H' ⟨r1,h',⟨rfl,rfl⟩,-,rfl,rfl⟩
 refine ⟨a2h _ hr,?_⟩
 show L++a1T (sh L.length ([]:Hp).length 2) [some (rpC l slot seq s'.length t' 2),none]++[]++a1T (sh L.length ([]:Hp).length 2) [some (arB s')]=_
 rw [c1Z]
 simp [a1T,rpC,rnO,rnL,rnA,sh]
theorem c5x{X:Nat->Prop}{f:FuncId}{rest:List AV}{r0:AV}{v v':Rd}(hc:∀X,a0b (E0 X) f (.ptr 0 0::rest) (rdH v) (fun r H'=>r=r0/\H'=rdH v'))(hrest:a0e 0 rest)(hr:a0d 0 r0)(R:Hp) :
  a0b (E0 X) f (.ptr 0 0::rest) (rdH v++R) (fun r H'=>r=r0/\H'=rdH v'++R):=c5W hc hrest hr [] R 0 rfl
theorem c4T(r:Rd)(h:Hd)(l:La)(s:List UInt8)(t:Nat):a1T (reN [0,1,2,3,4,5,7] 8) (rrH r h l s t)=rdH r++[some (rrC h),some (rpC l h.slot h.seq s.length t 7),some (arB s)]:=by
 simp [a1T,rrH,rdH,rrC,rpC,arB,rnO,rnL,rnA,reN,a1O (f:=u8A) (fun _=>rfl),a1O (f:=boA) (fun _=>rfl)]
theorem b9V(X:Nat->Prop)(r:Rd)(L:Nat)(hv:Lr L r)(l:La)(h:Hd)(F:Nat)(hb:hdB h=true)(hF:IntKind.i64.wrap (74+IntKind.i64.wrap (h.slot*l.rs))=(F:Int))(hFL:F*64+64<=L) :
  a0b (E0 X) 35 [.ptr 0 0,laA l,hdA h] (rdH r) (fun q H'=>q=.tup [.ptr 4 0,.int .i64 0]/\H'=rrH (r.wr F (a8Z h F)).bar h l [] 0):=by
 have hle:=hv.le
 have hen:=fun X=>b7u X h F hb (by omega)
 have hel:=a9a h F
 have hw:=fun R=>c5x (fun X=>a5P X r F (a8Z h F) (by omega) (by rw [hv.dirt,hv.new]) (by rw [hv.new];omega)) ⟨trivial,a0h fun _=>a0k,trivial⟩ trivial R (X:=X)
 rw [hv.write (by omega) (by omega)] at hw
 have hv1:=hv.wr (k:=F) (by omega) (b:=a8Z h F) (by omega)
 have hba:=fun R=>c5x (fun X=>a8B X (r.wr F (a8Z h F)) (by have:=hv1.dirt;omega) (by rw [hv1.old,hv1.new])) trivial trivial R (X:=X)
 rw [hv1.barrier] at hba
 generalize a8Z h F=eh at *
 show a0b (E0 X) _ [.ptr 0 0,.agg [.int .i64 l.id,.int .i64 l.ver,.int .i64 l.rs,.int .i64 l.regs],.agg [.int .i64 h.ver,.int .i64 h.slot,.int .i64 h.lay,.int .i64 h.seq,.int .i64 h.tail,.int .i64 h.now]] (rdH r) _
 refine Z0 Proofs.Tryz.func35 rfl Proofs.Tryz.ntmps35 (by kernel_rfl) rfl ?_
 repeat' (first|refine Zs rfl ?_|refine Zc rfl ?_|refine Qa rfl ?_)
 rw [hF]
 skip
 refine Cn rfl (a0f (E:=E0 X) (fun X=>hen X) (by simp [a0e,a0d]) _) rfl rfl ?_
 repeat' (refine Qa rfl ?_)
 refine Cn rfl (hw _) rfl rfl ?_
 generalize r.wr F eh=v1 at *
 repeat' (first|refine Zs rfl ?_|refine Zc rfl ?_|refine Qa rfl ?_)
 refine Cn rfl (hba _) rfl rfl ?_
 generalize v1.bar=v2 at *
 repeat' (first|refine Zs rfl ?_|refine Zc rfl ?_|refine Zh ?_|refine Qs ?_)
 refine a0t (Imp.trans (a9m 6 6 5 rfl rfl) (a0S 4 [7,6,8] (H':=rrH v2 h l [] 0) (sl':=[(6,.ptr 4 0),(7,.int .i64 0)]) (os:=[rrC h,rpC l h.slot h.seq 0 0 6,arB []]) (Nat.le_refl _) ?_ ?_ ?_ ?_ rfl ?_ ?_ ?_)) ?_
 ·simp [rdH]
 ·simp
 ·simp
 ·exact a1I v2
 ·rfl
 ·repeat' (first|exact a0l|refine a0a ?_ ?_|exact a1h rfl|exact a0v rfl (by first|trivial|(simp [a0d,a0e];done)))
 ·repeat' (first|exact a0T|exact a4x.nil|refine a0E rfl (a1y ?_) ?_|refine a0E rfl (a0A 0 (fun i h=>absurd h (Nat.not_lt_zero i)) (by simp [a2b,a0e,a0d])) ?_|refine a4x.cons ?_ ?_|exact a0L rfl|exact a1h rfl|exact a0v rfl (by first|trivial|(simp [a0d,a0e];done)))
 exact a0c ⟨_,rfl,rfl,rfl⟩
theorem b7H(X:Nat->Prop)(r:Rd)(L:Nat)(hv:Lr L r)(l:La)(h:Hd)(F seq:Nat)(s:List UInt8)(t n:Nat)(hsq:h.seq=(seq:Int))(hq:seq<9223372036854775808)(hF:IntKind.i64.wrap (74+IntKind.i64.wrap (h.slot*l.rs))=(F:Int))(hFs:F+s.length<=1000000)(hn:t+n=s.length / 59)(hFL:(F+1+s.length / 59)*64<=L) :
  a0b (E0 X) 92 [.ptr 4 0] (rrH r h l s t) (fun q H'=>q=.int .i64 0/\H'=rrH (a8j r F seq s t n) h l s (t+n)):=by
 have htk:=fun Lp k hs=>c2R (X:=X) (fun X=>c2Z X l h.slot F seq s t n hq hFs hn hF) trivial (by exact ⟨a6l _,a5e _,trivial⟩) Lp k hs
 rw [<- hsq] at htk
 have hle:=hv.le
 have hsl:=b8j F t n
 have hfl:=b8i F seq s t n
 have hlv:=fun i (hi:i<=n)=>hv.df (F:=F) (seq:=seq) (s:=s) (t:=t) i (by omega)
 have hxs:=fun i (hi:i<n)=>c3o (F:=F) (t:=t) hi
 have hxf:=fun i (hi:i<n)=>c3n (F:=F) (seq:=seq) (s:=s) (t:=t) hi
 have hsu:∀i,a8j r F seq s t (i+1)=(a8j r F seq s t i).wr (F+1+t+i) (frN F seq s (t+i)):=fun i=>rfl
 generalize tkS F t n=xs at *
 generalize tkF F seq s t n=fs at *
 have hxm:(xs.map iA).length=n:=by rw [List.length_map,hsl]
 have hn9:n<=1000000:=by omega
 show a0b (E0 X) _ [.ptr 4 0] (rdH r++[some (.cells [.ptr 0 0,.int .i64 h.ver,.int .i64 h.slot,.int .i64 h.lay,.int .i64 h.seq,.int .i64 h.tail,.int .i64 h.now,.ptr 5 0] 174),some (rpC l h.slot h.seq s.length t 6),some (arB s)]) _
 refine Z0 Proofs.Tryz.func92 rfl Proofs.Tryz.ntmps92 (by kernel_rfl) rfl ?_
 repeat' (first|refine Zs rfl ?_|refine Zc rfl ?_|refine Qa rfl ?_)
 refine a1c (fun _=>rfl) rfl ?_
 refine a0b.mono (htk (rdH r++[some (rrC h)]) 5 rfl) ?_
 rintro q H' ⟨rfl,rfl⟩
 refine nx rfl rfl ?_
 repeat' (first|refine Zs rfl ?_|refine Zc rfl ?_)
 refine a0s (fun i:Nat=>⟨[(0,.ptr 4 0),(3,.sl 1 (xs.map iA)),(4,.sl 1 (fs.map a6A)),(16,.int .i64 ((xs.map iA).length:Int)),(17,.int .i64 (i:Int))],rrH (a8j r F seq s t i) h l s (t+n)⟩) (fun i=>i<=n) (fun i=>n - i) 0 (Nat.zero_le _) ?_ ?_
 ·refine a0j 7 (Nat.le_refl _) (a6K r h l s (t+n)) rfl (by simp [rdH]) ?_
  repeat' (first|exact a0l|refine a0a ⟨?_,?_⟩ ?_)
  all_goals (try first|exact rfl|exact trivial|(simp [a0d,a0e];done))
  all_goals first|exact a6l _|exact a5e _
 rintro i hi
 have hi':i<=n:=hi
 have hsi:=hsu i
 have hlvi:=hlv i hi'
 show AWp _ _ _ _ _ ⟨[(0,.ptr 4 0),(3,.sl 1 (xs.map iA)),(4,.sl 1 (fs.map a6A)),(16,.int .i64 ((xs.map iA).length:Int)),(17,.int .i64 (i:Int))],rdH (a8j r F seq s t i)++[some (.cells [.ptr 0 0,.int .i64 h.ver,.int .i64 h.slot,.int .i64 h.lay,.int .i64 h.seq,.int .i64 h.tail,.int .i64 h.now,.ptr 5 0] 174),some (rpC l h.slot h.seq s.length (t+n) 6),some (arB s)]⟩
 have hrl:(frN F seq s (t+i)).length=64:=b5U
 by_cases hlt:i<n
 ·have hx:=hxs i hlt
  have hf:=hxf i hlt
  have hK:(F+1+t+i)*64+64<=L:=by omega
  have hw:=fun R=>c5x (fun X=>a5P X (a8j r F seq s t i) (F+1+t+i:Nat) (frN F seq s (t+i)) (by rw [hrl];decide) (by rw [hlvi.dirt,hlvi.new]) (by rw [hlvi.new];omega)) ⟨trivial,a0h fun _=>a0k,trivial⟩ trivial R (X:=X)
  rw [hlvi.write hK hrl] at hw
  have hiw:IntKind.i64.wrap ((i:Int)+1)=((i+1:Nat):Int):=a0x (by omega) (by omega) (by omega)
  have hmu:n - (i+1)<n - i:=by omega
  generalize a8j r F seq s t i=vi at *
  generalize frN F seq s (t+i)=fr at *
  generalize vi.wr (F+1+t+i) fr=v2 at *
  generalize F+1+t+i=S at *
  repeat' (first|refine Zs rfl ?_|refine Zc rfl ?_)
  rw [decide_eq_true (show (i:Int)<((xs.map iA).length:Int) by rw [hxm];omega)]
  repeat' (first|refine Zs rfl ?_|refine Zc rfl ?_)
  refine a0n [12] [0,1,2,4,5,8,9,13] (by exact rfl) ?_
  refine a0y (fuel:=0) [0,1,2,3,4,5,6,7,8,9,10,11,12,13] (by exact rfl) (by kernel_rfl) (by kernel_rfl) ?_
  repeat' (refine Zd rfl ?_)
  apply ds rfl rfl rfl rfl
  ·refine a0C hx rfl rfl rfl rfl rfl rfl rfl (by first|rfl|omega) rfl ?_
   exact nx rfl rfl ⟨rfl,rfl⟩
  repeat' (refine Zd rfl ?_)
  apply ds rfl rfl rfl rfl
  ·refine a0C hf rfl rfl rfl rfl rfl rfl rfl (by first|rfl|omega) rfl ?_
   exact nx rfl rfl ⟨rfl,rfl⟩
  repeat' (refine Zd rfl ?_)
  refine a1E rfl rfl rfl ?_
  refine Cn rfl (hw _) rfl rfl ?_
  repeat' (first|((apply Qe rfl rfl rfl rfl;intro H9);(refine Q1 ?_);(exact QY rfl ⟨rfl,rfl⟩))|refine Qk ?_|refine Qw (by kernel_rfl) ?_)
  repeat' (first|refine Zs rfl ?_|refine Zc rfl ?_|refine Zh ?_|refine Qs ?_)
  rw [hiw]
  refine ⟨i+1,hlt,hmu,?_⟩
  show Imp _ _ _ _ ⟨_,rrH (a8j r F seq s t (i+1)) h l s (t+n)⟩
  rw [hsi]
  refine a0j 7 (Nat.le_refl _) (a6K v2 h l s (t+n)) rfl (by simp [rdH]) ?_
  repeat' (first|exact a0l|refine a0a ⟨?_,?_⟩ ?_)
  all_goals (try first|exact rfl|exact trivial|(simp [a0d,a0e];done))
  all_goals first|exact a6l _|exact a5e _
 have hii:i=n:=by omega
 subst hii
 repeat' (first|refine Zs rfl ?_|refine Zc rfl ?_)
 rw [decide_eq_false (show ¬ (i:Int)<((xs.map iA).length:Int) by rw [hxm];omega)]
 repeat' (first|refine Zs rfl ?_|refine Zc rfl ?_|refine Zh ?_|refine Qs ?_)
 exact a0c ⟨_,rfl,rfl,rfl⟩
theorem b0L(X:Nat->Prop)(r:Rd)(L:Nat)(hv:Lr L r)(l:La)(h:Hd)(F seq:Nat)(s:List UInt8)(t n:Nat)(hsq:h.seq=(seq:Int))(hq:seq<9223372036854775808)(hF:IntKind.i64.wrap (74+IntKind.i64.wrap (h.slot*l.rs))=(F:Int))(hFs:F+s.length<=1000000)(hn:t+n=s.length / 59)(hFL:(F+1+s.length / 59)*64<=L) :
  a0b (E0 X) 92 [.ptr 4 0] (rrM r h l s t) (fun q H'=>q=.int .i64 0/\H'=rrM (a8j r F seq s t n) h l s (t+n)):=by
 have hm:=c4T r h l s t
 have hfr:=a0b.frame (E:=E0 X) (fun X=>b7H X r L hv l h F seq s t n hsq hq hF hFs hn hFL) [0,1,2,3,4,5,7] (rrM r h l s t) (by simp) rfl (c3g r h l s t) (fun j i o hj ho=>by
  have h1:(a1T (reN [0,1,2,3,4,5,7] 8) (rrH r h l s t))[j]?=some (some (rnO (reN [0,1,2,3,4,5,7] 8) o)):=by simp [a1T,ho]
  rw [hm] at h1
  match j,hj with
  | 0,hj=>cases hj;exact h1
  | 1,hj=>cases hj;exact h1
  | 2,hj=>cases hj;exact h1
  | 3,hj=>cases hj;exact h1
  | 4,hj=>cases hj;exact h1
  | 5,hj=>cases hj;exact h1
  | 6,hj=>cases hj;exact h1) ⟨by simp [a0d,rrH,rdH],trivial⟩ (a6K r h l s t)
 refine a0b.conv hfr rfl rfl ?_
 rintro q H' ⟨r0,h',⟨rfl,rfl⟩,-,rfl,rfl⟩
 refine ⟨rfl,?_⟩
 have hm2:=c4T (a8j r F seq s t n) h l s (t+n)
 show mrg _ _ (a1T (reN [0,1,2,3,4,5,7] 8) (rrH (a8j r F seq s t n) h l s (t+n)))=_
 rw [hm2]
 rfl
theorem b7C(X:Nat->Prop)(d:Rd)(l:La)(h:Hd)(s:List UInt8)(t:Nat)(r:Rec)(hc:a4i l.ver r≠0) :
  a0b (E0 X) 36 [.ptr 4 0,a5X r] (rrH d h l s t) (fun q H'=>q=.tup [.int .i64 0,.int .i64 0,.int .i64 (a4i l.ver r)]/\H'=rrH d h l s t):=by
 have hpu:=fun Lp k hs=>c2R (X:=X) (fun X=>b9R X l h.slot h.seq s t r hc) (by exact ⟨a2x,trivial⟩) (by exact ⟨trivial,trivial,trivial,trivial⟩) Lp k hs
 generalize a4i l.ver r=e at *
 show a0b (E0 X) _ [.ptr 4 0,.agg [.int .i64 r.kind,.sl 1 (r.key.map u8A),.sl 1 (r.val.map u8A),.int .i64 r.exp]] (rdH d++[some (.cells [.ptr 0 0,.int .i64 h.ver,.int .i64 h.slot,.int .i64 h.lay,.int .i64 h.seq,.int .i64 h.tail,.int .i64 h.now,.ptr 5 0] 174),some (rpC l h.slot h.seq s.length t 6),some (arB s)]) _
 refine Z0 Proofs.Tryz.func36 rfl Proofs.Tryz.ntmps36 (by kernel_rfl) rfl ?_
 repeat' (first|refine Zs rfl ?_|refine Zc rfl ?_)
 refine a0t (Imp.trans (a0w (id:=7) (cs:=[.int .i64 r.kind,.sl 1 (r.key.map u8A),.sl 1 (r.val.map u8A),.int .i64 r.exp]) rfl) (a0j 7 (Nat.le_refl _) (a6K d h l s t) rfl (by simp [rdH]) (sl':=[(0,.ptr 4 0),(3,.fp [.int .i64 r.kind,.sl 1 (r.key.map u8A),.sl 1 (r.val.map u8A),.int .i64 r.exp])]) ?_)) ?_
 ·repeat' (first|exact a0l|refine a0a ⟨?_,?_⟩ ?_)
  all_goals (try first|exact rfl|(simp [a0d,a0e];done))
 show AWp _ _ _ _ _ ⟨_,(rdH d++[some (.cells [.ptr 0 0,.int .i64 h.ver,.int .i64 h.slot,.int .i64 h.lay,.int .i64 h.seq,.int .i64 h.tail,.int .i64 h.now,.ptr 5 0] 174),some (rpC l h.slot h.seq s.length t 6),some (arB s)])⟩
 refine a0p [] [] (by exact rfl) (by kernel_rfl) ?_
 repeat' (refine Zd rfl ?_)
 apply ds rfl rfl rfl rfl
 ·refine Ck (fun _=>rfl) rfl (hpu (rdH d++[some (rrC h)]) 5 rfl) ?_
  exact nx rfl rfl ⟨rfl,rfl⟩
 repeat' (first|refine Zs rfl ?_|refine Zd rfl ?_|refine Zc rfl ?_|refine Zh ?_|refine Qs ?_)
 rw [decide_eq_true hc]
 repeat' (first|refine Zs rfl ?_|refine Zc rfl ?_|refine Zh ?_|refine Qs ?_)
 exact a0c ⟨_,rfl,rfl,rfl⟩
theorem b4K(X:Nat->Prop)(d:Rd)(l:La)(h:Hd)(s:List UInt8)(t:Nat)(r:Rec)(hc:a4i l.ver r=0)(hr:1<=l.rs/\l.rs<=2048)(hs:s.length<=1000000)(hl:(l.rs - 1)*59 - s.length<(a1M r:Int)) :
  a0b (E0 X) 36 [.ptr 4 0,a5X r] (rrH d h l s t) (fun q H'=>q=.tup [.int .i64 0,.int .i64 0,.int .i64 8]/\H'=rrH d h l s t):=by
 have hpu:=fun Lp k hs2=>c2R (X:=X) (fun X=>b7A X l h.slot h.seq s t r hc hr hs hl) (by exact ⟨a2x,trivial⟩) (by exact ⟨trivial,trivial,trivial,trivial⟩) Lp k hs2
 show a0b (E0 X) _ [.ptr 4 0,.agg [.int .i64 r.kind,.sl 1 (r.key.map u8A),.sl 1 (r.val.map u8A),.int .i64 r.exp]] (rdH d++[some (.cells [.ptr 0 0,.int .i64 h.ver,.int .i64 h.slot,.int .i64 h.lay,.int .i64 h.seq,.int .i64 h.tail,.int .i64 h.now,.ptr 5 0] 174),some (rpC l h.slot h.seq s.length t 6),some (arB s)]) _
 refine Z0 Proofs.Tryz.func36 rfl Proofs.Tryz.ntmps36 (by kernel_rfl) rfl ?_
 repeat' (first|refine Zs rfl ?_|refine Zc rfl ?_)
 refine a0t (Imp.trans (a0w (id:=7) (cs:=[.int .i64 r.kind,.sl 1 (r.key.map u8A),.sl 1 (r.val.map u8A),.int .i64 r.exp]) rfl) (a0j 7 (Nat.le_refl _) (a6K d h l s t) rfl (by simp [rdH]) (sl':=[(0,.ptr 4 0),(3,.fp [.int .i64 r.kind,.sl 1 (r.key.map u8A),.sl 1 (r.val.map u8A),.int .i64 r.exp])]) ?_)) ?_
 ·repeat' (first|exact a0l|refine a0a ⟨?_,?_⟩ ?_)
  all_goals (try first|exact rfl|(simp [a0d,a0e];done))
 show AWp _ _ _ _ _ ⟨_,(rdH d++[some (.cells [.ptr 0 0,.int .i64 h.ver,.int .i64 h.slot,.int .i64 h.lay,.int .i64 h.seq,.int .i64 h.tail,.int .i64 h.now,.ptr 5 0] 174),some (rpC l h.slot h.seq s.length t 6),some (arB s)])⟩
 refine a0p [] [] (by exact rfl) (by kernel_rfl) ?_
 repeat' (refine Zd rfl ?_)
 apply ds rfl rfl rfl rfl
 ·refine Ck (fun _=>rfl) rfl (hpu (rdH d++[some (rrC h)]) 5 rfl) ?_
  exact nx rfl rfl ⟨rfl,rfl⟩
 repeat' (first|refine Zs rfl ?_|refine Zd rfl ?_|refine Zc rfl ?_|refine Zh ?_|refine Qs ?_)
 skip
 exact a0c ⟨_,rfl,rfl,rfl⟩
theorem b9T(X:Nat->Prop)(d:Rd)(L:Nat)(hv:Lr L d)(l:La)(h:Hd)(F seq:Nat)(s:List UInt8)(t:Nat)(r:Rec)(n:Nat)(hsq:h.seq=(seq:Int))(hq:seq<9223372036854775808)(hF:IntKind.i64.wrap (74+IntKind.i64.wrap (h.slot*l.rs))=(F:Int))(hFs:F<=100000)(hc:a4i l.ver r=0)(hr:1<=l.rs/\l.rs<=2048)(hl:(s.length:Int)+(a1M r:Int)<=(l.rs - 1)*59)(hn:t+n=(s++a4a l.ver seq s.length r).length / 59)(hFL:(F+1+(s++a4a l.ver seq s.length r).length / 59)*64<=L) :
  a0b (E0 X) 36 [.ptr 4 0,a5X r] (rrH d h l s t) (fun q H'=>q=.tup [.int .i64 (s.length:Int),.int .i64 (a1M r:Int),.int .i64 0]/\H'=rrM (a8j d F seq (s++a4a l.ver seq s.length r) t n) h l (s++a4a l.ver seq s.length r) (t+n)):=by
 have hpu:=fun Lp k hs2=>c0Y (X:=X) (fun X=>c2U X l h.slot seq s t r hc hq hr hl) (by exact ⟨a2x,trivial⟩) (by exact ⟨trivial,trivial,trivial,trivial⟩) Lp k hs2
 rw [<- hsq] at hpu
 have hsl:(s++a4a l.ver seq s.length r).length=s.length+a1M r:=by rw [List.length_append,a4E]
 have hfl:=b0L X d L hv l h F seq (s++a4a l.ver seq s.length r) t n hsq hq hF (by omega) hn hFL
 generalize s++a4a l.ver seq s.length r=s2 at *
 generalize a1M r=lr at *
 show a0b (E0 X) _ [.ptr 4 0,.agg [.int .i64 r.kind,.sl 1 (r.key.map u8A),.sl 1 (r.val.map u8A),.int .i64 r.exp]] (rdH d++[some (.cells [.ptr 0 0,.int .i64 h.ver,.int .i64 h.slot,.int .i64 h.lay,.int .i64 h.seq,.int .i64 h.tail,.int .i64 h.now,.ptr 5 0] 174),some (rpC l h.slot h.seq s.length t 6),some (arB s)]) _
 refine Z0 Proofs.Tryz.func36 rfl Proofs.Tryz.ntmps36 (by kernel_rfl) rfl ?_
 repeat' (first|refine Zs rfl ?_|refine Zc rfl ?_)
 refine a0t (Imp.trans (a0w (id:=7) (cs:=[.int .i64 r.kind,.sl 1 (r.key.map u8A),.sl 1 (r.val.map u8A),.int .i64 r.exp]) rfl) (a0j 7 (Nat.le_refl _) (a6K d h l s t) rfl (by simp [rdH]) (sl':=[(0,.ptr 4 0),(3,.fp [.int .i64 r.kind,.sl 1 (r.key.map u8A),.sl 1 (r.val.map u8A),.int .i64 r.exp])]) ?_)) ?_
 ·repeat' (first|exact a0l|refine a0a ⟨?_,?_⟩ ?_)
  all_goals (try first|exact rfl|(simp [a0d,a0e];done))
 show AWp _ _ _ _ _ ⟨_,(rdH d++[some (.cells [.ptr 0 0,.int .i64 h.ver,.int .i64 h.slot,.int .i64 h.lay,.int .i64 h.seq,.int .i64 h.tail,.int .i64 h.now,.ptr 5 0] 174),some (rpC l h.slot h.seq s.length t 6),some (arB s)])⟩
 refine a0n [5] [0,1,2,4,6,7,8,9,10,11,12] (by exact rfl) ?_
 refine a0y (fuel:=0) [0,1,2,3,4,5,6,7,8,9,10,11,12] (by exact rfl) (by kernel_rfl) (by kernel_rfl) ?_
 repeat' (refine Zd rfl ?_)
 refine a1E rfl rfl rfl ?_
 refine a1c (fun _=>rfl) rfl ?_
 refine a0b.mono (hpu (rdH d++[some (rrC h)]) 5 rfl) ?_
 rintro q H' ⟨rfl,rfl⟩
 refine nx rfl rfl ?_
 repeat' (first|((apply Qe rfl rfl rfl rfl;intro H9);(first|refine Q0 ?_|refine Q1 ?_|refine QC rfl rfl ?_);(exact QY rfl ⟨rfl,rfl⟩))|refine Qk ?_|refine Qw (by kernel_rfl) ?_)
 repeat' (first|refine Zs rfl ?_|refine Zc rfl ?_|refine Qa rfl ?_)
 refine a1c (fun _=>rfl) rfl ?_
 refine a0b.mono hfl ?_
 rintro q H' ⟨rfl,rfl⟩
 refine nx rfl rfl ?_
 repeat' (first|refine Zs rfl ?_|refine Zc rfl ?_|refine Zh ?_|refine Qs ?_)
 exact a0c ⟨_,rfl,rfl,rfl⟩
theorem b3M(X:Nat->Prop)(d:Rd)(L:Nat)(hv:Lr L d)(l:La)(h:Hd)(F seq:Nat)(s:List UInt8)(t n:Nat)(hsq:h.seq=(seq:Int))(hq:seq<9223372036854775808)(hF:IntKind.i64.wrap (74+IntKind.i64.wrap (h.slot*l.rs))=(F:Int))(hFs:F<=100000)(hs:s.length<=120773)(hn:t+n=(padS s).length / 59)(hFL:(F+1+(padS s).length / 59)*64<=L) :
  a0b (E0 X) 38 [.ptr 4 0] (rrH d h l s t) (fun q H'=>q=.int .i64 0/\H'=rrM (a8j d F seq (padS s) t n).bar h l (padS s) (t+n)):=by
 have hle:=hv.le
 have hpl:(padS s).length<=130000:=by
  simp only [padS,List.length_append,List.length_replicate]
  omega
 have hpa:=fun Lp k hs2=>c0Y (X:=X) (fun X=>c4W X l h.slot h.seq s t (by omega)) trivial trivial Lp k hs2
 have hfl:=b0L X d L hv l h F seq (padS s) t n hsq hq hF (by omega) hn hFL
 have hlv:=hv.df (F:=F) (seq:=seq) (s:=padS s) (t:=t) n (by omega)
 generalize padS s=s2 at *
 generalize a8j d F seq s2 t n=v2 at *
 have hba:=fun R=>c5x (fun X=>a8B X v2 (by have:=hlv.dirt;omega) (by rw [hlv.old,hlv.new])) trivial trivial R (X:=X)
 rw [hlv.barrier] at hba
 show a0b (E0 X) _ [.ptr 4 0] (rdH d++[some (.cells [.ptr 0 0,.int .i64 h.ver,.int .i64 h.slot,.int .i64 h.lay,.int .i64 h.seq,.int .i64 h.tail,.int .i64 h.now,.ptr 5 0] 174),some (rpC l h.slot h.seq s.length t 6),some (arB s)]) _
 refine Z0 Proofs.Tryz.func38 rfl Proofs.Tryz.ntmps38 (by kernel_rfl) rfl ?_
 repeat' (first|refine Zs rfl ?_|refine Zc rfl ?_|refine Qa rfl ?_)
 refine a1c (fun _=>rfl) rfl ?_
 refine a0b.mono (hpa (rdH d++[some (rrC h)]) 5 rfl) ?_
 rintro q H' ⟨rfl,rfl⟩
 refine nx rfl rfl ?_
 repeat' (first|refine Zs rfl ?_|refine Zc rfl ?_|refine Qa rfl ?_|refine Qh ?_)
 refine a1c (fun _=>rfl) rfl ?_
 refine a0b.mono hfl ?_
 rintro q H' ⟨rfl,rfl⟩
 refine nx rfl rfl ?_
 repeat' (first|refine Zs rfl ?_|refine Zc rfl ?_|refine Qa rfl ?_)
 refine Cn rfl (hba _) rfl rfl ?_
 generalize v2.bar=v3 at *
 repeat' (first|refine Zs rfl ?_|refine Zh ?_|refine Qs ?_)
 exact a0c ⟨_,rfl,rfl,rfl⟩
theorem b8S{X:Nat->Prop}{ys:List AV}(h:a3E (E0 X) 1 5 ys):∃b,ys=[u8A b]:=by
 have h1:∃n,ys=[.int .u8 n]/\IntKind.u8.min<=n/\n<=IntKind.u8.max:=h
 obtain ⟨n,rfl,h4,h5⟩:=h1
 have h4':0<=n:=h4
 have h5':n<=255:=h5
 refine ⟨UInt8.ofNat n.toNat,?_⟩
 simp only [u8A]
 congr 2
 rw [UInt8.toNat_ofNat']
 omega
theorem c4I{X:Nat->Prop}{ys:List AV}(h:a3E (E0 X) 3 72 ys):∃r:Rec,ys=c3v r/\r.key.length<=maxLen/\r.val.length<=maxLen:=by
 have h1:b3b (E0 X) (a3E (E0 X) 2) [(0,3),(1,29),(2,29),(3,3)] ys:=h
 obtain ⟨_,_,rfl,⟨k,rfl,_⟩,a,_,rfl,ha,b,_,rfl,hb,_,_,rfl,⟨e,rfl,_⟩,rfl⟩:=h1
 have ha1:∃es,a=[.sl 1 es]/\es.length<=maxLen/\∀y∈es,∃ys,y=elA false ys/\a3E (E0 X) 1 5 ys:=ha
 have hb1:∃es,b=[.sl 1 es]/\es.length<=maxLen/\∀y∈es,∃ys,y=elA false ys/\a3E (E0 X) 1 5 ys:=hb
 obtain ⟨_,rfl,_⟩:=ha1
 obtain ⟨_,rfl,_⟩:=hb1
 obtain ⟨l,h2,h3⟩:=b2K ha
 obtain ⟨l2,h4,h5⟩:=b2K hb
 rw [h2,h4]
 exact ⟨⟨k,l,l2,e⟩,rfl,h3,h5⟩
theorem a9o{α:Type}{f:α->AV}{P:α->Prop}:∀{es:List AV},(∀y∈es,∃a,y=f a/\P a)->∃l:List α,es=l.map f/\∀a∈l,P a
 | [],_=>⟨[],rfl,fun a h=>by simp at h⟩
 | y::es,h=>by
  obtain ⟨a,rfl,ha⟩:=h y (by simp)
  obtain ⟨l,rfl,hl⟩:=a9o fun z hz=>h z (List.mem_cons_of_mem _ hz)
  exact ⟨a::l,rfl,fun b hb=>by
   rcases List.mem_cons.1 hb with rfl|hb
   ·exact ha
   ·exact hl b hb⟩
theorem c2E{X:Nat->Prop}{ys:List AV}(h:a3E (E0 X) 4 87 ys):∃l:List Rec,ys=[.sl 4 (l.map a5X)]/\l.length<=maxLen/\∀r∈l,r.key.length<=maxLen/\r.val.length<=maxLen:=by
 have h1:∃es,ys=[.sl 4 es]/\es.length<=maxLen/\∀y∈es,∃ys,y=elA true ys/\a3E (E0 X) 3 72 ys:=h
 obtain ⟨es,rfl,hlen,h3⟩:=h1
 obtain ⟨l,rfl,h4⟩:=a9o (f:=a5X) (P:=fun r=>r.key.length<=maxLen/\r.val.length<=maxLen) fun y hy=>by
  obtain ⟨ys,rfl,h5⟩:=h3 y hy
  obtain ⟨r,rfl,h6⟩:=c4I h5
  exact ⟨r,rfl,h6⟩
 exact ⟨l,rfl,by simpa using hlen,h4⟩
end Go.Abs
