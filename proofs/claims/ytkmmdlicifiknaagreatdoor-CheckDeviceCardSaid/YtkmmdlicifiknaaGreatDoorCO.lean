/- The reference's live. Joined texts, each with what its own name promises; no condition beyond those stated. -/
import Derived.Test.YtkmmdlicifiknaaGreatDoorCC
import Derived.Test.YtkmmdlicifiknaaGreatDoorCN
import Derived.Test.YtkmmdlicifiknaaGreatDoorCH
import Derived.Test.YtkmmdlicifiknaaGreatDoorCJ
import Derived.Test.YtkmmdlicifiknaaGreatDoorCG
import Derived.Test.YtkmmdlicifiknaaGreatDoorCE
import Derived.Test.YtkmmdlicifiknaaGreatDoorCF
import Derived.Test.YtkmmdlicifiknaaGreatDoorCB
set_option maxHeartbeats 0
set_option maxRecDepth 100000
set_option linter.all false
namespace Go.Abs
theorem a8Q(a:Rg):a6T a a=false:=by
 rw [Bool.eq_false_iff,ne_eq,a5r];omega
theorem b1l(a b c:Rg)(h1:a6T a b=true)(h2:a6T b c=true):a6T a c=true:=by
 rw [a5r] at *;omega
def b8R(l:List Rg)(u:List Bool)(n:Nat):Int:=match a8t a6T l u n with
 | none=>-1
 | some b=>(b:Int)
def bA(b:Bool):AV:=.bool b
theorem a4m(u:List Bool)(o:List Rg):HOk 2 [some (.arr (u.map bA) 4),some (.arr (o.map rgA) 63)]:=fun j o' ho=>by
 match j,ho with
 | 0,ho=>cases ho;exact a0h fun _=>trivial
 | 1,ho=>cases ho;exact a1d o
def b4v(tail:Int)(x:Rg)(o:List Rg):Bool:=decide (tail<=x.h.seq)&&!(o.any (a8u x))
theorem b5Z{tail:Int}{x:Rg}{o:List Rg}{j:Nat}{r:Rg}(h:o[j]?=some r):b4v tail x (o.take (j+1))=(b4v tail x (o.take j)&&!(a8u x r)):=by
 obtain ⟨hj,rfl⟩:=List.getElem?_eq_some_iff.1 h
 unfold b4v
 rw [List.take_succ_eq_append_getElem hj,List.any_append]
 simp [Bool.and_assoc]
attribute [local irreducible] a0z a1p AWp Nx awM
theorem c2L(X:Nat->Prop)(l s:List Rg)(tail:Int)(hn:l.Nodup)(hp:s.Perm l)(hs:s.Pairwise (fun a b=>a6T a b=true))(hl:l.length<=1000):a0b (E0 X) 68 [.sl 10 (l.map rgA),.int .i64 tail] []
  (fun r H'=>r=.sl 10 ((a7M tail s).reverse.map rgA)/\H'=[]):=by
 refine a0b.frz0 (e:=63) 10 ?_ rfl (by kernel_rfl) (a1d _)
 have hsl:s.length=l.length:=hp.length_eq
 refine Z0 Proofs.Tryz.func68 rfl Proofs.Tryz.ntmps68 (by kernel_rfl) rfl ?_
 repeat' (first|refine Zs rfl ?_|refine Zc rfl ?_)
 refine Qa rfl ?_
 refine b3T (n:=l.length) (el:=bA false) rfl (by rw [List.length_map]) (by rw [List.length_map]) ?_ ?_ rfl rfl rfl rfl rfl rfl (.inr rfl) (.inr rfl) rfl rfl ?_
 ·show 1 * _<=281474976710656
  omega
 ·show _<=9223372036854775807
  omega
 refine nx rfl rfl ?_
 repeat' (first|refine Zs rfl ?_|refine Zh ?_|refine Ql ?_|refine Qo rfl ?_)
 have hld:(l.length:Int)=((l.map rgA).length:Int):=by rw [List.length_map]
 refine a1B (I:=fun _:List Bool=>True) (σ:=fun u=>⟨[(5,.own 1 0 (a7M tail s).length)],[some (.arr (u.map bA) 4),some (.arr ((a7M tail s).reverse.map rgA) 63)]⟩) ?_ ?_
 ·refine Zc rfl ?_
  refine a0s (fun q:Nat × List Bool=>⟨[(0,.sl 10 (l.map rgA)),(1,.int .i64 tail),(5,.own 1 0 (a7M tail (s.take q.1)).length),(6,.own 0 0 l.length),(17,.int .i64 (l.length:Int)),(18,.int .i64 (q.1:Int))],[some (.arr (q.2.map bA) 4),some (.arr ((a7M tail (s.take q.1)).reverse.map rgA) 63)]⟩) (fun q=>q.1<=l.length/\Used l s q.1 q.2) (fun q=>l.length - q.1) (0,List.replicate l.length false) ⟨Nat.zero_le _,b8p l s⟩ ?_ ?_
  ·refine (imp_nil 5 63 rfl).trans (a0j 2 (Nat.zero_le _) (a4m _ []) ?_ (Nat.le_refl 2) ?_)
   ·rw [List.map_replicate];rfl
   ·exact a0a ⟨rfl,a1d l⟩ (a0a ⟨rfl,trivial⟩ (a0a ⟨rfl,Nat.lt_succ_self 1⟩ (a0a ⟨rfl,Nat.zero_lt_succ 1⟩ (a0a ⟨by rw [hld];rfl,trivial⟩ (a0a ⟨rfl,trivial⟩ a0l)))))
  rintro ⟨k,u⟩ ⟨hk,hu⟩
  replace hk:k<=l.length:=hk
  replace hu:Used l s k u:=hu
  show AWp _ _ _ _ _ ⟨[(0,.sl 10 (l.map rgA)),(1,.int .i64 tail),(5,.own 1 0 (a7M tail (s.take k)).length),(6,.own 0 0 l.length),(17,.int .i64 (l.length:Int)),(18,.int .i64 (k:Int))],[some (.arr (u.map bA) 4),some (.arr ((a7M tail (s.take k)).reverse.map rgA) 63)]⟩
  repeat' (first|refine Zs rfl ?_|refine Zc rfl ?_)
  refine a0g rfl (fun h1=>?_) (fun h1=>?_)
  ·have hkl:k<s.length:=by omega
   obtain ⟨x,hx,_,hxa⟩:=c4N hkl
   have hsn:=b6u (tail:=tail) hx
   have hol:=b3k tail (s.take k)
   rw [List.length_take] at hol
   have hkw:IntKind.i64.wrap ((k:Int)+1)=((k+1:Nat):Int):=a0r (by omega) (by omega)
   obtain ⟨b,hb1,hb2,hbl,hu2⟩:=b8o a8Q b1l hn hp hs hx hu
   have hul:=hu.1
   generalize hout:a7M tail (s.take k)=out at *
   repeat' (first|refine Ql ?_|refine Qm ?_)
   refine Zc rfl ?_
   repeat' (first|refine Zs rfl ?_|refine Zh ?_|refine Ql ?_|refine Qo rfl ?_)
   refine a1B (I:=fun _:Unit=>True) (σ:=fun _=>⟨[(0,.sl 10 (l.map rgA)),(1,.int .i64 tail),(5,.own 1 0 out.length),(6,.own 0 0 l.length),(7,.int .i64 (b:Int)),(17,.int .i64 (l.length:Int)),(18,.int .i64 (k:Int))],[some (.arr (u.map bA) 4),some (.arr (out.reverse.map rgA) 63)]⟩) ?_ ?_
   ·refine Zc rfl ?_
    refine a0s (fun i:Nat=>⟨[(0,.sl 10 (l.map rgA)),(1,.int .i64 tail),(5,.own 1 0 out.length),(6,.own 0 0 l.length),(7,.int .i64 (b8R l u i)),(17,.int .i64 (l.length:Int)),(18,.int .i64 (k:Int)),(21,.int .i64 (l.length:Int)),(22,.int .i64 (i:Int))],[some (.arr (u.map bA) 4),some (.arr (out.reverse.map rgA) 63)]⟩) (fun i=>i<=l.length) (fun i=>l.length - i) 0 (Nat.zero_le _) ?_ ?_
    ·refine a0j 2 (Nat.zero_le _) (a4m u out.reverse) rfl (Nat.le_refl 2) ?_
     exact a0a ⟨rfl,a1d l⟩ (a0a ⟨rfl,trivial⟩ (a0a ⟨rfl,Nat.lt_succ_self 1⟩ (a0a ⟨rfl,Nat.zero_lt_succ 1⟩ (a0a ⟨rfl,trivial⟩ (a0a ⟨rfl,trivial⟩ (a0a ⟨rfl,trivial⟩ (a0a ⟨by rw [hld];rfl,trivial⟩ (a0a ⟨rfl,trivial⟩ a0l))))))))
    intro i hi
    repeat' (first|refine Zs rfl ?_|refine Zc rfl ?_)
    refine a0g rfl (fun h2=>?_) (fun h2=>?_)
    ·have hil:i<l.length:=by omega
     have hiu:i<u.length:=by omega
     obtain ⟨y,hy,_,hya⟩:=c4N hil
     have hiw:IntKind.i64.wrap ((i:Int)+1)=((i+1:Nat):Int):=a0r (by omega) (by omega)
     obtain ⟨f,hf⟩:∃f,u[i]?=some f:=⟨_,List.getElem?_eq_getElem hiu⟩
     have hfa:(u.map bA)[i]?=some (.bool f):=by rw [List.getElem?_map,hf];rfl
     have hbs:b8R l u (i+1)=match f with
      | true=>b8R l u i
      | false=>match a8t a6T l u i with
       | none=>(i:Int)
       | some c=>match l[c]? with
        | some z=>if a6T y z=true then (i:Int) else (c:Int)
        | none=>(c:Int):=by
      unfold b8R
      simp only [a8t,hy,hf]
      cases f with
      | true=>rfl
      | false =>
       dsimp only
       cases a8t a6T l u i with
       | none=>rfl
       | some c =>
        dsimp only
        cases l[c]? with
        | none=>rfl
        | some z=>dsimp only;cases a6T y z<;>rfl
     have hend:∀(n:Int),b8R l u (i+1)=n->∀sl,get sl 0=.sl 10 (l.map rgA)->get sl 1=.int .i64 tail->get sl 5=.own 1 0 out.length->get sl 6=.own 0 0 l.length->get sl 7=.int .i64 n->get sl 17=.int .i64 (l.length:Int)->get sl 18=.int .i64 (k:Int)->get sl 21=.int .i64 (l.length:Int)->get sl 22=.int .i64 ((i+1:Nat):Int) ->
       ∃j,j<=l.length/\l.length - j<l.length - i/\Imp (E0 X) 97 0 ⟨sl,[some (.arr (u.map bA) 4),some (.arr (out.reverse.map rgA) 63)]⟩ ⟨[(0,.sl 10 (l.map rgA)),(1,.int .i64 tail),(5,.own 1 0 out.length),(6,.own 0 0 l.length),(7,.int .i64 (b8R l u j)),(17,.int .i64 (l.length:Int)),(18,.int .i64 (k:Int)),(21,.int .i64 (l.length:Int)),(22,.int .i64 (j:Int))],[some (.arr (u.map bA) 4),some (.arr (out.reverse.map rgA) 63)]⟩:=by
      intro n hn2 sl g0 g1 g5 g6 g7 g17 g18 g21 g22
      refine ⟨i+1,by omega,by omega,?_⟩
      rw [hn2]
      exact a0j 2 (Nat.zero_le _) (a4m u out.reverse) rfl (Nat.le_refl 2) (a0a ⟨g0,a1d l⟩ (a0a ⟨g1,trivial⟩ (a0a ⟨g5,Nat.lt_succ_self 1⟩ (a0a ⟨g6,Nat.zero_lt_succ 1⟩ (a0a ⟨g7,trivial⟩ (a0a ⟨g17,trivial⟩ (a0a ⟨g18,trivial⟩ (a0a ⟨g21,trivial⟩ (a0a ⟨g22,trivial⟩ a0l)))))))))
     repeat' (first|refine Zs rfl ?_|refine Zc rfl ?_)
     refine a0p [] [] (by exact rfl) (by kernel_rfl) ?_
     repeat' (refine Zd rfl ?_)
     apply Qd rfl rfl rfl rfl
     ·refine a5U (j:=i) rfl hil (Nat.zero_add _) rfl rfl rfl rfl rfl rfl rfl rfl ?_
      exact QX rfl rfl ⟨rfl,rfl⟩
     skip
     apply ds rfl rfl rfl rfl
     ·refine a4K rfl rfl hfa rfl rfl rfl ?_
      exact nx rfl rfl ⟨rfl,rfl⟩
     cases f with
     | true =>
      repeat' (first|refine Zs rfl ?_|refine Zc rfl ?_|refine Zd rfl ?_)
      refine hend _ hbs _ ?_ ?_ ?_ ?_ ?_ ?_ ?_ ?_ ?_
      all_goals first|rfl|exact congrArg (AV.int .i64) hiw
     | false =>
      dsimp only at hbs
      have hbi:b8R l u i=match a8t a6T l u i with
       | none=>-1
       | some b=>(b:Int):=rfl
      rcases b2J a8Q b1l l u i with ⟨h3,_⟩|⟨c,z,h3,h4,h5,_⟩
      ·rw [h3] at hbs hbi
       dsimp only at hbs hbi
       rw [hbi]
       repeat' (first|refine Zs rfl ?_|refine Zc rfl ?_|refine Zd rfl ?_)
       refine hend _ hbs _ ?_ ?_ ?_ ?_ ?_ ?_ ?_ ?_ ?_
       all_goals first|rfl|exact congrArg (AV.int .i64) hiw
      rw [h3] at hbs hbi
      dsimp only at hbs hbi
      rw [h5] at hbs
      dsimp only at hbs
      rw [hbi]
      repeat' (refine Zd rfl ?_)
      apply ds rfl rfl rfl rfl
      ·refine a0C hy rfl rfl rfl rfl rfl rfl rfl (by first|rfl|omega) rfl ?_
       exact nx rfl rfl ⟨rfl,rfl⟩
      repeat' (refine Zd rfl ?_)
      apply ds rfl rfl rfl rfl
      ·refine a0C h5 rfl rfl rfl rfl rfl rfl rfl (by first|rfl|omega) rfl ?_
       exact nx rfl rfl ⟨rfl,rfl⟩
      repeat' (refine Zd rfl ?_)
      refine Zq rfl rfl rfl rfl (b8O y z X) rfl ?_
      cases hbf:a6T y z with
      | true =>
       rw [hbf,if_pos rfl] at hbs
       repeat' (first|refine Zs rfl ?_|refine Zc rfl ?_|refine Zd rfl ?_)
       refine hend _ hbs _ ?_ ?_ ?_ ?_ ?_ ?_ ?_ ?_ ?_
       all_goals first|rfl|exact congrArg (AV.int .i64) hiw
      | false =>
       rw [hbf,if_neg (by decide)] at hbs
       repeat' (first|refine Zs rfl ?_|refine Zc rfl ?_|refine Zd rfl ?_)
       refine hend _ hbs _ ?_ ?_ ?_ ?_ ?_ ?_ ?_ ?_ ?_
       all_goals first|rfl|exact congrArg (AV.int .i64) hiw
    have hii:i=l.length:=by omega
    repeat' (refine Zc rfl ?_)
    refine ⟨rfl,(),trivial,?_⟩
    have hbb:b8R l u i=(b:Int):=by unfold b8R;rw [hii,hb1]
    rw [hbb]
    exact kk 2 (a4m u out.reverse) rfl ⟨a1d l,trivial,Nat.lt_succ_self 1,Nat.zero_lt_succ 1,trivial,trivial,trivial,trivial⟩
   intro _ _
   have hba:(u.map bA)[b]?=some (bA u[b]!):=by rw [List.getElem?_map,List.getElem?_eq_getElem (show b<u.length by omega),getElem!_pos u b (by omega)];rfl
   repeat' (first|refine Zs rfl ?_|refine Zc rfl ?_)
   refine Qa rfl ?_
   refine a5U (j:=b) rfl hbl (Nat.zero_add _) rfl rfl rfl rfl rfl rfl rfl rfl ?_
   refine nx rfl rfl ?_
   skip
   refine Qb rfl ?_
   refine c5h (p:=true) rfl rfl rfl rfl hba rfl rfl rfl rfl rfl ?_
   refine nx rfl rfl ?_
   repeat' (first|refine Zs rfl ?_|refine Zc rfl ?_|refine Qh ?_)
   refine Qa rfl ?_
   refine a0C hb2 rfl rfl rfl rfl rfl rfl rfl (by first|rfl|omega) rfl ?_
   refine nx rfl rfl ?_
   repeat' (refine Zs rfl ?_)
   have hxi:∀{n},a0d n (.fp (rgL x)):=a3d x
   refine Zh (Kz 2 [0,1,5,6,9,17,18] 2 (a4m (u.set b true) out.reverse) rfl rfl ⟨a1d l,trivial,Nat.lt_succ_self 1,Nat.zero_lt_succ 1,hxi,trivial,trivial,trivial⟩ ?_)
   have hls:b6v tail out x=if (decide (tail<=x.h.seq)&&!(out.any (a8u x)))=true then out++[x] else out:=rfl
   have hrl:out.reverse.length=out.length:=List.length_reverse
   have hgd:b4v tail x out.reverse=(decide (tail<=x.h.seq)&&!(out.any (a8u x))):=by unfold b4v;rw [List.any_reverse]
   have hg0:b4v tail x (out.reverse.take 0)=decide (tail<=x.h.seq):=by simp [b4v]
   rw [<- hgd] at hls
   rw [<- hrl]
   generalize hor:out.reverse=o at *
   repeat' (first|refine Zs rfl ?_|refine Zh ?_|refine Ql ?_|refine Qo rfl ?_)
   refine a1B (I:=fun _:Unit=>True) (σ:=fun _=>⟨[(0,.sl 10 (l.map rgA)),(1,.int .i64 tail),(5,.own 1 0 o.length),(6,.own 0 0 l.length),(9,.fp (rgL x)),(10,.bool (b4v tail x o)),(17,.int .i64 (l.length:Int)),(18,.int .i64 (k:Int))],[some (.arr ((u.set b true).map bA) 4),some (.arr (o.map rgA) 63)]⟩) ?_ ?_
   ·refine Zc rfl ?_
    refine a0s (fun j:Nat=>⟨[(0,.sl 10 (l.map rgA)),(1,.int .i64 tail),(5,.own 1 0 o.length),(6,.own 0 0 l.length),(9,.fp (rgL x)),(10,.bool (b4v tail x (o.take j))),(17,.int .i64 (l.length:Int)),(18,.int .i64 (k:Int)),(59,.own 1 0 o.length),(60,.int .i64 (o.length:Int)),(61,.int .i64 (j:Int))],[some (.arr ((u.set b true).map bA) 4),some (.arr (o.map rgA) 63)]⟩) (fun j=>j<=o.length) (fun j=>o.length - j) 0 (Nat.zero_le _) ?_ ?_
    ·refine a0j 2 (Nat.zero_le _) (a4m (u.set b true) o) rfl (Nat.le_refl 2) ?_
     exact a0a ⟨rfl,a1d l⟩ (a0a ⟨rfl,trivial⟩ (a0a ⟨rfl,Nat.lt_succ_self 1⟩ (a0a ⟨rfl,Nat.zero_lt_succ 1⟩ (a0a ⟨rfl,hxi⟩ (a0a ⟨by rw [hg0];rfl,trivial⟩ (a0a ⟨rfl,trivial⟩ (a0a ⟨rfl,trivial⟩ (a0a ⟨rfl,Nat.lt_succ_self 1⟩ (a0a ⟨rfl,trivial⟩ (a0a ⟨rfl,trivial⟩ a0l))))))))))
    intro j hj
    repeat' (first|refine Zs rfl ?_|refine Zc rfl ?_)
    refine a0g rfl (fun h2=>?_) (fun h2=>?_)
    ·have hjl:j<o.length:=by omega
     obtain ⟨y,hy,_,hya⟩:=c4N hjl
     have hjw:IntKind.i64.wrap ((j:Int)+1)=((j+1:Nat):Int):=a0r (by omega) (by omega)
     have hgs:=b5Z (tail:=tail) (x:=x) hy
     repeat' (refine Zc rfl ?_)
     refine Qa rfl ?_
     refine a5U (j:=j) rfl hjl (Nat.zero_add _) rfl rfl rfl rfl rfl rfl rfl rfl ?_
     refine nx rfl rfl ?_
     skip
     refine Qa rfl ?_
     refine a4K rfl rfl hya rfl rfl rfl ?_
     refine nx rfl rfl ?_
     repeat' (refine Zs rfl ?_)
     refine Zh (Kz 2 [0,1,5,6,9,10,12,17,18,59,60,61] 2 (a4m (u.set b true) o) rfl rfl ⟨a1d l,trivial,Nat.lt_succ_self 1,Nat.zero_lt_succ 1,hxi,trivial,a3d y,trivial,trivial,Nat.lt_succ_self 1,trivial,trivial,trivial⟩ ?_)
     have hend:∀(n:Bool),b4v tail x (o.take (j+1))=n->∀sl,get sl 0=.sl 10 (l.map rgA)->get sl 1=.int .i64 tail->get sl 5=.own 1 0 o.length->get sl 6=.own 0 0 l.length->get sl 9=.fp (rgL x)->get sl 10=.bool n->get sl 17=.int .i64 (l.length:Int)->get sl 18=.int .i64 (k:Int)->get sl 59=.own 1 0 o.length->get sl 60=.int .i64 (o.length:Int)->get sl 61=.int .i64 ((j+1:Nat):Int) ->
       ∃i,i<=o.length/\o.length - i<o.length - j/\Imp (E0 X) 97 0 ⟨sl,[some (.arr ((u.set b true).map bA) 4),some (.arr (o.map rgA) 63)]⟩ ⟨[(0,.sl 10 (l.map rgA)),(1,.int .i64 tail),(5,.own 1 0 o.length),(6,.own 0 0 l.length),(9,.fp (rgL x)),(10,.bool (b4v tail x (o.take i))),(17,.int .i64 (l.length:Int)),(18,.int .i64 (k:Int)),(59,.own 1 0 o.length),(60,.int .i64 (o.length:Int)),(61,.int .i64 (i:Int))],[some (.arr ((u.set b true).map bA) 4),some (.arr (o.map rgA) 63)]⟩:=by
      intro n hn2 sl g0 g1 g5 g6 g9 g10 g17 g18 g59 g60 g61
      refine ⟨j+1,by omega,by omega,?_⟩
      rw [hn2]
      exact a0j 2 (Nat.zero_le _) (a4m (u.set b true) o) rfl (Nat.le_refl 2) (a0a ⟨g0,a1d l⟩ (a0a ⟨g1,trivial⟩ (a0a ⟨g5,Nat.lt_succ_self 1⟩ (a0a ⟨g6,Nat.zero_lt_succ 1⟩ (a0a ⟨g9,hxi⟩ (a0a ⟨g10,trivial⟩ (a0a ⟨g17,trivial⟩ (a0a ⟨g18,trivial⟩ (a0a ⟨g59,Nat.lt_succ_self 1⟩ (a0a ⟨g60,trivial⟩ (a0a ⟨g61,trivial⟩ a0l)))))))))))
     have hcl:a8u x y=(decide (y.h.seq=x.h.seq) || ovB y.l y.h.slot x.l x.h.slot):=rfl
     rw [hcl] at hgs
     repeat' (first|refine Zs rfl ?_|refine Zc rfl ?_)
     cases hg:b4v tail x (o.take j) with
     | false =>
      rw [hg] at hgs
      repeat' (first|refine Zs rfl ?_|refine Zc rfl ?_)
      refine hend _ hgs _ ?_ ?_ ?_ ?_ ?_ ?_ ?_ ?_ ?_ ?_ ?_
      all_goals first|rfl|exact congrArg (AV.int .i64) hjw
     | true =>
      rw [hg] at hgs
      repeat' (refine Zs rfl ?_)
      by_cases hsq:y.h.seq=x.h.seq
      ·rw [decide_eq_true hsq] at hgs
       rw [decide_eq_false (fun h=>h hsq:¬ y.h.seq≠x.h.seq)]
       repeat' (first|refine Zs rfl ?_|refine Zc rfl ?_)
       refine hend _ hgs _ ?_ ?_ ?_ ?_ ?_ ?_ ?_ ?_ ?_ ?_ ?_
       all_goals first|rfl|exact congrArg (AV.int .i64) hjw
      rw [decide_eq_false hsq] at hgs
      rw [decide_eq_true (show y.h.seq≠x.h.seq from hsq)]
      repeat' (refine Zs rfl ?_)
      refine Zp rfl rfl (a8D y.l y.h.slot x.l x.h.slot X) rfl ?_
      repeat' (first|refine Zs rfl ?_|refine Zc rfl ?_)
      refine hend _ hgs _ ?_ ?_ ?_ ?_ ?_ ?_ ?_ ?_ ?_ ?_ ?_
      all_goals first|rfl|exact congrArg (AV.int .i64) hjw
    have hjj:j=o.length:=by omega
    repeat' (refine Zc rfl ?_)
    refine ⟨rfl,(),trivial,?_⟩
    rw [hjj,List.take_length]
    exact kk 2 (a4m (u.set b true) o) rfl ⟨a1d l,trivial,Nat.lt_succ_self 1,Nat.zero_lt_succ 1,hxi,trivial,trivial,trivial,trivial⟩
   intro _ _
   repeat' (first|refine Zs rfl ?_|refine Zc rfl ?_)
   cases hg:b4v tail x o with
   | false =>
    rw [hg] at hls
    have hls2:b6v tail out x=out:=by rw [hls];rfl
    repeat' (first|refine Zs rfl ?_|refine Zc rfl ?_)
    refine ⟨(k+1,u.set b true),⟨by show k+1<=l.length;omega,hu2⟩,by show l.length - (k+1)<l.length - k;omega,?_⟩
    show Imp (E0 X) 97 0 _ ⟨[(0,.sl 10 (l.map rgA)),(1,.int .i64 tail),(5,.own 1 0 (a7M tail (s.take (k+1))).length),(6,.own 0 0 l.length),(17,.int .i64 (l.length:Int)),(18,.int .i64 ((k+1:Nat):Int))],[some (.arr ((u.set b true).map bA) 4),some (.arr ((a7M tail (s.take (k+1))).reverse.map rgA) 63)]⟩
    rw [hsn,hls2,hor,<- hrl]
    exact a0j 2 (Nat.zero_le _) (a4m (u.set b true) o) rfl (Nat.le_refl 2) (a0a ⟨rfl,a1d l⟩ (a0a ⟨rfl,trivial⟩ (a0a ⟨rfl,Nat.lt_succ_self 1⟩ (a0a ⟨rfl,Nat.zero_lt_succ 1⟩ (a0a ⟨rfl,trivial⟩ (a0a ⟨congrArg (AV.int .i64) hkw,trivial⟩ a0l))))))
   | true =>
    rw [hg] at hls
    have hls2:b6v tail out x=out++[x]:=by rw [hls];rfl
    refine Zc rfl (Zc rfl ?_)
    refine Zs rfl ?_
    refine Qa rfl ?_
    refine a1o rfl rfl rfl rfl rfl rfl rfl (.inl rfl) rfl (.inl rfl) ?_
    refine nx rfl rfl ?_
    repeat' (refine Zs rfl ?_)
    refine Qa rfl ?_
    have hl1:[rgA x]++o.map rgA=(x::o).map rgA:=rfl
    have hl2:[rgA x].length+(o.map rgA).length=(x::o).length:=by simp only [List.length_map,List.length_cons,List.length_nil];omega
    have hl3:(x::o).length<=1001:=by simp only [List.length_cons];omega
    have hone:a2R (o.map rgA):=fun y hy=>by
     obtain ⟨b,_,rfl⟩:=List.mem_map.1 hy;exact ⟨rfl,rfl⟩
    have hol2:o.length=(o.map rgA).length:=(List.length_map _).symm
    refine a0V (oid:=some 2) (es:=[rgA x]) (out:=(x::o).map rgA) (n:=(x::o).length) (a0M rfl rfl) (a0B rfl rfl (by kernel_rfl) (by omega) (by rw [List.drop_zero,List.take_of_length_le (by omega)])) (hone) (hl1) (hl2) (by show _<=9223372036854775807;omega) (by show _*80<=_;omega) rfl rfl rfl rfl rfl rfl rfl rfl ?_
    refine nx rfl rfl ?_
    repeat' (first|refine Zs rfl ?_|refine Zc rfl ?_)
    refine ⟨(k+1,u.set b true),⟨by show k+1<=l.length;omega,hu2⟩,by show l.length - (k+1)<l.length - k;omega,?_⟩
    show Imp (E0 X) 97 0 _ ⟨[(0,.sl 10 (l.map rgA)),(1,.int .i64 tail),(5,.own 1 0 (a7M tail (s.take (k+1))).length),(6,.own 0 0 l.length),(17,.int .i64 (l.length:Int)),(18,.int .i64 ((k+1:Nat):Int))],[some (.arr ((u.set b true).map bA) 4),some (.arr ((a7M tail (s.take (k+1))).reverse.map rgA) 63)]⟩
    rw [hsn,hls2,List.reverse_append,hor]
    have hlx:(out++[x]).length=(x::o).length:=by simp only [List.length_append,List.length_cons,List.length_nil];omega
    rw [hlx]
    refine a0S 1 [3] (H':=[some (.arr ((u.set b true).map bA) 4),some (.arr ((x::o).map rgA) 63)]) (os:=[.arr ((x::o).map rgA) 63]) (Nat.zero_le _) ?_ (by simp) (by simp) ?_ rfl ?_ ?_ ?_
    ·exact Nat.le_of_ble_eq_true rfl
    ·intro j' o' ho'
     match j',ho' with
     | 0,ho'=>cases ho';exact a0h fun _=>trivial
    ·rfl
    ·exact a0a (a0v rfl (a1d l)) (a0a (a0v rfl trivial) (a0a (a0L rfl) (a0a (a0v rfl (Nat.zero_lt_succ 0)) (a0a (a0v rfl trivial) (a0a (a0v (congrArg (AV.int .i64) hkw) trivial) a0l)))))
    ·exact a0E rfl (a0A 1 a2m (a1d _)) a0T
  have hkk:k=l.length:=by omega
  repeat' (refine Zc rfl ?_)
  refine ⟨rfl,u,trivial,?_⟩
  have hlt:s.take k=s:=List.take_of_length_le (by omega)
  rw [hlt]
  exact kk 2 (a4m u _) rfl ⟨Nat.lt_succ_self 1,trivial⟩
 intro u _
 repeat' (first|refine Zs rfl ?_|refine Zc rfl ?_)
 exact a0c ⟨_,rfl,1,_,rfl,by rw [List.length_map,List.length_reverse],rfl⟩
theorem a7I{s:Sb}(h:sbB s=true):(∀l∈a0W s,a1a l=true)/\((a0W s).map (·.id)).Nodup/\s.fo.length<=2:=by
 unfold sbB at h
 simp only [Bool.and_eq_true,decide_eq_true_eq] at h
 obtain ⟨_,_,_,_,_,_,_,_,ht,hp⟩:=h
 unfold phB at hp
 unfold a0W
 split at hp
 ·simp only [Bool.and_eq_true,List.isEmpty_iff] at hp
  rw [hp.2]
  exact ⟨fun l hl=>by rw [List.mem_singleton.1 hl];exact ht,by simp,by simp⟩
 split at hp
 ·simp only [Bool.and_eq_true,decide_eq_true_eq] at hp
  obtain ⟨_,h1,h2,h3⟩:=hp
  rw [h2]
  refine ⟨fun l hl=>?_,?_,by simp⟩
  ·simp only [List.mem_cons,List.not_mem_nil,or_false] at hl
   rcases hl with rfl|rfl
   ·exact ht
   ·exact h1
  ·simpa using h3
 split at hp
 ·simp only [Bool.and_eq_true,decide_eq_true_eq] at hp
  obtain ⟨_,h1,h2⟩:=hp
  unfold b1f at h2
  split at h2
  ·rename_i a b hab
   simp only [Bool.and_eq_true,decide_eq_true_eq] at h2
   obtain ⟨h3,h4,h5,h6,h7,_⟩:=h2
   rw [hab]
   refine ⟨fun l hl=>?_,?_,by simp⟩
   ·simp only [List.mem_cons,List.not_mem_nil,or_false] at hl
    rcases hl with rfl|rfl|rfl
    ·exact ht
    ·rw [h3];exact h1
    ·exact h4
   subst h3
   simp only [List.map_cons,List.map_nil,List.nodup_cons,List.mem_cons,List.not_mem_nil,or_false,not_or,not_false_eq_true,List.nodup_nil,and_true]
   exact ⟨⟨fun e=>h6 e.symm,fun e=>h7 e.symm⟩,h5⟩
  ·cases h2
 ·cases hp
theorem b5R{l:La}{slot:Int}{o:Option Hd}{h:Hd}(e:b4s l slot o=some h):o=some h/\h.ver=l.ver/\h.lay=l.id/\h.slot=slot:=by
 unfold b4s at e
 split at e
 ·cases e
 split at e
 ·rename_i h1 h2
  cases e
  exact ⟨rfl,h2⟩
 ·cases e
theorem a7C{img:List UInt8}{l:La}{slot:Int}{h:Hd}(e:a2q img l slot=some h):a2i l slot/\hdB h=true/\h.ver=l.ver/\h.lay=l.id/\h.slot=slot:=by
 unfold a2q at e
 split at e
 ·rename_i h1
  obtain ⟨h2,h3⟩:=b5R e
  exact ⟨h1,(b4o h2).1,h3⟩
 ·cases e
theorem a8V{hdr:La->Int->Option Hd}{l:La}{n:Nat}{r:Rg}:r∈a6D hdr l n ↔ ∃i:Nat,i<n/\hdr l (i:Int)=some r.h/\r.l=l:=by
 unfold a6D
 rw [List.mem_filterMap]
 constructor
 ·rintro ⟨i,hi,h⟩
  rw [Option.map_eq_some_iff] at h
  obtain ⟨a,h1,rfl⟩:=h
  exact ⟨i,List.mem_range.1 hi,h1,rfl⟩
 ·rintro ⟨i,hi,h,rfl⟩
  exact ⟨i,List.mem_range.2 hi,by rw [h];rfl⟩
theorem b2L{hdr:La->Int->Option Hd}{ls:List La}{r:Rg}:r∈a3J hdr ls ↔ r.l∈ls/\∃i:Nat,i<r.l.regs.toNat/\hdr r.l (i:Int)=some r.h:=by
 unfold a3J
 rw [List.mem_flatMap]
 constructor
 ·rintro ⟨l,hl,h⟩
  obtain ⟨i,hi,h1,rfl⟩:=a8V.1 h
  exact ⟨hl,i,hi,h1⟩
 ·rintro ⟨hl,i,hi,h⟩
  exact ⟨r.l,hl,a8V.2 ⟨i,hi,h,rfl⟩⟩
structure c5A(ls:List La)(r:Rg):Prop where
 mem:r.l∈ls
 slot:a2i r.l r.h.slot
 hd:hdB r.h=true
 ver:r.h.ver=r.l.ver
 lay:r.h.lay=r.l.id
theorem b0l{img:List UInt8}{ls:List La}{r:Rg}(h:r∈a3J (a2q img) ls):c5A ls r/\a2q img r.l r.h.slot=some r.h:=by
 obtain ⟨hl,i,hi,h1⟩:=b2L.1 h
 obtain ⟨h2,h3,h4,h5,h6⟩:=a7C h1
 rw [<- h6] at h1 h2
 exact ⟨⟨hl,h2,h3,h4,h5⟩,h1⟩
theorem c4l{ls:List La}(hn:(ls.map (·.id)).Nodup){a b:La}(ha:a∈ls)(hb:b∈ls)(h:a.id=b.id):a=b:=by
 induction ls with
 | nil=>cases ha
 | cons x ls ih =>
  rw [List.map_cons,List.nodup_cons] at hn
  rcases List.mem_cons.1 ha with rfl|ha1
  ·rcases List.mem_cons.1 hb with rfl|hb
   ·rfl
   ·exact absurd (List.mem_map.2 ⟨b,hb,h.symm⟩) hn.1
  rcases List.mem_cons.1 hb with rfl|hb
  ·exact absurd (show b.id∈ls.map (·.id) from List.mem_map.2 ⟨a,ha1,h⟩) hn.1
  ·exact ih hn.2 ha1 hb
theorem c1q{img:List UInt8}{ls:List La}(hn:(ls.map (·.id)).Nodup){a b:Rg}(ha:a∈a3J (a2q img) ls)(hb:b∈a3J (a2q img) ls)(h1:a.l.id=b.l.id)(h2:a.h.slot=b.h.slot):a=b:=by
 obtain ⟨h3,h4⟩:=b0l ha
 obtain ⟨h5,h6⟩:=b0l hb
 have hl:=c4l hn h3.mem h5.mem h1
 rw [hl,h2,h6] at h4
 obtain ⟨ah,al⟩:=a
 obtain ⟨bh,bl⟩:=b
 simp only [Option.some.injEq] at h4 hl
 rw [<- h4,hl]
theorem c1r{img:List UInt8}{ls:List La}(hn:(ls.map (·.id)).Nodup){a b:Rg}(ha:a∈a3J (a2q img) ls)(hb:b∈a3J (a2q img) ls)(hab:a≠b):a6T a b=true\/a6T b a=true:=by
 rw [a5r,a5r]
 have:=c1q hn ha hb
 by_cases h1:a.l.id=b.l.id
 ·have h2:a.h.slot≠b.h.slot:=fun h2=>hab (this h1 h2)
  omega
 ·omega
theorem a4V{α:Type}{f:Nat->Option α}(hf:∀i j x,f i=some x->f j=some x->i=j):∀n,((List.range n).filterMap f).Nodup
 | 0=>by simp
 | n+1=>by
  rw [List.range_succ,List.filterMap_append,List.nodup_append]
  refine ⟨a4V hf n,?_,fun a ha b hb=>?_⟩
  ·cases h:f n with
   | none=>simp [h]
   | some x=>simp [h]
  obtain ⟨i,hi,h1⟩:=List.mem_filterMap.1 ha
  obtain ⟨j,hj,h2⟩:=List.mem_filterMap.1 hb
  rw [List.mem_singleton.1 hj] at h2
  rintro rfl
  have:=hf i n a h1 h2
  have:=List.mem_range.1 hi
  omega
theorem a7u{img:List UInt8}:∀{ls:List La},(ls.map (·.id)).Nodup->(a3J (a2q img) ls).Nodup
 | [],_=>by simp [a3J]
 | l::ls,h=>by
  rw [List.map_cons,List.nodup_cons] at h
  have e:a3J (a2q img) (l::ls)=a6D (a2q img) l l.regs.toNat++a3J (a2q img) ls:=by simp [a3J]
  rw [e,List.nodup_append]
  refine ⟨?_,a7u h.2,fun a ha b hb=>?_⟩
  ·refine a4V (fun i j x h1 h2=>?_) _
   rw [Option.map_eq_some_iff] at h1 h2
   obtain ⟨a,h1,rfl⟩:=h1
   obtain ⟨b,h2,h3⟩:=h2
   have e1:=(a7C h1).2.2.2.2
   have e2:=(a7C h2).2.2.2.2
   have e3:b=a:=congrArg Rg.h h3
   rw [e3] at e2
   omega
  rintro rfl
  obtain ⟨i,_,_,h1⟩:=a8V.1 ha
  obtain ⟨h2,_⟩:=b2L.1 hb
  rw [h1] at h2
  exact h.1 (List.mem_map.2 ⟨l,h2,rfl⟩)
theorem b4P{img:List UInt8}{ls:List La}(hn:(ls.map (·.id)).Nodup){s:List Rg}(h:b5j (a3J (a2q img) ls) s):s.Pairwise (fun a b=>a6T a b=true):=by
 have hnd:s.Nodup:=h.1.nodup_iff.2 (a7u hn)
 rw [List.pairwise_iff_getElem]
 intro i j hi hj hij
 have h1:=h.2 i j hi hj hij
 have hne:s[i]≠s[j]:=List.pairwise_iff_getElem.1 hnd i j hi hj hij
 rcases c1r hn (h.1.mem_iff.1 (List.getElem_mem hi)) (h.1.mem_iff.1 (List.getElem_mem hj)) hne with h2|h2
 ·exact h2
 ·rw [h1] at h2;cases h2
def b4Z:AV:=.fp [.ptr 0 0]
theorem a3j{n:Nat}(h:0<n):a0d n b4Z:=⟨h,trivial⟩
theorem a8a{n:Nat}(h:n<=1073741824):IntKind.i64.wrap ((n:Int).tdiv 64)=((n / 64:Nat):Int):=by
 have e:(n:Int).tdiv 64=((n / 64:Nat):Int):=by
  rw [Int.tdiv_eq_ediv_of_nonneg (by omega)];rfl
 rw [e]
 exact a0r (by omega) (by omega)
def nfB(v:Dv)(l:La):Bool:=!b1e l ((v.image.length / 64:Nat):Int)
def arB(s:List UInt8):AO:=.arr (s.map u8A) 5
theorem b3J{f:Nat->Option Nat}(s:List UInt8):b5i f (arB s) (arB s):=a0A 0 (fun i h=>absurd h (Nat.not_lt_zero i)) (a0h fun _=>a0k)
def padS(s:List UInt8):List UInt8:=s++List.replicate ((59 - s.length%59)%59) 0
def a6r(s:List UInt8)(i:Nat):List UInt8:=s++List.replicate i 0
theorem b3x(s:List UInt8)(i:Nat):(a6r s i).length=s.length+i:=by simp [a6r]
theorem b6Q(s:List UInt8)(i:Nat):a6r s (i+1)=a6r s i++[0]:=by simp [a6r,List.replicate_succ']
theorem b9y(s:List UInt8):a6r s ((59 - s.length%59)%59)=padS s:=rfl
def frN(F seq:Nat)(s:List UInt8)(t:Nat):List UInt8:=a3C 2 seq (F+1+t) ((s.drop (t*59)).take 59)
def tkS(F t n:Nat):List Int:=(List.range n).map fun (i:Nat)=>((F+1+t+i:Nat):Int)
def tkF(F seq:Nat)(s:List UInt8)(t n:Nat):List (List UInt8):=(List.range n).map fun i=>frN F seq s (t+i)
theorem c0m(F t n:Nat):tkS F t (n+1)=tkS F t n++[((F+1+t+n:Nat):Int)]:=by simp [tkS,List.range_succ]
theorem c0l(F seq:Nat)(s:List UInt8)(t n:Nat):tkF F seq s t (n+1)=tkF F seq s t n++[frN F seq s (t+n)]:=by simp [tkF,List.range_succ]
theorem b8j(F t n:Nat):(tkS F t n).length=n:=by simp [tkS]
theorem b8i(F seq:Nat)(s:List UInt8)(t n:Nat):(tkF F seq s t n).length=n:=by simp [tkF]
theorem a5e(l:List (List UInt8)){n:Nat}:a0e n (l.map a6A):=a0h fun _=>b2j
theorem b6K(l:List (List UInt8)):a2R (l.map a6A):=fun y hy=>by
 obtain ⟨b,_,rfl⟩:=List.mem_map.1 hy;exact ⟨rfl,rfl⟩
theorem c1Z(g:Nat->Nat)(s:List UInt8):a1T g [some (arB s)]=[some (arB s)]:=by
 simp [a1T,arB,rnO,a1O (f:=u8A) (fun _=>rfl)]
theorem b5U{F seq:Nat}{s:List UInt8}{t:Nat}:(frN F seq s t).length=64:=a2M (by simp;omega)
theorem c3o{F t n i:Nat}(h:i<n):(tkS F t n)[i]?=some ((F+1+t+i:Nat):Int):=by simp [tkS,h]
theorem c3n{F seq:Nat}{s:List UInt8}{t n i:Nat}(h:i<n):(tkF F seq s t n)[i]?=some (frN F seq s (t+i)):=by simp [tkF,h]
end Go.Abs
namespace Go.Abs
attribute [local irreducible] a0z a1p AWp Nx awM
end Go.Abs
namespace Go.Abs
def boA(b:Bool):AV:=.bool b
attribute [local irreducible] a0z a1p AWp Nx awM
@[simp] theorem b5u{n:Nat}{b:Bool}:a0d n (boA b):=trivial
end Go.Abs
namespace Go.Abs
end Go.Abs
