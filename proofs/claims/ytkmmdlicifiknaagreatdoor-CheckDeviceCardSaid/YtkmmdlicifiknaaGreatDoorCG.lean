/- LogSector: the walk. Joined texts, each with what its own name promises; no condition beyond those stated. -/
import Derived.Test.YtkmmdlicifiknaaGreatDoorCE
import Derived.Test.YtkmmdlicifiknaaGreatDoorCC
import Derived.Test.YtkmmdlicifiknaaGreatDoorCF
import Derived.KernelRfl
import Derived.Lib.AppendZerosOnto
set_option maxHeartbeats 0
set_option maxRecDepth 100000
set_option linter.unusedVariables false
set_option linter.unusedSimpArgs false
namespace Go.Abs
theorem b7I{mig idx:Int}(h1:1<=mig)(h2:mig<=9223372036854775807)(h3:0<=idx)(h4:idx<36) :
  IntKind.i64.wrap (IntKind.i64.wrap (2+IntKind.i64.wrap (IntKind.i64.wrap (1 - mig.tmod 2)*36))+idx)=2+(mig+1)%2*36+idx:=by
 have h5:mig.tmod 2=mig%2:=Int.tmod_eq_emod_of_nonneg (by omega)
 have h6:IntKind.i64.wrap (1 - mig%2)=(mig+1)%2:=by rw [a0r (by omega) (by omega)];omega
 have h7:0<=(mig+1)%2/\(mig+1)%2<2:=by omega
 rw [h5,h6]
 generalize (mig+1)%2=z at *
 have h8:IntKind.i64.wrap (z*36)=z*36:=a0r (by omega) (by omega)
 rw [h8]
 have h9:IntKind.i64.wrap (2+z*36)=2+z*36:=a0r (by omega) (by omega)
 rw [h9]
 exact a0r (by omega) (by omega)
attribute [local irreducible] a0z a1p AWp Nx awM
theorem b0N(X:Nat->Prop)(mig idx:Int)(hm:mig<=9223372036854775807):a0b (E0 X) 40 [.int .i64 mig,.int .i64 idx] [] (fun r H'=>r=.int .i64 (a6W mig idx)/\H'=[]):=by
 refine Z0 Proofs.Tryz.func40 rfl Proofs.Tryz.ntmps40 (by kernel_rfl) rfl ?_
 repeat' (first|refine Zs rfl ?_|refine Zc rfl ?_|refine Zh ?_|refine Qs ?_|((fail_if_success refine QV rfl ?_);refine Qy rfl rfl (fun _=>?_) (fun _=>?_)))
 ·rename_i h1
  refine a0c ⟨_,rfl,?_,?_⟩
  ·simp [a6W,h1]<;>rfl
  ·rfl
 ·rename_i h1 h2
  refine a0c ⟨_,rfl,?_,?_⟩
  ·simp [a6W,h2]<;>rfl
  ·rfl
 rename_i h1 h2
 refine a0g rfl (fun h3=>?_) (fun h3=>?_)
 ·repeat' (first|refine Zs rfl ?_|refine Zc rfl ?_|refine Zh ?_|refine Qs ?_)
  refine a0c ⟨_,rfl,?_,?_⟩
  ·simp [a6W,h3]<;>rfl
  ·rfl
 skip
 repeat' (first|refine Zs rfl ?_|refine Zc rfl ?_|refine Zh ?_|refine Qs ?_)
 refine a0c ⟨_,rfl,?_,?_⟩
 ·refine congrArg (AV.int .i64) ?_
  rw [a6W,if_neg (by omega)]
  exact b7I (by omega) hm (by omega) (by omega)
 ·rfl
deriving instance DecidableEq for La
deriving instance DecidableEq for Pl
theorem b5z{v:Dv}(h:v.Inv):v.check (-1)≠0:=fun hc=>by
 obtain ⟨-,k,hk,-⟩:=a5t h hc
 omega
theorem b3c(l:List Pl):HOk 1 [some (.arr (l.map plA) 89)]:=fun j o ho=>by
 match j,ho with
 | 0,ho=>cases ho;exact a0h fun _=>a3b
theorem b7G(X:Nat->Prop)(v:Dv)(L:Nat)(hL:4736<=L)(hL2:L<=67108864)(hv:Lv L v)(mig:Int)(hm:mig<=9223372036854775807) :
  a0b (E0 X) 67 [.sl 1 (v.image.map u8A),.int .i64 mig] [] (fun r H'=>r=.own 0 0 (a7k v mig).length/\H'=[some (.arr ((a7k v mig).map plA) 89)]):=by
 have hlen:=hv.len
 refine Z0 Proofs.Tryz.func67 rfl Proofs.Tryz.ntmps67 (by kernel_rfl) rfl ?_
 repeat' (first|refine Zs rfl ?_|refine Zc rfl ?_)
 refine a0s (fun p:Nat × List Pl=>⟨[(0,.sl 1 (v.image.map u8A)),(1,.int .i64 mig),(5,.own 0 0 p.2.length),(6,.int .i64 (p.1:Int))],[some (.arr (p.2.map plA) 89)]⟩)
  (fun p=>p.1<=36/\p.2.length<=p.1/\p.2++a5g v mig p.1 (36 - p.1)=a7k v mig) (fun p=>36 - p.1) (0,[]) ⟨by omega,by simp,rfl⟩ ?_ ?_
 ·exact Imp.trans (imp_nil 5 89 rfl) (kk 1 (b3c []) rfl (by simp [a0d,a0e]))
 rintro ⟨i,out⟩ ⟨hi,hol,hr⟩
 have hi:i<=36:=hi
 have hol:out.length<=i:=hol
 have hr:out++a5g v mig i (36 - i)=a7k v mig:=hr
 show AWp _ _ _ _ _ ⟨[(0,.sl 1 (v.image.map u8A)),(1,.int .i64 mig),(5,.own 0 0 out.length),(6,.int .i64 (i:Int))],[some (.arr (out.map plA) 89)]⟩
 have hsc:=fun X=>b0N X mig i hm
 repeat' (first|refine Zs rfl ?_|refine Zc rfl ?_|refine Zh ?_|refine Qs ?_|((fail_if_success refine QV rfl ?_);refine Qy rfl rfl (fun _=>?_) (fun _=>?_)))
 ·rename_i h3
  have hi3:i<36:=by omega
  have hrn:a5g v mig i (36 - i)=match a1F v mig i with
   | none=>[]
   | some p=>p::a5g v mig (i+1) (36 - (i+1)):=by
   have:36 - i=(36 - (i+1))+1:=by omega
   rw [this];rfl
  refine a0g rfl (fun h4=>?_) (fun h4=>?_)
  ·have hk:a6W mig i=((2+(mig.toNat+1)%2*36+i:Nat):Int):=by
    unfold a6W;rw [if_neg (by omega)];omega
   have hk74:2+(mig.toNat+1)%2*36+i<74:=by omega
   generalize 2+(mig.toNat+1)%2*36+i=k at *
   have hc:=a8W hv.inv hv.dead (k:=k) (by omega)
   rw [hk] at hsc
   have hst:a1F v mig i=match b1d ((v.image.drop (k*64)).take 64) k with
    | none=>none
    | some p=>if p.mig=mig/\p.idx=(i:Int) then some p else none:=by
    simp only [a1F]
    rw [hk,if_neg (by simp [hc]),Int.toNat_natCast]
    rfl
   have hbl:((v.image.drop (k*64)).take 64).length=64:=by simp;omega
   have e1:IntKind.i64.wrap ((k:Int)*64)=((k*64:Nat):Int):=a0x (by omega) (by omega) (by omega)
   have e2:IntKind.i64.wrap (((k*64:Nat):Int)+64)=((k*64+64:Nat):Int):=a0x (by omega) (by omega) (by omega)
   repeat' (first|refine Zs rfl ?_|refine Zc rfl ?_|refine Qa rfl ?_)
   refine Cn rfl (a0f (E:=E0 X) (fun X=>hsc X) (by simp [a0e,a0d]) _) rfl rfl ?_
   repeat' (first|refine Zs rfl ?_|refine Zc rfl ?_|refine Qa rfl ?_)
   rw [e1,e2]
   refine a1f (l:=k*64) (h:=k*64+64) (ys:=(v.image.drop (k*64)).take 64) (a0q rfl rfl) (a0q rfl rfl) (by omega) (by omega) (by rw [List.drop_take];congr 1;omega) rfl rfl rfl rfl rfl ?_
   refine nx rfl rfl ?_
   generalize (v.image.drop (k*64)).take 64=bb at *
   repeat' (first|refine Zs rfl ?_|refine Qa rfl ?_)
   refine Ck (fun _=>rfl) rfl (a0f (E:=E0 X) (fun X=>c2T X bb k (by omega) (by omega)) (by simp [a0e,a0d]) _) ?_
   cases hd:b1d bb k with
   | none =>
    rw [hd] at hst
    rw [hst] at hrn
    rw [hrn,List.append_nil] at hr
    show Nx _ (.tup [plA c3s,.bool false]) _
    refine nx rfl rfl ?_
    repeat' (first|refine Zs rfl ?_|refine Zc rfl ?_|refine Zh ?_|refine Qs ?_)
    refine a0t (a0j 1 (Nat.zero_le _) (b3c out) rfl (by simp) (sl':=[(4,.own 0 0 out.length)]) ?_) ?_
    ·repeat' (first|exact a0l|refine a0a ⟨?_,?_⟩ ?_)
     all_goals (try first|exact rfl|(simp [a0d,a0e];done))
    refine a0c ⟨_,rfl,?_,?_⟩
    ·rw [<- hr];rfl
    ·rw [<- hr]
   | some p =>
    rw [hd] at hst
    show Nx _ (.tup [plA p,.bool true]) _
    refine nx rfl rfl ?_
    repeat' (first|refine Zs rfl ?_|refine Zc rfl ?_|refine Zh ?_|refine Qs ?_|((fail_if_success refine QV rfl ?_);refine Qy rfl rfl (fun _=>?_) (fun _=>?_)))
    ·rename_i h5
     have h6:a1F v mig i=none:=by rw [hst];exact if_neg fun h=>h5 h.1
     rw [h6] at hrn
     rw [hrn,List.append_nil] at hr
     refine a0t (a0j 1 (Nat.zero_le _) (b3c out) rfl (by simp) (sl':=[(4,.own 0 0 out.length)]) ?_) ?_
     ·repeat' (first|exact a0l|refine a0a ⟨?_,?_⟩ ?_)
      all_goals (try first|exact rfl|(simp [a0d,a0e];done))
     refine a0c ⟨_,rfl,?_,?_⟩
     ·rw [<- hr];rfl
     ·rw [<- hr]
    rename_i h5
    refine a0g rfl (fun h7=>?_) (fun h7=>?_)
    ·have h6:a1F v mig i=none:=by rw [hst];exact if_neg fun h=>h7 h.2
     rw [h6] at hrn
     rw [hrn,List.append_nil] at hr
     repeat' (first|refine Zs rfl ?_|refine Zc rfl ?_|refine Zh ?_|refine Qs ?_)
     refine a0t (a0j 1 (Nat.zero_le _) (b3c out) rfl (by simp) (sl':=[(4,.own 0 0 out.length)]) ?_) ?_
     ·repeat' (first|exact a0l|refine a0a ⟨?_,?_⟩ ?_)
      all_goals (try first|exact rfl|(simp [a0d,a0e];done))
     refine a0c ⟨_,rfl,?_,?_⟩
     ·rw [<- hr];rfl
     ·rw [<- hr]
    have h8:p.mig=mig:=Decidable.not_not.1 h5
    have h9:p.idx=(i:Int):=Decidable.not_not.1 h7
    have h6:a1F v mig i=some p:=by rw [hst];exact if_pos ⟨h8,h9⟩
    rw [h6] at hrn
    rw [hrn] at hr
    repeat' (first|refine Zs rfl ?_|refine Zc rfl ?_|refine Qa rfl ?_)
    refine a0V (oid:=some 0) (es:=out.map plA) (out:=(out++[p]).map plA) (n:=out.length+1) (a0M rfl (List.length_map _).symm) (rfl) (b3u [p]) (by rw [List.map_append];rfl) (by rw [List.length_map];rfl) (by show _<=9223372036854775807;omega) (by show _*64<=_;omega) rfl rfl rfl rfl rfl rfl rfl rfl ?_
    refine nx rfl rfl ?_
    repeat' (first|refine Zs rfl ?_|refine Zc rfl ?_|refine Zh ?_|refine Qs ?_)
    refine ⟨(i+1,out++[p]),⟨by show i+1<=36;omega,by simp;omega,by show (out++[p])++_=_;rw [<- hr];simp⟩,by show 36 - (i+1)<36 - i;omega,?_⟩
    refine a0S 0 [2] (H':=[some (.arr ((out++[p]).map plA) 89)]) (os:=[.arr ((out++[p]).map plA) 89]) (Nat.le_refl _) (Nat.zero_le _) (by simp) (by simp) (by simp [HOk]) rfl rfl ?_ ?_
    ·refine a0a (a0v rfl (a1H _)) (a0a (a0v rfl trivial) (a0a ?_ (a0a (a0v ?_ trivial) a0l)))
     ·rw [List.length_append];exact a0L rfl
     ·exact congrArg (AV.int .i64) (a0x (by omega) (by omega) (by omega))
    ·exact a0E rfl (a0A 0 (fun i h=>absurd h (Nat.not_lt_zero i)) (a0h fun _=>a3b)) a0T
  have hst:a1F v mig i=none:=by
   have hk:a6W mig i=-1:=by unfold a6W;rw [if_pos (by omega)]
   simp only [a1F]
   rw [hk,if_pos (b5z hv.inv)]
  rw [hst] at hrn
  rw [hrn,List.append_nil] at hr
  repeat' (first|refine Zs rfl ?_|refine Zc rfl ?_|refine Zh ?_|refine Qs ?_)
  refine a0c ⟨_,rfl,?_,?_⟩
  ·rw [<- hr];rfl
  ·rw [<- hr]
 rename_i h3
 have hi3:i=36:=by omega
 subst hi3
 have hr2:out=a7k v mig:=by rw [<- hr];simp [a5g]
 skip
 refine a0c ⟨_,rfl,?_,?_⟩
 ·rw [<- hr2];rfl
 ·rw [<- hr2]
theorem c1O(X:Nat->Prop)(v:Dv)(hl:v.image.length<=1073741824):a0b (E0 X) 17 [.ptr 0 0] (a0K v) (fun r H'=>r=.sl 1 (v.image.map u8A)/\H'=a0K v) :=
 a0b.froz 1 (c1N X v hl) (by simp) rfl rfl (a1n v) (a0h fun _=>a0k)
structure En where
 seq:Int
 off:Int
 len:Int
 exp:Int
 hit:Bool
abbrev Key:=List UInt8
theorem Zj{k:FuncId}{xs:List AV}{r:AV}(ha:a0e 0 xs)(hr:a0d 0 r)(h:∀X,a0b (E0 X) k xs [] fun r' _=>r'=r)(X:Nat->Prop):Pur (E0 X) k xs r:=⟨ha,fun Y=>a0b.cut0 (h Y) hr⟩
theorem c5h{α:Type}{f:α->AV}{l:List α}{p:α}{E:Env}{H:Hp}{K:AV->Hp->Prop}{ρ:Operand->AV}{d:Option Nat}{ty:TypeId}{pos:String}{after:Array Edge}{g:Option (Nat × Bool)}
  {t:TypeId} {q x:Operand} {id i off:Nat} {e:TypeId} {y:AV} (ht:Nat.blt t E.n=true) (hte:Nat.blt e E.n=true) (hp:ρ q=.pe id i off) (ho:H[id]?=some (some (.arr (l.map f) e)))
  (hy:(l.map f)[i]?=some y) (hky:known y=true) (hz:c5y off (ρ x) y=some (f p)) (hl:Nat.beq (a0Z (ρ x)).length (E.ti t).sz=true) (hone:(a0Z (ρ x)).all a5m=true) (hkn:known (ρ x)=true)
  (h:K (.tup []) (H.set id (some (.arr ((l.set i p).map f) e)))):a0z E ⟨d,.store t q x,ty,pos,after,g⟩ ρ H K :=
 a3h ht hte hp ho hy hky hz hl hone hkn (by rw [<- List.map_set];exact h)
def c5H(e:En):AV:=.agg [.int .i64 e.seq,.int .i64 e.off,.int .i64 e.len,.int .i64 e.exp,.bool e.hit]
theorem a0b.cutH{E:Env}{f:FuncId}{args:List AV}{H H1:Hp}{r0:AV}(h:a0b E f args H (fun r H'=>r=r0/\H'.take H1.length=H1))(hl:H.length<=H1.length)(hok:HOk H1.length H1)(hr:a0d H1.length r0):a0b E f args H (fun r H'=>r=r0/\H'=H1) :=
 h.imp fun r H' ⟨h1,h2⟩=>by
  subst h1
  refine ⟨_,_,⟨rfl,rfl⟩,a0j H1.length hl hok h2 ?_ (a0a ⟨rfl,hr⟩ a0l)⟩
  have:=congrArg List.length h2
  rw [List.length_take] at this
  omega
end Go.Abs
namespace Go.Abs
def c5I(id k:Nat)(es:List AV):AO->AO
 | .cells cs e=>.cells (cs.map (frz id k es)) e
 | o=>o
section
variable{E:Env}{m:Mu}{w:World}{H:Hp}{id k:Nat}{es:List AV}{e:TypeId}
theorem b5W(hok:E.Ok)(hsim:E.Sim m w H)(ho:H[id]?=some (some (.arr es e)))(he:Nat.blt e E.n=true)(hk:Nat.beq (E.ti e).sz k=true){v:AV}{u:Value}(hj:E.Rel m w v u) :
  Abs.Rel E.cx (m.set id .dead) w (frz id k es v) u:=by
 have hkk:=Nat.eq_of_beq_eq_true hk
 have hsz2:E.cx.sz e=(E.ti e).sz:=by obtain ⟨_,_,_,_,_,_,_,_,_,h⟩:=a0Q hok he;exact h
 have hid:id<H.length:=(List.getElem?_eq_some_iff.1 ho).1
 have hidm:id<m.length:=by rw [hsim.len];exact hid
 have hget:∀(i:Nat) (x:MS),x≠.dead->(m.set id .dead)[i]?=some x->m[i]?=some x/\i≠id:=fun i x hx h=>by
  by_cases hi:id=i
  ·subst hi;rw [List.getElem?_set_self hidm] at h;cases h;exact absurd rfl hx
  ·rw [List.getElem?_set_ne hi] at h;exact ⟨h,Ne.symm hi⟩
 have hsub:∀b,MS.blk b∈m.set id .dead->MS.blk b∈m:=fun b hb=>by
  obtain ⟨i,hi,he⟩:=List.getElem_of_mem hb
  exact List.mem_of_getElem? (hget i _ (by simp) (by rw [List.getElem?_eq_getElem hi,he])).1
 have hc:Cmp some E.cx E.cx m (m.set id .dead):=⟨rfl,fun i j hij hi=>by
  cases hij
  exact ⟨by simpa using hi,fun x hx h=>(hget _ x hx h).1⟩,fun b h=>h.imp (hsub b) (fun h=>h)⟩
 obtain ⟨q,hq,hob⟩:=hsim.live id _ ho
 cases v with
 | own i lo n =>
  simp only [frz]
  split
  ·rename_i hcond
   obtain ⟨rfl,hle⟩:=hcond
   simp only [Env.Rel,Abs.Rel] at hj ⊢
   obtain ⟨A,c,h1,h2,h3,h4,h5,h6⟩:=hj
   have hlen:((es.drop lo).take n).length=n:=by simp;omega
   cases q with
   | dead=>exact hob.elim
   | nil =>
    subst hob
    simp at hle
    obtain ⟨rfl,rfl⟩:=hle
    exact ⟨A,c,[],by simpa using h1,by simp,h3,by simp [Abs.RelL],by simp,by simp [Fz,flat]⟩
   | blk b =>
    obtain ⟨us,vs,h7,h8,h9,h10⟩:=hob
    obtain ⟨e2,k2,h11,h12,h13⟩:=h6 b hq
    have hee:e2=e:=by
     unfold World.shape? at h11
     rw [h7] at h11
     simp at h11
     exact h11.1.symm
    subst hee
    have hk9:∀u∈(vs.drop lo).take n,u.cells.size=k:=fun u hu=>by
     rw [h9 u (List.mem_of_mem_drop (List.mem_of_mem_take hu)),hsz2,hkk]
    have hr8:=(h8.drop lo).take n
    refine ⟨A,c,(vs.drop lo).take n,by rw [hlen];exact h1,by omega,h3,RelL.cmp hc (n:=m.length) (fun _ _=>rfl) _ (RelL.ids _ hr8) hr8,hk9,fun hne=>?_⟩
    have hn0:0<n:=by
     rcases Nat.eq_zero_or_pos n with h0|h0
     ·subst h0;simp [flat] at hne
     ·exact h0
    have hA:=h13 (.inl (by omega))
    refine ⟨_,hA,(Array.getElem?_eq_some_iff.1 h7).1,fun hm=>?_,hsim.disj b (List.mem_of_getElem? hq),fun j u hu=>?_⟩
    ·obtain ⟨i2,hi2,he2⟩:=List.getElem_of_mem hm
     obtain ⟨h14,h15⟩:=hget i2 (.blk b) (by simp) (by rw [List.getElem?_eq_getElem hi2,he2])
     exact h15 (hsim.inj i2 i b h14 hq)
    have hadd:(⟨b,lo*E.cx.sz e2,none⟩:Addr).add j=⟨b,lo*E.cx.sz e2+j,none⟩:=by unfold Addr.add;split<;>simp_all
    rw [hadd,cell_of_row w b _ us e2 (0,0) h7]
    have h9d:∀u∈vs.drop lo,u.cells.size=E.cx.sz e2:=fun u hu=>h9 u (List.mem_of_mem_drop hu)
    rw [a2B h9d,a4k h9,List.getElem?_take,List.getElem?_drop] at hu
    split at hu
    ·rw [<- h10,List.getElem?_take] at hu
     split at hu
     ·simpa using hu
     ·cases hu
    ·cases hu
  ·exact Rel.cmp_all hc hj
 | _=>exact Rel.cmp_all hc hj
theorem b2Z(hok:E.Ok)(hsim:E.Sim m w H)(ho:H[id]?=some (some (.arr es e)))(he:Nat.blt e E.n=true)(hk:Nat.beq (E.ti e).sz k=true):∀{vs:List AV} {us:List Value},RelL E.cx m w vs us->RelL E.cx (m.set id .dead) w (vs.map (frz id k es)) us
 | [],us,h=>by simpa [RelL] using h
 | v::vs,us,h=>by
  obtain ⟨u,r,rfl,h1,h2⟩:=a0o.1 h
  exact RelL.cons (b5W hok hsim ho he hk h1) (b2Z hok hsim ho he hk h2)
end
section
variable{E:Env}{N n0:Nat}{s:St}
theorem a3O{id k:Nat}{es:List AV}{e:TypeId}(ho:s.hp[id]?=some (some (.arr es e)))(he:Nat.blt e E.n=true)(hk:Nat.beq (E.ti e).sz k=true) :
  Imp E N n0 s ⟨s.sl.map fun p=>(p.1,frz id k es p.2),(s.hp.map (Option.map (c5I id k es))).set id none⟩:=by
 intro m0 w0 hn m w a hext hs
 have hid:id<s.hp.length:=(List.getElem?_eq_some_iff.1 ho).1
 have hidm:id<m.length:=by rw [hs.sim.len];exact hid
 have hget:∀(i:Nat) (x:MS),x≠.dead->(m.set id .dead)[i]?=some x->m[i]?=some x/\i≠id:=fun i x hx h=>by
  by_cases hi:id=i
  ·subst hi;rw [List.getElem?_set_self hidm] at h;cases h;exact absurd rfl hx
  ·rw [List.getElem?_set_ne hi] at h;exact ⟨h,Ne.symm hi⟩
 have hsub:∀b,MS.blk b∈m.set id .dead->MS.blk b∈m:=fun b hb=>by
  obtain ⟨i,hi,he⟩:=List.getElem_of_mem hb
  exact List.mem_of_getElem? (hget i _ (by simp) (by rw [List.getElem?_eq_getElem hi,he])).1
 have hc:Cmp some E.cx E.cx m (m.set id .dead):=⟨rfl,fun i j hij hi=>by
  cases hij
  exact ⟨by simpa using hi,fun x hx h=>(hget _ x hx h).1⟩,fun b h=>h.imp (hsub b) (fun h=>h)⟩
 refine ⟨m.set id .dead,⟨hext.os,hext.tape,hext.output,hext.size,hext.keep,fun b hb h=>hext.fresh b hb (hsub b h),by simpa using hext.len,fun i x hi hx h=>hext.ids i x hi hx (hget i x hx h).1,hext.shape⟩,?_⟩
 refine ⟨hs.ok,fun j=>?_,hs.size,hs.defers,?_,fun g=>Rel.cmp_all hc (hs.glob g)⟩
 ·show Abs.Rel E.cx _ w (get (s.sl.map fun p=>(p.1,frz id k es p.2)) j) _
  rw [get_map _ rfl]
  exact b5W hs.ok hs.sim ho he hk (hs.slots j)
 refine ⟨by simp [hs.sim.len],fun i o hi=>?_,fun i hi=>?_,fun i j b hi hj=>?_,hs.sim.xlt,fun b hb=>hs.sim.disj b (hsub b hb)⟩
 ·by_cases h:id=i
  ·subst h;rw [List.getElem?_set_self (by simpa using hid)] at hi;cases hi
  rw [List.getElem?_set_ne h,List.getElem?_map] at hi
  cases h0:s.hp[i]? with
  | none=>rw [h0] at hi;cases hi
  | some o0 =>
   rw [h0] at hi
   cases o0 with
   | none=>simp at hi
   | some o1 =>
    simp only [Option.map_some,Option.some.injEq] at hi
    subst hi
    obtain ⟨x,h1,h2⟩:=hs.sim.live i o1 h0
    refine ⟨x,by rw [List.getElem?_set_ne h];exact h1,?_⟩
    cases o1 with
    | cells cs e2 =>
     cases x with
     | dead=>exact h2.elim
     | nil=>exact h2.elim
     | blk b =>
      obtain ⟨us,h3,h4⟩:=h2
      exact ⟨us,h3,b2Z hs.ok hs.sim ho he hk h4⟩
    | arr es2 e2=>exact OB.cmp hc (n:=m.length) (fun _ _=>rfl) (OB.ids h2) h2
    | map es2=>exact OB.cmp hc (n:=m.length) (fun _ _=>rfl) (OB.ids h2) h2
    | itr s2 p2=>exact OB.cmp hc (n:=m.length) (fun _ _=>rfl) (OB.ids h2) h2
 ·by_cases h:id=i
  ·subst h;rw [List.getElem?_set_self hidm]
  rw [List.getElem?_set_ne h] at hi ⊢
  refine hs.sim.dead i ?_
  rw [List.getElem?_map] at hi
  cases h0:s.hp[i]? with
  | none=>rw [h0] at hi;cases hi
  | some o0 =>
   rw [h0] at hi
   cases o0 with
   | none=>rfl
   | some o1=>simp at hi
 ·exact hs.sim.inj i j b (hget i _ (by simp) hi).1 (hget j _ (by simp) hj).1
end
end Go.Abs
namespace Go.Abs
end Go.Abs
namespace Go.Abs
theorem b3F{sz:Cx}{m:Mu}{w:World}{a b:AV}(hab:∀u,Rel sz m w a u->Rel sz m w b u):∀(cs:List AV) (us:List Value) (j:Nat),RelL sz m w cs us->cs[j]?=some a->RelL sz m w (cs.set j b) us
 | [],_,_,_,hj=>by simp at hj
 | c::cs,us,0,h,hj=>by
  obtain ⟨u,r,rfl,h1,h2⟩:=a0o.1 h
  simp at hj
  subst hj
  exact RelL.cons (hab u h1) h2
 | c::cs,us,j+1,h,hj=>by
  obtain ⟨u,r,rfl,h1,h2⟩:=a0o.1 h
  exact RelL.cons h1 (b3F hab cs r j h2 (by simpa using hj))
section
variable{E:Env}{N n0:Nat}{s:St}
theorem a9m(id j:Nat)(e:TypeId){cs:List AV}{t:TypeId}(ho:s.hp[id]?=some (some (.cells cs t)))(hj:cs[j]?=some .nils) :
  Imp E N n0 s ⟨s.sl,s.hp.set id (some (.cells (cs.set j (.own s.hp.length 0 0)) t))++[some (.arr [] e)]⟩:=by
 intro m0 w0 hn m w a hext hs
 have hml:=hs.sim.len
 have hid:id<s.hp.length:=(List.getElem?_eq_some_iff.1 ho).1
 have hget:∀(i:Nat) (x:MS),(m++[.nil])[i]?=some x->m[i]?=some x\/(i=m.length/\x=.nil):=fun i x h=>by
  rcases Nat.lt_or_ge i m.length with hl|hg
  ·rw [List.getElem?_append_left hl] at h;exact .inl h
  rw [List.getElem?_append_right hg] at h
  have h0:i - m.length=0:=by
   rcases Nat.eq_zero_or_pos (i - m.length) with h0|h0
   ·exact h0
   ·rw [List.getElem?_eq_none (by simp;omega)] at h;cases h
  rw [h0] at h
  simp at h
  exact .inr ⟨by omega,h.symm⟩
 have hsub:∀b,MS.blk b∈m++[.nil]->MS.blk b∈m:=fun b hb=>by simpa using hb
 have he:Ext m w (m++[.nil]) w:=⟨rfl,rfl,rfl,Nat.le_refl _,fun _ _ _=>rfl,fun b _ h=>hsub b h,by simp,fun i x hi hx h=>by rwa [List.getElem?_append_left hi] at h,fun _ _ h=>h⟩
 have hnil:∀u,Abs.Rel E.cx (m++[.nil]) w .nils u->Abs.Rel E.cx (m++[.nil]) w (.own s.hp.length 0 0) u:=fun u h1=>by
  simp only [Abs.Rel] at h1 ⊢
  have hlast:(m++[MS.nil])[s.hp.length]?=some .nil:=by rw [<- hml];simp
  refine ⟨none,0,h1,Nat.le_refl _,Nat.zero_le _,by simp [hml],fun _=>⟨rfl,rfl⟩,fun b hb=>?_⟩
  rw [hlast] at hb;cases hb
 refine ⟨m++[.nil],hext.trans he,hs.ok,fun j=>(hs.slots j).ext he,hs.size,hs.defers,?_,fun g=>(hs.glob g).ext he⟩
 refine ⟨by simp [hml],fun i o ho2=>?_,fun i ho2=>?_,fun i j b hi hj=>?_,hs.sim.xlt,fun b hb=>hs.sim.disj b (hsub b hb)⟩
 ·rcases Nat.lt_or_ge i s.hp.length with hl|hg
  ·rw [List.getElem?_append_left (by simpa using hl)] at ho2
   by_cases h:id=i
   ·subst h
    rw [List.getElem?_set_self hid] at ho2
    cases ho2
    obtain ⟨x,h1,h2⟩:=hs.sim.live id _ ho
    refine ⟨x,by rw [List.getElem?_append_left (hml ▸ hl)];exact h1,?_⟩
    cases x with
    | dead=>exact h2.elim
    | nil=>exact h2.elim
    | blk b =>
     obtain ⟨us,h3,h4⟩:=(h2.ext he fun _ _=>rfl:OB E.cx (m++[.nil]) w (.cells cs t) (.blk b))
     exact ⟨us,h3,b3F hnil cs us.toList j h4 hj⟩
   rw [List.getElem?_set_ne h] at ho2
   obtain ⟨x,h1,h2⟩:=hs.sim.live i o ho2
   exact ⟨x,by rw [List.getElem?_append_left (hml ▸ hl)];exact h1,h2.ext he fun _ _=>rfl⟩
  rw [List.getElem?_append_right (by simpa using hg)] at ho2
  simp only [List.length_set] at ho2
  have h0:i - s.hp.length=0:=by
   rcases Nat.eq_zero_or_pos (i - s.hp.length) with h0|h0
   ·exact h0
   ·rw [List.getElem?_eq_none (by simp;omega)] at ho2;cases ho2
  rw [h0] at ho2
  simp at ho2
  subst ho2
  refine ⟨.nil,?_,rfl⟩
  rw [List.getElem?_append_right (by omega),hml,h0];rfl
 ·rcases Nat.lt_or_ge i s.hp.length with hl|hg
  ·rw [List.getElem?_append_left (by simpa using hl)] at ho2
   rw [List.getElem?_append_left (hml ▸ hl)]
   by_cases h:id=i
   ·subst h;rw [List.getElem?_set_self hid] at ho2;cases ho2
   ·rw [List.getElem?_set_ne h] at ho2
    exact hs.sim.dead i ho2
  rw [List.getElem?_append_right (by simpa using hg)] at ho2
  simp only [List.length_set] at ho2
  have h0:i - s.hp.length=0:=by
   rcases Nat.eq_zero_or_pos (i - s.hp.length) with h0|h0
   ·exact h0
   ·rw [List.getElem?_eq_none (by simp;omega)] at ho2;cases ho2
  rw [h0] at ho2
  simp at ho2
 ·rcases hget i _ hi with h1|⟨_,h1⟩<;>rcases hget j _ hj with h2|⟨_,h2⟩<;>first|exact hs.sim.inj i j b h1 h2|cases h1|cases h2
end
end Go.Abs
namespace Go.Abs
def gcG(pre:Hp)(ids:List Nat)(i:Nat):Option Nat:=match pre[i]? with
 | some (some _)=>some i
 | _=>(ids.idxOf? i).map (·+pre.length)
def b4x(pre:Hp)(m:Mu)(i:Nat):MS:=match pre[i]? with
 | some (some _)=>(m[i]?).getD .dead
 | _=>.dead
section
variable{E:Env}{N n0:Nat}{s:St}
theorem c1P(pre:Hp)(ids:List Nat)(sl':List (Nat × AV))(os:List AO)(hk:n0<=pre.length)(hkl:pre.length<=s.hp.length)(hnd:ids.Nodup)(hge:∀i∈ids,pre.length<=i\/pre[i]?=some none)
  (hpre:∀(j:Nat) (o':AO),pre[j]?=some (some o')->∃o,s.hp[j]?=some (some o)/\b5i (gcG pre ids) o o')
  (hsl:∀p∈sl',Ren (gcG pre ids) (get s.sl p.1) p.2) (hlen:os.length=ids.length)
  (hos:∀(j i:Nat) (o':AO),ids[j]?=some i->os[j]?=some o'->∃o,s.hp[i]?=some (some o)/\b5i (gcG pre ids) o o'):Imp E N n0 s ⟨sl',pre++os.map some⟩:=by
 intro m0 w0 hn m w a hext hs
 have hml:=hs.sim.len
 generalize hkk:pre.length=k at *
 have hdef:∀i∈ids,i<m.length:=fun i hi=>by
  obtain ⟨j,hj,he⟩:=List.getElem_of_mem hi
  have h1:ids[j]?=some i:=by rw [List.getElem?_eq_getElem hj,he]
  obtain ⟨o,ho,_⟩:=hos j i os[j] h1 (List.getElem?_eq_getElem (by omega))
  rw [hml];exact (List.getElem?_eq_some_iff.1 ho).1
 generalize hM:((List.range k).map (b4x pre m)++ids.map fun i=>(m[i]?).getD .dead:Mu)=m2
 have hkm:((List.range k).map (b4x pre m)).length=k:=by simp
 have hl2:m2.length=k+ids.length:=by rw [<- hM];simp
 have hlo:∀j,j<k->m2[j]?=some (b4x pre m j):=fun j hj=>by
  rw [<- hM,List.getElem?_append_left (by omega)]
  simp [hj]
 have hhi:∀j i,ids[j]?=some i->m2[k+j]?=m[i]?:=fun j i hi=>by
  rw [<- hM,List.getElem?_append_right (by omega),hkm,Nat.add_sub_cancel_left,List.getElem?_map,hi]
  have hlt:=hdef i (List.mem_of_getElem? hi)
  simp [List.getElem?_eq_getElem hlt]
 -- where a state comes from
 have hm2:∀(j:Nat) (x:MS),m2[j]?=some x->x≠.dead->(∃o,pre[j]?=some (some o)/\j<k/\m[j]?=some x)\/(k<=j/\∃i,ids[j - k]?=some i/\m[i]?=some x):=fun j x h hx=>by
  rcases Nat.lt_or_ge j k with hj|hj
  ·rw [hlo j hj] at h
   unfold b4x at h
   split at h
   ·rename_i o ho
    have hjm:j<m.length:=by omega
    rw [List.getElem?_eq_getElem hjm] at h
    simp only [Option.getD_some] at h
    exact .inl ⟨o,ho,hj,by rw [List.getElem?_eq_getElem hjm];exact h⟩
   ·cases h;exact absurd rfl hx
  have hji:j - k<ids.length:=by have:=(List.getElem?_eq_some_iff.1 h).1;omega
  have h1:ids[j - k]?=some ids[j - k]:=List.getElem?_eq_getElem hji
  have h2:=hhi (j - k) _ h1
  rw [Nat.add_sub_cancel' hj,h] at h2
  exact .inr ⟨hj,_,h1,h2.symm⟩
 have hidx:∀i j,gcG pre ids i=some j->((∃o,pre[i]?=some (some o))/\j=i/\i<k)\/(k<=j/\ids[j - k]?=some i):=fun i j h=>by
  unfold gcG at h
  split at h
  ·rename_i o ho
   cases h
   exact .inl ⟨⟨o,ho⟩,rfl,by rw [<- hkk];exact (List.getElem?_eq_some_iff.1 ho).1⟩
  rw [hkk] at h
  simp only [Option.map_eq_some_iff] at h
  obtain ⟨q,hq,rfl⟩:=h
  refine .inr ⟨by omega,?_⟩
  rw [Nat.add_sub_cancel]
  exact a7H hq
 have hsub:∀b,MS.blk b∈m2->MS.blk b∈m:=fun b hb=>by
  obtain ⟨j,hj,he⟩:=List.getElem_of_mem hb
  rcases hm2 j _ (by rw [List.getElem?_eq_getElem hj,he]) (by simp) with ⟨_,_,_,h⟩|⟨_,i,_,h⟩<;>exact List.mem_of_getElem? h
 have hc:Cmp (gcG pre ids) E.cx E.cx m m2:=⟨rfl,fun i j hij hi=>by
  rcases hidx i j hij with ⟨⟨o,h0⟩,rfl,h1⟩|⟨h1,h2⟩
  ·refine ⟨by omega,fun x hx h=>?_⟩
   rcases hm2 j x h hx with ⟨_,_,_,h⟩|⟨h,_⟩
   ·exact h
   ·omega
  refine ⟨by rw [hl2];have:=(List.getElem?_eq_some_iff.1 h2).1;omega,fun x hx h=>?_⟩
  rcases hm2 j x h hx with ⟨_,_,h,_⟩|⟨_,i',h3,h4⟩
  ·omega
  ·rw [h2] at h3;cases h3;exact h4,fun b h=>h.imp (hsub b) (fun h=>h)⟩
 refine ⟨m2,⟨hext.os,hext.tape,hext.output,hext.size,hext.keep,fun b hb h=>hext.fresh b hb (hsub b h),by rw [hl2];omega,fun i x hi hx h=>?_,hext.shape⟩,?_⟩
 ·refine hext.ids i x hi hx ?_
  rcases hm2 i x h hx with ⟨_,_,_,h⟩|⟨h,_⟩
  ·exact h
  ·omega
 refine ⟨hs.ok,fun j=>?_,hs.size,hs.defers,?_,fun g=>?_⟩
 ·have key:∀l:List (Nat × AV),(∀p∈l,Ren (gcG pre ids) (get s.sl p.1) p.2)->get l j=.any\/Ren (gcG pre ids) (get s.sl j) (get l j):=by
   intro l
   induction l with
   | nil=>intro _;exact .inl rfl
   | cons p r ih =>
    intro h
    obtain ⟨q,v⟩:=p
    rw [a0R]
    split
    ·rename_i hq;subst hq;exact .inr (h (q,v) (by simp))
    ·exact ih fun p hp=>h p (by simp [hp])
  show Abs.Rel E.cx _ w (get sl' j) _
  rcases key sl' hsl with h|h
  ·rw [h];simp [Abs.Rel]
  ·exact h _ _ _ _ _ hc (hs.slots j)
 ·have hH:∀(j:Nat) (o:Option AO),(pre++os.map some)[j]?=some o->(j<k/\pre[j]?=some o)\/(k<=j/\∃o',os[j - k]?=some o'/\o=some o'):=fun j o h=>by
   rcases Nat.lt_or_ge j k with hj|hj
   ·rw [List.getElem?_append_left (by omega)] at h
    exact .inl ⟨hj,h⟩
   rw [List.getElem?_append_right (by omega),hkk,List.getElem?_map] at h
   cases ho:os[j - k]? with
   | none=>rw [ho] at h;cases h
   | some o'=>rw [ho] at h;simp at h;exact .inr ⟨hj,o',rfl,h.symm⟩
  refine ⟨by rw [hl2];simp;omega,fun j o ho=>?_,fun j ho=>?_,fun i j b hi hj=>?_,hs.sim.xlt,fun b hb=>hs.sim.disj b (hsub b hb)⟩
  ·rcases hH j _ ho with ⟨h1,h2⟩|⟨h1,o',h2,h3⟩
   ·obtain ⟨o0,h3,h4⟩:=hpre j o h2
    obtain ⟨x,h5,h6⟩:=hs.sim.live j o0 h3
    refine ⟨x,?_,h4 _ _ _ _ _ hc h6⟩
    rw [hlo j h1]
    unfold b4x
    rw [h2]
    simp [h5]
   cases h3
   have hjl:j - k<ids.length:=by rw [<- hlen];exact (List.getElem?_eq_some_iff.1 h2).1
   obtain ⟨o2,h4,h5⟩:=hos (j - k) ids[j - k] o (List.getElem?_eq_getElem hjl) h2
   obtain ⟨x,h6,h7⟩:=hs.sim.live _ _ h4
   refine ⟨x,?_,h5 _ _ _ _ _ hc h7⟩
   have:=hhi (j - k) _ (List.getElem?_eq_getElem hjl)
   rw [Nat.add_sub_cancel' h1] at this
   rw [this,h6]
  ·rcases hH j _ ho with ⟨h1,h2⟩|⟨h1,o',h2,h3⟩
   ·rw [hlo j h1]
    unfold b4x
    rw [h2]
   ·cases h3
  have hno:∀(i j:Nat) (o:AO),pre[i]?=some (some o)->i<k->ids[j]?=some i->False:=fun i j o h1 h2 h3=>by
   rcases hge i (List.mem_of_getElem? h3) with h|h
   ·omega
   ·rw [h1] at h;cases h
  rcases hm2 i _ hi (by simp) with ⟨o1,h1,h1k,h2⟩|⟨h1,i',h2,h3⟩<;>rcases hm2 j _ hj (by simp) with ⟨o4,h4,h4k,h5⟩|⟨h4,j',h5,h6⟩
  ·exact hs.sim.inj i j b h2 h5
  ·have:=hs.sim.inj i j' b h2 h6;subst this;exact (hno i _ o1 h1 h1k h5).elim
  ·have:=hs.sim.inj i' j b h3 h5;subst this;exact (hno i' _ o4 h4 h4k h2).elim
  have h7:=hs.sim.inj i' j' b h3 h6
  subst h7
  obtain ⟨p1,p2⟩:=List.getElem?_eq_some_iff.1 h2
  obtain ⟨p3,p4⟩:=List.getElem?_eq_some_iff.1 h5
  have hpw:=List.pairwise_iff_getElem.1 hnd
  rcases Nat.lt_trichotomy (i - k) (j - k) with h|h|h
  ·exact absurd (p2.trans p4.symm) (hpw _ _ p1 p3 h)
  ·omega
  ·exact absurd (p4.trans p2.symm) (hpw _ _ p3 p1 h)
 ·exact Rel.cmp hc (n:=0) (fun _ h=>absurd h (Nat.not_lt_zero _)) _ (hs.ok.2.2 g) (hs.glob g)
end
theorem a1x{f:Nat->Option Nat}{v v':AV}(e:v=v')(h:a0d 0 v'):Ren f v v':=by
 subst e;exact a7V 0 (fun i h=>absurd h (Nat.not_lt_zero i)) h
def b4b(hp:Hp)(f:Nat->Option Nat):Nat->Hp->Prop
 | _,[]=>True
 | j,none::r=>b4b hp f (j+1) r
 | j,some o'::r=>(∃o,hp[j]?=some (some o)/\b5i f o o')/\b4b hp f (j+1) r
theorem a7T{hp:Hp}{f:Nat->Option Nat}:∀(pre:Hp) (j0:Nat),b4b hp f j0 pre->∀(j:Nat) (o':AO),pre[j]?=some (some o')->∃o,hp[j0+j]?=some (some o)/\b5i f o o'
 | [],_,_,j,_,h=>by simp at h
 | none::r,j0,hp,0,_,h=>by simp at h
 | none::r,j0,hp,j+1,o',h=>by
  have:=a7T r (j0+1) hp j o' (by simpa using h)
  rw [show j0+(j+1)=j0+1+j by omega];exact this
 | some a::r,j0,hp,0,o',h=>by
  simp at h;subst h
  exact hp.1
 | some a::r,j0,hp,j+1,o',h=>by
  have:=a7T r (j0+1) hp.2 j o' (by simpa using h)
  rw [show j0+(j+1)=j0+1+j by omega];exact this
theorem b0w{E:Env}{N n0:Nat}{sl sl':List (Nat × AV)}{hp H':Hp}(pre:Hp)(ids:List Nat)(os:List AO)(hk:n0<=pre.length)(hkl:pre.length<=hp.length)(hnd:ids.Nodup)(hge:∀i∈ids,pre.length<=i\/pre[i]?=some none)
  (hlen:os.length=ids.length) (hH:pre++os.map some=H') (hpre:b4b hp (gcG pre ids) 0 pre) (hsl:∀p∈sl',Ren (gcG pre ids) (get sl p.1) p.2) (hos:b8E hp (gcG pre ids) ids os):Imp E N n0 ⟨sl,hp⟩ ⟨sl',H'⟩ :=
 hH ▸ c1P (E:=E) (N:=N) (n0:=n0) (s:=⟨sl,hp⟩) pre ids sl' os hk hkl hnd hge (fun j o' h=>by have:=a7T pre 0 hpre j o' h;rwa [Nat.zero_add] at this) hsl hlen hos
end Go.Abs
namespace Go.Abs
attribute [local irreducible] a0z a1p AWp Nx awM
section
variable{E:Env}{ops:Array Oper}{K:St->Prop}{sl:List (Nat × AV)}{hp:Hp}{d:Nat}{ty:TypeId}{pos:String}{after:Array Edge}{g:Option (Nat × Bool)}
variable{f:Operand}{args:List Operand}{tys:Array TypeId}{k:FuncId}{cap xs:List AV}
theorem Zx{ι:Type}{P:ι->Prop}{r0:ι->AV}{h0:ι->Hp}{rest:List Oper}(hw:a0H ops ⟨some d,.call ⟨.value f,args.toArray,tys⟩,ty,pos,after,g⟩ sl=some true)(hf:ev E sl f=.clo (.func k) [] cap)
  (hc:a0b E k xs hp fun r' H'=>∃i,P i/\r'=r0 i/\H'=h0 i) (ha:args.map (ev E sl)++cap=xs)
  (h:∀i,P i->b4d E ops rest K ⟨(d,r0 i)::sl,h0 i⟩):a1p E ops (⟨some d,.call ⟨.value f,args.toArray,tys⟩,ty,pos,after,g⟩::rest) K ⟨sl,hp⟩:=by
 subst ha
 refine a1U hw (a1c (fun _=>rfl) hf (hc.mono ?_))
 rintro _ _ ⟨i,hi,rfl,rfl⟩
 exact a6X (h i hi)
end
theorem a1B{E:Env}{N n0:Nat}{Q Q2:Exit->St->Prop}{s:St}{c c2:Code}{ι:Type}(σ:ι->St)(I:ι->Prop)(h1:AWp E N n0 c (fun e s'=>e=.normal/\∃i,I i/\Imp E N n0 s' (σ i)) s)(h2:∀i,I i->AWp E N n0 c2 Q2 (σ i)):AWp E N n0 c (a5W (AWp E N n0 c2 Q2) Q) s :=
 a2L h1 fun e s' ⟨he,i,hi,im⟩=>by subst he;exact a0t im (h2 i hi)
theorem a8K{E:Env}{ρ:Operand->AV}{H:Hp}{K:AV->Hp->Prop}{d:Option Nat}{ty:TypeId}{pos:String}{after:Array Edge}{g:Option (Nat × Bool)}
  {t e:TypeId} {x:Operand} {id i off:Nat} {es:List AV} {y r:AV} (hp:ρ x=.pe id i off) (ho:H[id]?=some (some (.arr es e))) (hy:es[i]?=some y) (hkn:known y=true)
  (ht:Nat.blt t E.n=true) (hr:ldA (E.ti t) ((a0Z y).drop off)=some r) (h:K r H):a0z E ⟨d,.load t x,ty,pos,after,g⟩ ρ H K :=
 a3t (cs:=(a0Z y).drop off) (by rw [hp];simp [a2o,ho,hy,hkn]) ht hr h
end Go.Abs
