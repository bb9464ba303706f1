/- What a recovered state has: its regions are known, ascending and disjoint; its pairs are records of theirs. No program. Joined texts, each with what its own name promises; no condition beyond those stated. -/
import Derived.Test.YtkmmdlicifiknaaGreatDoorWR
import Derived.Test.YtkmmdlicifiknaaGreatDoorWC
import Derived.Test.YtkmmdlicifiknaaGreatDoorWJ
import Derived.Test.YtkmmdlicifiknaaGreatDoorWM
import Derived.Test.YtkmmdlicifiknaaGreatDoorWL
import Derived.Test.YtkmmdlicifiknaaGreatDoorWU
import Derived.Test.YtkmmdlicifiknaaGreatDoorWE
set_option maxHeartbeats 0
set_option maxRecDepth 100000
set_option linter.all false
namespace Go.Abs
structure d0R(tail:Int)(out:List Rg):Prop where
 tail:∀r∈out,tail<=r.h.seq
 apart:out.Pairwise fun x r=>a2S r x=false
theorem d0V{tail:Int}{out:List Rg}(r:Rg)(h:d0R tail out):d0R tail (b1O tail out r):=by
 unfold b1O
 split
 ·rename_i h1
  rw [Bool.and_eq_true] at h1
  obtain ⟨h1,h2⟩:=h1
  refine ⟨fun x hx=>?_,List.pairwise_append.2 ⟨h.apart,List.pairwise_singleton _ _,fun x hx y hy=>?_⟩⟩
  ·rcases List.mem_append.1 hx with hx|hx
   ·exact h.tail x hx
   ·rw [List.mem_singleton.1 hx];exact of_decide_eq_true h1
  rw [List.mem_singleton.1 hy]
  cases h3:a2S r x with
  | false=>rfl
  | true =>
   have h4:out.any (a2S r)=true:=List.any_eq_true.2 ⟨x,hx,h3⟩
   rw [h4] at h2;cases h2
 ·exact h
theorem d0U(tail:Int)(s:List Rg):d0R tail (a4E tail s):=by
 have:∀(s out:List Rg),d0R tail out->d0R tail (s.foldl (b1O tail) out):=fun s=>by
  induction s with
  | nil=>exact fun out h=>h
  | cons r s ih=>exact fun out h=>ih _ (d0V r h)
 exact this s [] ⟨fun r h=>(by cases h),List.Pairwise.nil⟩
theorem d0F(tail:Int)(s:List Rg):(a4E tail s).Sublist s:=by
 have:∀(s out:List Rg),(s.foldl (b1O tail) out).Sublist (out++s):=fun s=>by
  induction s with
  | nil=>intro out;simp
  | cons r s ih =>
   intro out
   refine (ih (b1O tail out r)).trans ?_
   unfold b1O
   split
   ·simp
   ·exact List.Sublist.append (List.Sublist.refl out) (List.sublist_cons_self r s)
 have:=this s []
 simpa [a4E] using this
theorem d0K{a b:Rg}(h:a5s a b=true):b.h.seq<=a.h.seq:=by
 unfold a5s at h
 split at h
 ·have:=of_decide_eq_true h;omega
 ·rename_i h1;have:a.h.seq=b.h.seq:=Classical.not_not.1 h1;omega
structure d0X(s:Sb)(x:RSt):Prop where
 known:∀r∈x.rs,r.l∈a1n s
 tail:∀r∈x.rs,x.tail<=r.h.seq
 next:∀r∈x.rs,r.h.seq<x.next
 asc:x.rs.Pairwise fun a b=>a.h.seq<b.h.seq
 apart:x.rs.Pairwise fun a b=>ovB b.l b.h.slot a.l a.h.slot=false
theorem d0G{x:Int}:∀{l:List Int} {a:Int},x∈l->x<=mxL a l
 | y::l,a,h=>by
  rw [a7z]
  rcases List.mem_cons.1 h with rfl|h
  ·exact Int.le_trans (Int.le_max_right a _) (d0W l _)
  ·exact d0G h
theorem c5K.form{img:List UInt8}{pl:List Pl}{now:Int}{s:Sb}{x:RSt}(hs:sbB s=true)(h:c5K img pl now s x):d0X s x:=by
 obtain ⟨srt,h1,h2⟩:=h.live
 obtain ⟨_,hn,_⟩:=a9f hs
 have hx:=d0U x.tail srt
 have hsub:=d0F x.tail srt
 have hp:=(a6J hn h1).sublist hsub
 have hm:∀r∈x.rs,r∈a4E x.tail srt:=fun r hr=>by rw [h2] at hr;exact List.mem_reverse.1 hr
 have hc:∀r∈x.rs,r∈a3T (a2O img) (a1n s):=fun r hr=>h1.1.mem_iff.1 (hsub.subset (hm r hr))
 have hcl:∀{a b:Rg},a2S b a=false->a.h.seq≠b.h.seq/\ovB a.l a.h.slot b.l b.h.slot=false:=fun {a b} h=>by
  unfold a2S at h
  rw [Bool.or_eq_false_iff] at h
  exact ⟨of_decide_eq_false h.1,h.2⟩
 refine ⟨fun r hr=>(b3s (hc r hr)).1.mem,fun r hr=>hx.tail r (hm r hr),fun r hr=>?_,?_,?_⟩
 ·rw [h.next]
  have h3:r.h.seq+1<=mxL 1 ((a3T (a2O img) (a1n s)).map fun r=>r.h.seq+1):=d0G (List.mem_map.2 ⟨r,hc r hr,rfl⟩)
  have:=Int.le_max_left (mxL 1 ((a3T (a2O img) (a1n s)).map fun r=>r.h.seq+1)) x.tail
  omega
 ·rw [h2,List.pairwise_reverse]
  exact hp.imp_of_mem (R:=fun a b=>a5s a b=true) (S:=fun a b=>b.h.seq<=a.h.seq) (fun _ _ h=>d0K h) |>.and hx.apart |>.imp fun {a b} ⟨h4,h5⟩=>by
   have:=(hcl h5).1
   omega
 ·rw [h2,List.pairwise_reverse]
  exact hx.apart.imp fun {a b} h5=>(hcl h5).2
theorem c5K.pair{img:List UInt8}{pl:List Pl}{now:Int}{s:Sb}{x:RSt}(h:c5K img pl now s x){k:Key}{e:En}(hp:(k,e)∈x.ps) :
  ∃r∈x.rs,∃p∈a9k img r,p.2.kind=1/\p.2.key=k/\e=c3A (r.h.seq,p)/\(e.exp=0\/x.now<e.exp):=by
 have h1:=(h.pairs.mem k e).1 hp
 unfold b4Z at h1
 split at h1
 ·rename_i e1 he
  split at h1
  ·rename_i hl
   cases h1
   rw [<- List.reverse_reverse (flB (a2x img x.rs))] at he
   obtain ⟨q,hq,h2,h3,h4⟩:=b3D _ _ _ he
   have hq':q∈flB (a2x img x.rs):=List.mem_reverse.1 hq
   unfold flB a2x at hq'
   rw [List.flatMap_map] at hq'
   obtain ⟨r,hr,hq2⟩:=List.mem_flatMap.1 hq'
   obtain ⟨p,hp2,rfl⟩:=List.mem_map.1 hq2
   refine ⟨r,hr,p,hp2,h2,h3,h4.symm,?_⟩
   unfold a2p at hl
   rw [Bool.or_eq_true] at hl
   exact hl.imp of_decide_eq_true of_decide_eq_true
  ·cases h1
 ·cases h1
def d0S(v:Dv)(l:La)(slot seq off n:Int):Option (List UInt8) :=
 if 0<=off/\0<=n/\off+n<=c5M l/\(a1f l=true/\0<=slot/\slot<l.regs)/\1<=seq/\seq<=281474976710655/\(off+n).toNat<=(b0C v seq.toNat (((off+n).toNat+58) / 59) ((74+slot*l.rs).toNat+1)).length then
  some (((b0C v seq.toNat (((off+n).toNat+58) / 59) ((74+slot*l.rs).toNat+1)).drop off.toNat).take n.toNat) else none
def d0Y:Option (List UInt8)->AV
 | some b=>.tup [.sl 1 (b.map u8A),.bool true]
 | none=>.tup [.sl 1 [],.bool false]
theorem d0L{n:Nat}(o:Option (List UInt8)):a0g n (d0Y o):=by
 cases o with
 | none=>exact ⟨trivial,trivial,trivial⟩
 | some b=>exact ⟨a0h fun _=>a0n,trivial,trivial⟩
def d0Z:Option (List UInt8)->AV
 | some b=>.tup [.sl 1 (b.map u8A),.bool true]
 | none=>.tup [.nils,.bool false]
theorem d0M{E:Env}{m:Mu}{w:World}{v:Value}(o:Option (List UInt8))(h:E.Rel m w (d0Z o) v):E.Rel m w (d0Y o) v:=by
 cases o with
 | none=>exact a6h (fun v h=>a2Y 1 h) v h
 | some b=>exact h
theorem d0T(l:La):0<=c5M l/\c5M l<=120773:=by
 unfold c5M
 split
 ·rename_i h;have:=a1M h;omega
 ·omega
attribute [local irreducible] a0B a1G AWp Nx awM
theorem d0J(X:Nat->Prop)(v:Dv)(l:La)(slot seq:Int)(most:Int)(h:¬ (a3M l slot/\1<=seq/\seq<=281474976710655)) :
  a0b (E0 X) 73 [.ptr 0 0,laA l,.int .i64 slot,.int .i64 seq,.int .i64 most] (a1c v) (fun r H'=>r=.tup [.nils,.bool false]/\H'=a1c v):=by
 refine a0b.cutDv ?_ ⟨trivial,trivial,trivial⟩
 have hfc:Pur (E0 X) 100 [laA l,.int .i64 slot] (.int .i64 (a1e l slot)):=⟨⟨a1u,trivial,trivial⟩,fun Y=>b2i Y l slot⟩
 have hf1:a1e l slot<0\/a3M l slot:=by
  by_cases h1:a1f l=true/\0<=slot/\slot<l.regs
  ·exact .inr h1
  ·exact .inl (by rw [show a1e l slot=-1 from if_neg h1];decide)
 generalize a1e l slot=F at *
 refine Z0 Proofs.Tryz.func73 rfl Proofs.Tryz.ntmps73 (by kernel_rfl) rfl ?_
 repeat' (first|refine Zs rfl ?_|refine Zc rfl ?_)
 refine Zp rfl rfl (hfc) rfl ?_
 repeat' (first|refine Zs rfl ?_|refine Zc rfl ?_)
 by_cases h1:F<0
 ·rw [decide_eq_true h1]
  repeat' (first|refine Zs rfl ?_|refine Zc rfl ?_)
  refine a0c ⟨_,rfl,rfl,rfl⟩
 rw [decide_eq_false h1]
 repeat' (refine Zs rfl ?_)
 by_cases h2:seq<1
 ·rw [decide_eq_true h2]
  repeat' (first|refine Zs rfl ?_|refine Zc rfl ?_)
  refine a0c ⟨_,rfl,rfl,rfl⟩
 rw [decide_eq_false h2]
 repeat' (refine Zs rfl ?_)
 rw [decide_eq_true (show seq > 281474976710655 by rcases hf1 with h3|h3;exact absurd h3 h1;exact Classical.byContradiction fun h4=>h ⟨h3,by omega,by omega⟩)]
 repeat' (first|refine Zs rfl ?_|refine Zc rfl ?_)
 refine a0c ⟨_,rfl,rfl,rfl⟩
theorem d0P(X:Nat->Prop)(v:Dv)(hv:v.Inv)(l:La)(slot seq off n:Int) :
  a0b (E0 X) 24 [.ptr 0 0,laA l,.int .i64 slot,.int .i64 seq,.int .i64 off,.int .i64 n] (a1c v) (fun r H'=>r=d0Z (d0S v l slot seq off n)/\H'.take 3=a1c v):=by
 have hca:Pur (E0 X) 72 [laA l] (.int .i64 (c5M l)):=⟨⟨a1u,trivial⟩,fun Y=>b4L Y l⟩
 have hcl:=d0T l
 have hlv:v.image.length<=1073741824:=by have:=hv.load.2.2;omega
 have hst:=c1Q X v hv l slot
 have hno:=d0J X v l slot
 have hcf:a1f l=true->c5M l=(l.rs - 1)*59:=fun h=>if_pos h
 unfold d0S
 generalize c5M l=c at *
 refine Z0 Proofs.Tryz.func24 rfl Proofs.Tryz.ntmps24 (by kernel_rfl) rfl ?_
 refine Zc rfl (Zc rfl (Zs rfl (Zs rfl (Zs rfl (Zh ?_)))))
 refine Kz 3 [0,2,3,4,5,7,12,13] 3 (a1N v) rfl rfl ⟨Nat.zero_lt_succ 2,trivial,trivial,trivial,trivial,(a1u:a0g _ (laA l)),trivial,trivial,trivial⟩ ?_
 repeat' (first|refine Zs rfl ?_|refine Zc rfl ?_)
 by_cases h1:off<0
 ·rw [decide_eq_true h1,if_neg (by omega)]
  repeat' (first|refine Zs rfl ?_|refine Zc rfl ?_)
  refine a0c ⟨_,rfl,rfl,rfl⟩
 rw [decide_eq_false h1]
 repeat' (refine Zs rfl ?_)
 by_cases h2:n<0
 ·rw [decide_eq_true h2,if_neg (by omega)]
  repeat' (first|refine Zs rfl ?_|refine Zc rfl ?_)
  refine a0c ⟨_,rfl,rfl,rfl⟩
 rw [decide_eq_false h2]
 repeat' (refine Zs rfl ?_)
 refine Zp rfl rfl (hca) rfl ?_
 repeat' (refine Zs rfl ?_)
 by_cases h3:off > c
 ·rw [decide_eq_true h3,if_neg (by omega)]
  repeat' (first|refine Zs rfl ?_|refine Zc rfl ?_)
  refine a0c ⟨_,rfl,rfl,rfl⟩
 rw [decide_eq_false h3]
 repeat' (refine Zs rfl ?_)
 refine Zp rfl rfl (hca) rfl ?_
 repeat' (refine Zs rfl ?_)
 rw [show IntKind.i64.wrap (c - off)=c - off from a0p (by omega) (by omega)]
 by_cases h4:n > c - off
 ·rw [decide_eq_true h4,if_neg (by omega)]
  repeat' (first|refine Zs rfl ?_|refine Zc rfl ?_)
  refine a0c ⟨_,rfl,rfl,rfl⟩
 rw [decide_eq_false h4]
 obtain ⟨o,rfl⟩:=Int.eq_ofNat_of_zero_le (show 0<=off by omega)
 obtain ⟨k,rfl⟩:=Int.eq_ofNat_of_zero_le (show 0<=n by omega)
 have hw:IntKind.i64.wrap ((o:Int)+(k:Int))=((o+k:Nat):Int):=a0u (by omega) (by omega) (by omega)
 repeat' (first|refine Zs rfl ?_|refine Zc rfl ?_)
 rw [hw]
 by_cases hs:a3M l slot/\1<=seq/\seq<=281474976710655
 ·obtain ⟨hs1,hs2,hs3⟩:=hs
  obtain ⟨q,rfl⟩:=Int.eq_ofNat_of_zero_le (show 0<=seq by omega)
  have hcap:=hcf hs1.1
  have hst2:=hst q (o+k) hs1 (by omega) (by omega) (by omega)
  have hbl:=b4x v q ((o+k+58) / 59) ((74+slot*l.rs).toNat+1)
  rw [show ((o:Int)+(k:Int)).toNat=o+k by omega,Int.toNat_natCast,Int.toNat_natCast,Int.toNat_natCast]
  generalize b0C v q ((o+k+58) / 59) ((74+slot*l.rs).toNat+1)=b at *
  refine Zf rfl rfl (hst2) rfl rfl rfl ?_
  repeat' (first|refine Zs rfl ?_|refine Zc rfl ?_)
  rw [hw,List.length_map]
  by_cases h5:o+k<=b.length
  ·rw [decide_eq_false (show ¬ ((o+k:Nat):Int) > (b.length:Int) by omega),if_pos ⟨by omega,by omega,by omega,hs1,by omega,by omega,h5⟩]
   have ck:Pur (E0 X) 45 [.sl 1 (((b.drop o).take k).map u8A)] (.sl 1 (((b.drop o).take k).map u8A)):=⟨⟨a0h fun _=>a0n,trivial⟩,fun Y=>a0b.froz 1 (a4T Y ((b.drop o).take k) (by simp;omega)) (List.length_map _).symm rfl rfl a0T (a0h fun _=>a0n)⟩
   repeat' (first|refine Zs rfl ?_|refine Zc rfl ?_)
   rw [hw]
   refine Qa rfl ?_
   refine a1m (l:=o) (h:=o+k) (ys:=(b.drop o).take k) (a0r rfl rfl) (a0r rfl rfl) (by omega) (by omega) (by rw [List.drop_take];congr 1;omega) rfl rfl rfl rfl rfl ?_
   refine nx rfl rfl ?_
   skip
   refine Zp rfl rfl (ck) rfl ?_
   repeat' (refine Zs rfl ?_)
   refine a0c ⟨_,rfl,rfl,rfl⟩
  rw [decide_eq_true (show ((o+k:Nat):Int) > (b.length:Int) by omega),if_neg (fun h=>h5 h.2.2.2.2.2.2)]
  repeat' (first|refine Zs rfl ?_|refine Zc rfl ?_)
  refine a0c ⟨_,rfl,rfl,rfl⟩
 rw [if_neg (fun h=>hs ⟨h.2.2.2.1,h.2.2.2.2.1,h.2.2.2.2.2.1⟩)]
 refine Zf rfl rfl (hno seq ((o+k:Nat):Int) hs) rfl rfl rfl ?_
 repeat' (first|refine Zs rfl ?_|refine Zc rfl ?_)
 refine a0c ⟨_,rfl,rfl,rfl⟩
theorem d0O(X:Nat->Prop)(v:Dv)(hv:v.Inv)(l:La)(slot seq off n:Int) :
  a0b (E0 X) 24 [.ptr 0 0,laA l,.int .i64 slot,.int .i64 seq,.int .i64 off,.int .i64 n] (a1c v) (fun r H'=>r=d0Y (d0S v l slot seq off n)/\H'=a1c v) :=
 a0b.cutDv ((d0P X v hv l slot seq off n).weakRv fun r H' ⟨h1,h2⟩=>⟨_,⟨rfl,h2⟩,fun m w u hu=>by subst h1;exact d0M _ hu⟩) (d0L _)
theorem d0N{ver:Int}{seq:Nat}{b:List UInt8}:∀(n off:Nat),∀p∈a3F ver seq b n off,off<=p.1/\p.1+a1K p.2<=b.length/\a6P ver seq p.1 (b.drop p.1)=some p.2:=by
 intro n
 induction n with
 | zero=>intro off p hp;simp [a3F] at hp
 | succ n ih =>
  intro off p hp
  rcases Nat.lt_or_ge off b.length with h|h
  ·rw [a2J n h] at hp
   split at hp
   ·have:=ih _ p hp
    exact ⟨by omega,this.2⟩
   cases hd:a6P ver seq off (b.drop off) with
   | none=>rw [hd] at hp;simp at hp
   | some r =>
    rw [hd] at hp
    simp only [List.mem_cons] at hp
    rcases hp with rfl|hp
    ·have h1:=(a7u hd).1
     rw [List.length_drop] at h1
     exact ⟨Nat.le_refl _,by show off+a1K r<=b.length;omega,hd⟩
    ·have:=ih _ p hp
     exact ⟨by omega,this.2⟩
  ·rw [a2q _ h] at hp;simp at hp
theorem d0E(img:List UInt8)(seq:Nat):∀(m M s:Nat),m<=M->a5g img seq m s=(a5g img seq M s).take (59*m)
 | 0,M,s,_=>by rw [Nat.mul_zero,List.take_zero];rfl
 | m+1,M,s,h=>by
  obtain ⟨M',rfl⟩:∃M',M=M'+1:=⟨M - 1,by omega⟩
  have ih:=d0E img seq m M' (s+1) (by omega)
  have e1:∀k,a5g img seq (k+1) s=match a2M 2 seq s (a5c img (s:Int)) with
    | none=>[]
    | some p=>p++a5g img seq k (s+1):=fun _=>rfl
  rw [e1,e1]
  cases hd:a2M 2 seq s (a5c img (s:Int)) with
  | none=>simp
  | some p =>
   have hp:=(a2D hd).1
   show p++a5g img seq m (s+1)=(p++a5g img seq M' (s+1)).take (59*(m+1))
   rw [ih,List.take_append,hp,List.take_of_length_le (show p.length<=59*(m+1) by omega),show 59*(m+1) - 59=59*m by omega]
theorem d0I{L:Nat}{v:Dv}(hv:Lv L v){r:Rg}(hs:a3M r.l r.h.slot)(hh:hdB r.h=true){p:Nat × Rec}(hp:p∈a9k v.image r) :
  ∃b,d0S v r.l r.h.slot r.h.seq (p.1:Int) (a1K p.2:Int)=some b/\b.length=a1K p.2/\p.1+a1K p.2<=130000/\a6P r.l.ver r.h.seq.toNat p.1 b=some p.2:=by
 obtain ⟨_,_,hq1,hq2,_⟩:=a8f hh
 have hrs:=a1M hs.1
 have hcap:c5M r.l=(r.l.rs - 1)*59:=if_pos hs.1
 unfold a9k c1j at hp
 obtain ⟨_,h1,h2⟩:=d0N _ _ p hp
 have h3:=a7u h2
 have hl:=b4z v.image r.h.seq.toNat (r.l.rs.toNat - 1) ((74+r.h.slot*r.l.rs).toNat+1)
 have hle:p.1+a1K p.2<=59*(r.l.rs.toNat - 1):=Nat.le_trans h1 hl
 have ht:=d0E v.image r.h.seq.toNat ((p.1+a1K p.2+58) / 59) (r.l.rs.toNat - 1) ((74+r.h.slot*r.l.rs).toNat+1) (by omega)
 have e1:((p.1:Int)+(a1K p.2:Int)).toNat=p.1+a1K p.2:=by omega
 generalize a5g v.image r.h.seq.toNat (r.l.rs.toNat - 1) ((74+r.h.slot*r.l.rs).toNat+1)=b at *
 have h5:((b.take (59*((p.1+a1K p.2+58) / 59))).drop p.1).take (a1K p.2)=(b.drop p.1).take (a1K p.2):=by
  rw [List.drop_take,List.take_take,Nat.min_eq_left (by omega)]
 refine ⟨(b.drop p.1).take (a1K p.2),?_,by rw [List.length_take,List.length_drop];omega,by omega,?_⟩
 ·unfold d0S
  rw [e1,b1G hv,ht,Int.toNat_natCast,Int.toNat_natCast,h5]
  rw [if_pos ⟨by omega,by omega,by omega,hs,hq1,hq2,by rw [List.length_take];omega⟩]
 rw [<- h3.2.2]
 have:=b6q (ver:=r.l.ver) (seq:=r.h.seq.toNat) (off:=p.1) h3.2.1 []
 rw [List.append_nil] at this
 exact this
theorem d0Q{rs:List Rg}(h:rs.Pairwise fun a b=>a.h.seq<b.h.seq){a b:Rg}(ha:a∈rs)(hb:b∈rs)(e:a.h.seq=b.h.seq):a=b:=by
 obtain ⟨i,hi,rfl⟩:=List.mem_iff_getElem.1 ha
 obtain ⟨j,hj,rfl⟩:=List.mem_iff_getElem.1 hb
 rw [List.pairwise_iff_getElem] at h
 rcases Nat.lt_trichotomy i j with h1|h1|h1
 ·have:=h i j hi hj h1;omega
 ·subst h1;rfl
 ·have:=h j i hj hi h1;omega
def knB(r:Rg)(l:La):Bool:=decide (l.id=r.l.id)&&(decide (l.ver=r.l.ver)&&(decide (l.rs=r.l.rs)&&(decide (l.regs=r.l.regs)&&true)))
theorem d0H(X:Nat->Prop)(s:Sb)(ps:List Pt)(hp:∀p∈ps,c8Y p)(hpl:ps.length<=maxLen)(now:Int):a0b (E0 X) 6 [sbA s,.sl 33 (ps.map ptA),.int .i64 now] [] (fun r H'=>r=.bool true/\H'=[]):=by
 refine a0b.cut0 ?_ trivial
 have hpp:∀{n},a0g n (.sl 33 (ps.map ptA)):=c2L ps
 have hsi:∀{n},a0g n (.fp (sbL s)):=b0u s
 have hdv:=c0k X s ps hp hpl
 refine Z0 Proofs.Tryz.func6 rfl Proofs.Tryz.ntmps6 (by kernel_rfl) rfl ?_
 refine Zc rfl (Zc rfl (Zs rfl (Zs rfl (Zh ?_))))
 refine Kz 0 [1,2,3,6] 0 a2T rfl rfl ⟨hpp,trivial,hsi,trivial,trivial⟩ ?_
 repeat' (first|refine Zs rfl ?_|refine Zc rfl ?_|refine Zd rfl ?_|refine Qh ?_|refine Qk ?_|refine Zk ?_|refine Qw (by kernel_rfl) ?_|refine Zt rfl ?_)
 refine Qa rfl ?_
 refine a1h (fun _=>rfl) rfl ?_
 refine a0b.mono hdv ?_
 rintro r H' (⟨img,hd,rfl,rfl⟩|⟨rfl,rfl,-⟩)
 rotate_left
 ·first|refine nx rfl rfl ?_|refine nx0 ?_
  repeat' (first|refine Zs rfl ?_|refine Zc rfl ?_|refine Zd rfl ?_|refine Qh ?_|refine Qk ?_|refine Zk ?_|refine Qw (by kernel_rfl) ?_|refine Zt rfl ?_)
  refine Zp rfl rfl (b0g X) rfl ?_
  repeat' (first|refine Zs rfl ?_|refine Zc rfl ?_|refine Zd rfl ?_|refine Qh ?_|refine Qk ?_|refine Zk ?_|refine Qw (by kernel_rfl) ?_|refine Zt rfl ?_)
  refine a0c ⟨_,rfl,rfl⟩
 first|refine nx rfl rfl ?_|refine nx0 ?_
 obtain ⟨hok,him⟩:=d0u hd
 clear hdv hd
 repeat' (first|refine Zs rfl ?_|refine Zc rfl ?_|refine Zd rfl ?_|refine Qh ?_|refine Qk ?_|refine Zk ?_|refine Qw (by kernel_rfl) ?_|refine Zt rfl ?_)
 refine Qa rfl ?_
 refine a1h (fun _=>rfl) rfl ?_
 refine a0b.mono (a9V X img (by omega)) ?_
 rintro r H' (⟨-,rfl,rfl⟩|⟨h,-,-⟩)
 rotate_left
 ·exact absurd hok h
 first|refine nx rfl rfl ?_|refine nx0 ?_
 have hlv:Lv img.length (Dv.fresh img):=a9Y hok
 have hbv:∀s,a2R (Dv.fresh img)=some s->sbB s=true:=fun s h=>a9U h
 have hvi:=hlv.inv
 have himg:(Dv.fresh img).image=img:=rfl
 have hldx:=b7l X (Dv.fresh img) img.length hlv (by omega) now
 have hreg:=fun (r:Rg) hs hh p (h:p∈a9k img r)=>d0I hlv (r:=r) hs hh (p:=p) h
 generalize Dv.fresh img=v at *
 repeat' (first|refine Zs rfl ?_|refine Zc rfl ?_|refine Zd rfl ?_|refine Qh ?_|refine Qk ?_|refine Zk ?_|refine Qw (by kernel_rfl) ?_|refine Zt rfl ?_)
 refine Zx (ι:=RSt × Int) (P:=fun q=>a4x img (a2R v) (fun s=>!(a1n s).any (nfB v)) (fun s=>a8K v s.mig) now q.1 q.2) (r0:=fun q=>.tup [.agg (rsL q.1),.int .i64 q.2]) (h0:=fun _=>a1c v) rfl rfl (hldx.mono fun r H' ⟨x,e,h1,h2,h3⟩=>⟨(x,e),by rw [himg] at h1;exact h1,h2,h3⟩) rfl ?_
 rintro ⟨x,e⟩ hx
 replace hx:a4x img (a2R v) (fun s=>!(a1n s).any (nfB v)) (fun s=>a8K v s.mig) now x e:=hx
 obtain ⟨hs1,hs2,hs3⟩:=hx.small hbv (by omega)
 dsimp only
 repeat' (first|refine Zs rfl ?_|refine Zd rfl ?_|refine Zk ?_|refine Zt rfl ?_)
 have hxi:∀{n},a0g n (.fp (rsL x)):=a6D x
 refine Zh (Kz 3 [9,10,11] 3 (a1N v) rfl rfl ⟨Nat.zero_lt_succ 2,hxi,trivial,trivial⟩ ?_)
 repeat' (first|refine Zs rfl ?_|refine Zc rfl ?_|refine Zd rfl ?_|refine Qh ?_|refine Qk ?_|refine Zk ?_|refine Qw (by kernel_rfl) ?_|refine Zt rfl ?_)
 by_cases he:e≠0
 ·rw [decide_eq_true he]
  have hz:=hx.zero he
  subst hz
  repeat' (first|refine Zs rfl ?_|refine Zc rfl ?_|refine Zd rfl ?_|refine Qh ?_|refine Qk ?_|refine Zk ?_|refine Qw (by kernel_rfl) ?_|refine Zt rfl ?_)
  refine Zp rfl rfl (b0g X) rfl ?_
  repeat' (first|refine Zs rfl ?_|refine Zc rfl ?_|refine Zd rfl ?_|refine Qh ?_|refine Qk ?_|refine Zk ?_|refine Qw (by kernel_rfl) ?_|refine Zt rfl ?_)
  refine a0c ⟨_,rfl,rfl⟩
 rw [decide_eq_false he]
 rcases hx with ⟨-,_,_,s0,h1,-,hx⟩|⟨h1,_⟩|⟨h1,_⟩
 rotate_left
 ·exact absurd (by rw [h1];decide) he
 ·exact absurd (by rw [h1];decide) he
 have hform:=hx.form (hbv s0 h1)
 have hpair:=fun k e (h:(k,e)∈x.ps)=>hx.pair h
 have hrok:∀r∈x.rs,a3M r.l r.h.slot/\hdB r.h=true/\(r.l.ver=1\/r.l.ver=2):=fun r hr=>by
  obtain ⟨srt,h3,h4⟩:=hx.live
  rw [h4] at hr
  have h5:=(b3s (h3.1.mem_iff.1 ((d0F _ _).subset (List.mem_reverse.1 hr)))).1
  exact ⟨h5.slot,h5.hd,c0x h5.slot.1⟩
 have hxs:x.s=s0:=hx.sb
 clear hx hldx
 have hlay:=a8k x.s (by omega) X
 rw [<- hxs] at hform
 have hll:(a1n x.s).length=x.s.fo.length+1:=rfl
 have hly:∀{n},a0e n ((a1n x.s).map laA):=a1k _
 have hrg:∀{n},a0e n (x.rs.map rgA):=a0Y _
 repeat' (first|refine Zs rfl ?_|refine Zc rfl ?_|refine Zd rfl ?_|refine Qh ?_|refine Qk ?_|refine Zk ?_|refine Qw (by kernel_rfl) ?_|refine Zt rfl ?_)
 refine a0q (fun i:Nat=>⟨[(9,.ptr 0 0),(10,.fp (rsL x)),(61,.sl 10 (x.rs.map rgA)),(62,.int .i64 (x.rs.length:Int)),(63,.int .i64 (i:Int))],a1c v⟩) (fun i=>i<=x.rs.length) (fun i=>x.rs.length - i) 0 (Nat.zero_le _) ?_ ?_
 ·refine a0i 3 (Nat.zero_le _) (a1N v) rfl (Nat.le_refl 3) ?_
  exact a0a ⟨rfl,Nat.zero_lt_succ 2⟩ (a0a ⟨rfl,hxi⟩ (a0a ⟨rfl,hrg⟩ (a0a ⟨by rw [List.length_map];rfl,trivial⟩ (a0a ⟨rfl,trivial⟩ a0k))))
 intro i hi
 repeat' (first|refine Zs rfl ?_|refine Zc rfl ?_|refine Zd rfl ?_|refine Qh ?_|refine Qk ?_|refine Zk ?_|refine Qw (by kernel_rfl) ?_|refine Zt rfl ?_)
 refine a0d rfl (fun h3=>?_) (fun h3=>?_)
 ·have hil:i<x.rs.length:=by omega
  obtain ⟨r,hr,_,_⟩:=b5L hil
  have hrm:=List.mem_of_getElem? hr
  have hiw:IntKind.i64.wrap ((i:Int)+1)=((i+1:Nat):Int):=a0p (by omega) (by omega)
  have hri:∀{n},a0g n (.fp (rgL r)):=a2A r
  repeat' (first|refine Zs rfl ?_|refine Zc rfl ?_|refine Zd rfl ?_|refine Qh ?_|refine Qk ?_|refine Zk ?_|refine Qw (by kernel_rfl) ?_|refine Zt rfl ?_)
  refine Qa rfl ?_
  refine a0y hr rfl rfl rfl rfl rfl rfl rfl (by first|rfl|omega) rfl ?_
  first|refine nx rfl rfl ?_|refine nx0 ?_
  repeat' (first|refine Zs rfl ?_|refine Zd rfl ?_|refine Zk ?_|refine Zt rfl ?_)
  refine Zh (Kz 3 [9,10,12,13,61,62,63] 3 (a1N v) rfl rfl ⟨Nat.zero_lt_succ 2,hxi,trivial,hri,hrg,trivial,trivial,trivial⟩ ?_)
  repeat' (first|refine Zs rfl ?_|refine Zc rfl ?_|refine Zd rfl ?_|refine Qh ?_|refine Qk ?_|refine Zk ?_|refine Qw (by kernel_rfl) ?_|refine Zt rfl ?_)
  refine Zp rfl rfl (hlay) rfl ?_
  repeat' (first|refine Zs rfl ?_|refine Zc rfl ?_|refine Zd rfl ?_|refine Qh ?_|refine Qk ?_|refine Zk ?_|refine Qw (by kernel_rfl) ?_|refine Zt rfl ?_)
  refine a0q (fun k:Nat=>⟨[(9,.ptr 0 0),(10,.fp (rsL x)),(12,.int .i64 (i:Int)),(13,.fp (rgL r)),(14,.bool (((a1n x.s).take k).any (knB r))),(61,.sl 10 (x.rs.map rgA)),(62,.int .i64 (x.rs.length:Int)),(63,.int .i64 (i:Int)),(70,.sl 4 ((a1n x.s).map laA)),(71,.int .i64 ((a1n x.s).length:Int)),(72,.int .i64 (k:Int))],a1c v⟩) (fun k=>k<=(a1n x.s).length) (fun k=>(a1n x.s).length - k) 0 (Nat.zero_le _) ?_ ?_
  ·refine a0i 3 (Nat.zero_le _) (a1N v) rfl (Nat.le_refl 3) ?_
   exact a0a ⟨rfl,Nat.zero_lt_succ 2⟩ (a0a ⟨rfl,hxi⟩ (a0a ⟨rfl,trivial⟩ (a0a ⟨rfl,hri⟩ (a0a ⟨rfl,trivial⟩ (a0a ⟨rfl,hrg⟩ (a0a ⟨rfl,trivial⟩ (a0a ⟨rfl,trivial⟩ (a0a ⟨rfl,hly⟩ (a0a ⟨by rw [List.length_map];rfl,trivial⟩ (a0a ⟨rfl,trivial⟩ a0k))))))))))
  intro k hk
  repeat' (first|refine Zs rfl ?_|refine Zc rfl ?_|refine Zd rfl ?_|refine Qh ?_|refine Qk ?_|refine Zk ?_|refine Qw (by kernel_rfl) ?_|refine Zt rfl ?_)
  refine a0d rfl (fun h4=>?_) (fun h4=>?_)
  ·have hkl:k<(a1n x.s).length:=by omega
   obtain ⟨l,hl⟩:∃l,(a1n x.s)[k]?=some l:=⟨_,List.getElem?_eq_getElem hkl⟩
   have hkw:IntKind.i64.wrap ((k:Int)+1)=((k+1:Nat):Int):=a0p (by omega) (by omega)
   have hli:∀{n},a0g n (.fp (laL l)):=fun {n}=>(a1u:a0g n (laA l))
   have hsn:((a1n x.s).take (k+1)).any (knB r)=(((a1n x.s).take k).any (knB r) || knB r l):=by
    rw [List.take_add_one,hl,List.any_append];simp
   generalize hkn:((a1n x.s).take k).any (knB r)=kn at *
   repeat' (first|refine Zs rfl ?_|refine Zc rfl ?_|refine Zd rfl ?_|refine Qh ?_|refine Qk ?_|refine Zk ?_|refine Qw (by kernel_rfl) ?_|refine Zt rfl ?_)
   refine Qa rfl ?_
   refine a0y hl rfl rfl rfl rfl rfl rfl rfl (by first|rfl|omega) rfl ?_
   first|refine nx rfl rfl ?_|refine nx0 ?_
   repeat' (first|refine Zs rfl ?_|refine Zd rfl ?_|refine Zk ?_|refine Zt rfl ?_)
   refine Zh (Kz 3 [9,10,12,13,14,16,61,62,63,70,71,72] 3 (a1N v) rfl rfl ⟨Nat.zero_lt_succ 2,hxi,trivial,hri,trivial,hli,hrg,trivial,trivial,hly,trivial,trivial,trivial⟩ ?_)
   have hcu:∀(b:Bool) (sl:List (Nat × AV)),b=(kn || knB r l)->get sl 9=.ptr 0 0->get sl 10=.fp (rsL x)->get sl 12=.int .i64 (i:Int)->get sl 13=.fp (rgL r)->get sl 14=.bool b->get sl 61=.sl 10 (x.rs.map rgA)->get sl 62=.int .i64 (x.rs.length:Int)->get sl 63=.int .i64 (i:Int)->get sl 70=.sl 4 ((a1n x.s).map laA)->get sl 71=.int .i64 ((a1n x.s).length:Int)->get sl 72=.int .i64 (IntKind.i64.wrap ((k:Int)+1)) ->
     ∃j,j<=(a1n x.s).length/\(a1n x.s).length - j<(a1n x.s).length - k/\Imp (E0 X) 251 0 ⟨sl,a1c v⟩ ⟨[(9,.ptr 0 0),(10,.fp (rsL x)),(12,.int .i64 (i:Int)),(13,.fp (rgL r)),(14,.bool (((a1n x.s).take j).any (knB r))),(61,.sl 10 (x.rs.map rgA)),(62,.int .i64 (x.rs.length:Int)),(63,.int .i64 (i:Int)),(70,.sl 4 ((a1n x.s).map laA)),(71,.int .i64 ((a1n x.s).length:Int)),(72,.int .i64 (j:Int))],a1c v⟩:=fun b sl h0 a1 a2 a3 a4 a5 a6 a7 a8 a9 b1 b2 =>
    ⟨k+1,hkl,by omega,a0i 3 (Nat.zero_le _) (a1N v) rfl (Nat.le_refl 3) (a0a ⟨a1,Nat.zero_lt_succ 2⟩ (a0a ⟨a2,hxi⟩ (a0a ⟨a3,trivial⟩ (a0a ⟨a4,hri⟩ (a0a ⟨by rw [hsn,<- h0];exact a5,trivial⟩ (a0a ⟨a6,hrg⟩ (a0a ⟨a7,trivial⟩ (a0a ⟨a8,trivial⟩ (a0a ⟨a9,hly⟩ (a0a ⟨b1,trivial⟩ (a0a ⟨by rw [<- hkw];exact b2,trivial⟩ a0k)))))))))))⟩
   repeat' (first|refine Zs rfl ?_|refine Zc rfl ?_|refine Zd rfl ?_|refine Qh ?_|refine Qk ?_|refine Zk ?_|refine Qw (by kernel_rfl) ?_|refine Zt rfl ?_)
   cases kn with
   | true =>
    repeat' (first|refine Zs rfl ?_|refine Zc rfl ?_|refine Zd rfl ?_|refine Qh ?_|refine Qk ?_|refine Zk ?_|refine Qw (by kernel_rfl) ?_|refine Zt rfl ?_)
    exact hcu true _ rfl rfl rfl rfl rfl rfl rfl rfl rfl rfl rfl rfl
   | false =>
    repeat' (first|refine Zs rfl ?_|refine Zc rfl ?_|refine Zd rfl ?_|refine Qh ?_|refine Qk ?_|refine Zk ?_|refine Qw (by kernel_rfl) ?_|refine Zt rfl ?_)
    exact hcu (knB r l) _ rfl rfl rfl rfl rfl rfl rfl rfl rfl rfl rfl rfl
  have hkk:k=(a1n x.s).length:=by omega
  subst hkk
  rw [List.take_length,List.any_eq_true.2 ⟨r.l,hform.known r hrm,by unfold knB;rw [decide_eq_true rfl,decide_eq_true rfl,decide_eq_true rfl,decide_eq_true rfl];rfl⟩]
  have hlt:=hform.next r hrm
  have hge:=hform.tail r hrm
  repeat' (first|refine Zs rfl ?_|refine Zc rfl ?_|refine Zd rfl ?_|refine Qh ?_|refine Qk ?_|refine Zk ?_|refine Qw (by kernel_rfl) ?_|refine Zt rfl ?_)
  refine a3f (s1:=⟨[(9,.ptr 0 0),(10,.fp (rsL x)),(12,.int .i64 (i:Int)),(13,.fp (rgL r)),(61,.sl 10 (x.rs.map rgA)),(62,.int .i64 (x.rs.length:Int)),(63,.int .i64 (i:Int)),(119,.bool false)],a1c v⟩) ?_ ?_
  ·refine a0m [] [] (by exact rfl) (by kernel_rfl) ?_
   repeat' (first|refine Zs rfl ?_|refine Zc rfl ?_|refine Zd rfl ?_|refine Qh ?_|refine Qk ?_|refine Zk ?_|refine Qw (by kernel_rfl) ?_|refine Zt rfl ?_)
   rw [decide_eq_false (show ¬ r.h.seq<x.tail by omega)]
   repeat' (first|refine Zs rfl ?_|refine Zc rfl ?_|refine Zd rfl ?_|refine Qh ?_|refine Qk ?_|refine Zk ?_|refine Qw (by kernel_rfl) ?_|refine Zt rfl ?_)
   rw [decide_eq_false (show ¬ r.h.seq >= x.next by omega)]
   repeat' (first|refine Zs rfl ?_|refine Zc rfl ?_|refine Zd rfl ?_|refine Qh ?_|refine Qk ?_|refine Zk ?_|refine Qw (by kernel_rfl) ?_|refine Zt rfl ?_)
   by_cases hi0:i=0
   ·rw [decide_eq_false (show ¬ (i:Int) > 0 by omega)]
    repeat' (first|refine Zs rfl ?_|refine Zc rfl ?_|refine Zd rfl ?_|refine Qh ?_|refine Qk ?_|refine Zk ?_|refine Qw (by kernel_rfl) ?_|refine Zt rfl ?_)
    exact ⟨rfl,kk 3 (a1N v) rfl ⟨Nat.zero_lt_succ 2,hxi,trivial,hri,hrg,trivial,trivial,trivial,trivial⟩⟩
   rw [decide_eq_true (show (i:Int) > 0 by omega)]
   obtain ⟨q,hq,_,_⟩:=b5L (show i - 1<x.rs.length by omega)
   have hqs:q.h.seq<r.h.seq:=by
    obtain ⟨h5,rfl⟩:=List.getElem?_eq_some_iff.1 hq
    obtain ⟨h6,rfl⟩:=List.getElem?_eq_some_iff.1 hr
    exact List.pairwise_iff_getElem.1 hform.asc (i - 1) i h5 h6 (by omega)
   have hwi:IntKind.i64.wrap ((i:Int) - 1)=((i - 1:Nat):Int):=a0u (by omega) (by omega) (by omega)
   repeat' (first|refine Zs rfl ?_|refine Zc rfl ?_|refine Zd rfl ?_|refine Qh ?_|refine Qk ?_|refine Zk ?_|refine Qw (by kernel_rfl) ?_|refine Zt rfl ?_)
   rw [hwi]
   apply ds rfl rfl rfl rfl
   ·refine a0y hq rfl rfl rfl rfl rfl rfl rfl (by first|rfl|omega) rfl ?_
    first|exact nx rfl rfl ⟨rfl,rfl⟩|exact nx0 ⟨rfl,rfl⟩
   repeat' (first|refine Zs rfl ?_|refine Zc rfl ?_|refine Zd rfl ?_|refine Qh ?_|refine Qk ?_|refine Zk ?_|refine Qw (by kernel_rfl) ?_|refine Zt rfl ?_)
   rw [decide_eq_false (show ¬ q.h.seq >= r.h.seq by omega)]
   repeat' (first|refine Zs rfl ?_|refine Zc rfl ?_|refine Zd rfl ?_|refine Qh ?_|refine Qk ?_|refine Zk ?_|refine Qw (by kernel_rfl) ?_|refine Zt rfl ?_)
   exact ⟨rfl,kk 3 (a1N v) rfl ⟨Nat.zero_lt_succ 2,hxi,trivial,hri,hrg,trivial,trivial,trivial,trivial⟩⟩
  repeat' (first|refine Zs rfl ?_|refine Zc rfl ?_|refine Zd rfl ?_|refine Qh ?_|refine Qk ?_|refine Zk ?_|refine Qw (by kernel_rfl) ?_|refine Zt rfl ?_)
  refine a0q (fun k:Nat=>⟨[(9,.ptr 0 0),(10,.fp (rsL x)),(12,.int .i64 (i:Int)),(13,.fp (rgL r)),(17,.int .i64 (k:Int)),(61,.sl 10 (x.rs.map rgA)),(62,.int .i64 (x.rs.length:Int)),(63,.int .i64 (i:Int))],a1c v⟩) (fun k=>k<=i) (fun k=>i - k) 0 (Nat.zero_le _) ?_ ?_
  ·exact kk 3 (a1N v) rfl ⟨Nat.zero_lt_succ 2,hxi,trivial,hri,trivial,hrg,trivial,trivial,trivial⟩
  intro k hk
  repeat' (first|refine Zs rfl ?_|refine Zc rfl ?_|refine Zd rfl ?_|refine Qh ?_|refine Qk ?_|refine Zk ?_|refine Qw (by kernel_rfl) ?_|refine Zt rfl ?_)
  refine a0d rfl (fun h5=>?_) (fun h5=>?_)
  ·have hki:k<i:=by omega
   obtain ⟨q,hq,_,_⟩:=b5L (show k<x.rs.length by omega)
   have hov:ovB r.l r.h.slot q.l q.h.slot=false:=by
    obtain ⟨h5,rfl⟩:=List.getElem?_eq_some_iff.1 hq
    obtain ⟨h6,rfl⟩:=List.getElem?_eq_some_iff.1 hr
    exact List.pairwise_iff_getElem.1 hform.apart k i h5 h6 hki
   have hro:=b5k r.l r.h.slot q.l q.h.slot X
   rw [hov] at hro
   have hkw:IntKind.i64.wrap ((k:Int)+1)=((k+1:Nat):Int):=a0p (by omega) (by omega)
   repeat' (first|refine Zs rfl ?_|refine Zc rfl ?_|refine Zd rfl ?_|refine Qh ?_|refine Qk ?_|refine Zk ?_|refine Qw (by kernel_rfl) ?_|refine Zt rfl ?_)
   refine a0m [] [] (by exact rfl) (by kernel_rfl) ?_
   repeat' (first|refine Zs rfl ?_|refine Zc rfl ?_|refine Zd rfl ?_|refine Qh ?_|refine Qk ?_|refine Zk ?_|refine Qw (by kernel_rfl) ?_|refine Zt rfl ?_)
   apply ds rfl rfl rfl rfl
   ·refine a0y hq rfl rfl rfl rfl rfl rfl rfl (by first|rfl|omega) rfl ?_
    first|exact nx rfl rfl ⟨rfl,rfl⟩|exact nx0 ⟨rfl,rfl⟩
   repeat' (first|refine Zs rfl ?_|refine Zc rfl ?_|refine Zd rfl ?_|refine Qh ?_|refine Qk ?_|refine Zk ?_|refine Qw (by kernel_rfl) ?_|refine Zt rfl ?_)
   apply ds rfl rfl rfl rfl
   ·refine a0y hq rfl rfl rfl rfl rfl rfl rfl (by first|rfl|omega) rfl ?_
    first|exact nx rfl rfl ⟨rfl,rfl⟩|exact nx0 ⟨rfl,rfl⟩
   repeat' (first|refine Zs rfl ?_|refine Zc rfl ?_|refine Zd rfl ?_|refine Qh ?_|refine Qk ?_|refine Zk ?_|refine Qw (by kernel_rfl) ?_|refine Zt rfl ?_)
   refine Zq rfl rfl rfl rfl (hro) rfl ?_
   repeat' (first|refine Zs rfl ?_|refine Zc rfl ?_|refine Zd rfl ?_|refine Qh ?_|refine Qk ?_|refine Zk ?_|refine Qw (by kernel_rfl) ?_|refine Zt rfl ?_)
   rw [hkw]
   exact ⟨k+1,hki,by omega,kk 3 (a1N v) rfl ⟨Nat.zero_lt_succ 2,hxi,trivial,hri,trivial,hrg,trivial,trivial,trivial⟩⟩
  repeat' (first|refine Zs rfl ?_|refine Zc rfl ?_|refine Zd rfl ?_|refine Qh ?_|refine Qk ?_|refine Zk ?_|refine Qw (by kernel_rfl) ?_|refine Zt rfl ?_)
  rw [hiw]
  exact ⟨i+1,hil,by omega,kk 3 (a1N v) rfl ⟨Nat.zero_lt_succ 2,hxi,hrg,trivial,trivial,trivial⟩⟩
 have hii:i=x.rs.length:=by omega
 have hpi:∀{n},a0e n (x.ps.map prA):=a0x (Nat.zero_le _) (a2b x.ps)
 clear hii
 repeat' (first|refine Zs rfl ?_|refine Zc rfl ?_|refine Zd rfl ?_|refine Qh ?_|refine Qk ?_|refine Zk ?_|refine Qw (by kernel_rfl) ?_|refine Zt rfl ?_)
 refine a0q (fun j:Nat=>⟨[(9,.ptr 0 0),(10,.fp (rsL x)),(146,.sl 6 (x.ps.map prA)),(147,.int .i64 (x.ps.length:Int)),(148,.int .i64 (j:Int))],a1c v⟩) (fun j=>j<=x.ps.length) (fun j=>x.ps.length - j) 0 (Nat.zero_le _) ?_ ?_
 ·refine a0i 3 (Nat.zero_le _) (a1N v) rfl (Nat.le_refl 3) ?_
  exact a0a ⟨rfl,Nat.zero_lt_succ 2⟩ (a0a ⟨rfl,hxi⟩ (a0a ⟨rfl,hpi⟩ (a0a ⟨by rw [List.length_map];rfl,trivial⟩ (a0a ⟨rfl,trivial⟩ a0k))))
 intro j hj
 repeat' (first|refine Zs rfl ?_|refine Zc rfl ?_|refine Zd rfl ?_|refine Qh ?_|refine Qk ?_|refine Zk ?_|refine Qw (by kernel_rfl) ?_|refine Zt rfl ?_)
 refine a0d rfl (fun h6=>?_) (fun h6=>?_)
 ·have hjl:j<x.ps.length:=by omega
  obtain ⟨⟨ky,en⟩,hp0⟩:∃p,x.ps[j]?=some p:=⟨_,List.getElem?_eq_getElem hjl⟩
  obtain ⟨r,hrm,p,hpr,hk1,hk2,hen,hexp⟩:=hpair ky en (List.mem_of_getElem? hp0)
  obtain ⟨hsl,hhd,hver⟩:=hrok r hrm
  subst hen
  obtain ⟨b,hb1,hb2,hb4,hb3⟩:=hreg r hsl hhd p hpr
  have hjw:IntKind.i64.wrap ((j:Int)+1)=((j+1:Nat):Int):=a0p (by omega) (by omega)
  repeat' (first|refine Zs rfl ?_|refine Zc rfl ?_|refine Zd rfl ?_|refine Qh ?_|refine Qk ?_|refine Zk ?_|refine Qw (by kernel_rfl) ?_|refine Zt rfl ?_)
  refine Qa rfl ?_
  refine a0y hp0 rfl rfl rfl rfl rfl rfl rfl (by first|rfl|omega) rfl ?_
  first|refine nx rfl rfl ?_|refine nx0 ?_
  repeat' (first|refine Zs rfl ?_|refine Zd rfl ?_|refine Zk ?_|refine Zt rfl ?_)
  have hsq0:(0:Int)<=r.h.seq:=by have:=a8f hhd;omega
  have hpc:∀{n},a0g n (.fp [.str ky,.int .i64 r.h.seq,.int .i64 (p.1:Int),.int .i64 (a1K p.2:Int),.int .i64 p.2.exp,.bool false]):=⟨trivial,trivial,trivial,trivial,trivial,trivial,trivial⟩
  refine Zh (Kz 3 [9,10,19,146,147,148] 3 (a1N v) rfl rfl ⟨Nat.zero_lt_succ 2,hxi,hpc,hpi,trivial,trivial,trivial⟩ ?_)
  have hby:=d0O X v hvi r.l r.h.slot r.h.seq (p.1:Int) (a1K p.2:Int)
  rw [hb1] at hby
  have hde:Pur (E0 X) 25 [.int .i64 r.l.ver,.int .i64 r.h.seq,.int .i64 (p.1:Int),.sl 1 (b.map u8A)] (.tup [a6Z p.2,.int .i64 (a1K p.2:Int),.bool true]):=⟨⟨trivial,trivial,trivial,(a0h fun _=>a0n:a0e _ (b.map u8A)),trivial⟩,fun Y=>by
   have h:=c4Z Y r.l.ver hver r.h.seq.toNat p.1 b (by have:=a8f hhd;omega) (by omega) (by omega)
   rw [hb3,Int.toNat_of_nonneg hsq0] at h
   exact h⟩
  repeat' (first|refine Zs rfl ?_|refine Zc rfl ?_|refine Zd rfl ?_|refine Qh ?_|refine Qk ?_|refine Zk ?_|refine Qw (by kernel_rfl) ?_|refine Zt rfl ?_)
  refine a0q (fun m:Nat=>⟨[(9,.ptr 0 0),(10,.fp (rsL x)),(19,.fp [.str ky,.int .i64 r.h.seq,.int .i64 (p.1:Int),.int .i64 (a1K p.2:Int),.int .i64 p.2.exp,.bool false]),(20,.bool ((x.rs.take m).any fun q=>decide (q.h.seq=r.h.seq))),(146,.sl 6 (x.ps.map prA)),(147,.int .i64 (x.ps.length:Int)),(148,.int .i64 (j:Int)),(153,.sl 10 (x.rs.map rgA)),(154,.int .i64 (x.rs.length:Int)),(155,.int .i64 (m:Int))],a1c v⟩) (fun m=>m<=x.rs.length) (fun m=>x.rs.length - m) 0 (Nat.zero_le _) ?_ ?_
  ·refine a0i 3 (Nat.zero_le _) (a1N v) rfl (Nat.le_refl 3) ?_
   exact a0a ⟨rfl,Nat.zero_lt_succ 2⟩ (a0a ⟨rfl,hxi⟩ (a0a ⟨rfl,hpc⟩ (a0a ⟨rfl,trivial⟩ (a0a ⟨rfl,hpi⟩ (a0a ⟨rfl,trivial⟩ (a0a ⟨rfl,trivial⟩ (a0a ⟨rfl,hrg⟩ (a0a ⟨by rw [List.length_map];rfl,trivial⟩ (a0a ⟨rfl,trivial⟩ a0k)))))))))
  intro m hm
  repeat' (first|refine Zs rfl ?_|refine Zc rfl ?_|refine Zd rfl ?_|refine Qh ?_|refine Qk ?_|refine Zk ?_|refine Qw (by kernel_rfl) ?_|refine Zt rfl ?_)
  refine a0d rfl (fun h7=>?_) (fun h7=>?_)
  ·have hml:m<x.rs.length:=by omega
   obtain ⟨q,hq,_,_⟩:=b5L hml
   have hqm:=List.mem_of_getElem? hq
   have hmw:IntKind.i64.wrap ((m:Int)+1)=((m+1:Nat):Int):=a0p (by omega) (by omega)
   have hqi:∀{n},a0g n (.fp (rgL q)):=a2A q
   have hsn:((x.rs.take (m+1)).any fun q=>decide (q.h.seq=r.h.seq))=(((x.rs.take m).any fun q=>decide (q.h.seq=r.h.seq)) || decide (q.h.seq=r.h.seq)):=by
    rw [List.take_add_one,hq,List.any_append];simp
   generalize hkn:((x.rs.take m).any fun q=>decide (q.h.seq=r.h.seq))=kn at *
   have hcu:∀(b:Bool) (sl:List (Nat × AV)) (hp:Hp),b=(kn || decide (q.h.seq=r.h.seq))->hp.take 3=a1c v->3<=hp.length->get sl 9=.ptr 0 0->get sl 10=.fp (rsL x)->get sl 19=.fp [.str ky,.int .i64 r.h.seq,.int .i64 (p.1:Int),.int .i64 (a1K p.2:Int),.int .i64 p.2.exp,.bool false]->get sl 20=.bool b->get sl 146=.sl 6 (x.ps.map prA)->get sl 147=.int .i64 (x.ps.length:Int)->get sl 148=.int .i64 (j:Int)->get sl 153=.sl 10 (x.rs.map rgA)->get sl 154=.int .i64 (x.rs.length:Int)->get sl 155=.int .i64 (IntKind.i64.wrap ((m:Int)+1)) ->
     ∃m',m'<=x.rs.length/\x.rs.length - m'<x.rs.length - m/\Imp (E0 X) 251 0 ⟨sl,hp⟩ ⟨[(9,.ptr 0 0),(10,.fp (rsL x)),(19,.fp [.str ky,.int .i64 r.h.seq,.int .i64 (p.1:Int),.int .i64 (a1K p.2:Int),.int .i64 p.2.exp,.bool false]),(20,.bool ((x.rs.take m').any fun q=>decide (q.h.seq=r.h.seq))),(146,.sl 6 (x.ps.map prA)),(147,.int .i64 (x.ps.length:Int)),(148,.int .i64 (j:Int)),(153,.sl 10 (x.rs.map rgA)),(154,.int .i64 (x.rs.length:Int)),(155,.int .i64 (m':Int))],a1c v⟩:=fun b sl hp h0 h1 h2 a1 a2 a3 a4 a5 a6 a7 a8 a9 b1 =>
    ⟨m+1,hml,by omega,a0i 3 (Nat.zero_le _) (a1N v) h1 h2 (a0a ⟨a1,Nat.zero_lt_succ 2⟩ (a0a ⟨a2,hxi⟩ (a0a ⟨a3,hpc⟩ (a0a ⟨by rw [hsn,<- h0];exact a4,trivial⟩ (a0a ⟨a5,hpi⟩ (a0a ⟨a6,trivial⟩ (a0a ⟨a7,trivial⟩ (a0a ⟨a8,hrg⟩ (a0a ⟨a9,trivial⟩ (a0a ⟨by rw [<- hmw];exact b1,trivial⟩ a0k))))))))))⟩
   repeat' (first|refine Zs rfl ?_|refine Zc rfl ?_|refine Zd rfl ?_|refine Qh ?_|refine Qk ?_|refine Zk ?_|refine Qw (by kernel_rfl) ?_|refine Zt rfl ?_)
   refine Qa rfl ?_
   refine a0y hq rfl rfl rfl rfl rfl rfl rfl (by first|rfl|omega) rfl ?_
   first|refine nx rfl rfl ?_|refine nx0 ?_
   repeat' (first|refine Zs rfl ?_|refine Zd rfl ?_|refine Zk ?_|refine Zt rfl ?_)
   refine Zh (Kz 3 [9,10,19,20,22,146,147,148,153,154,155] 3 (a1N v) rfl rfl ⟨Nat.zero_lt_succ 2,hxi,hpc,trivial,hqi,hpi,trivial,trivial,hrg,trivial,trivial,trivial⟩ ?_)
   repeat' (first|refine Zs rfl ?_|refine Zc rfl ?_|refine Zd rfl ?_|refine Qh ?_|refine Qk ?_|refine Zk ?_|refine Qw (by kernel_rfl) ?_|refine Zt rfl ?_)
   by_cases hqs:q.h.seq≠r.h.seq
   ·rw [decide_eq_true hqs]
    repeat' (first|refine Zs rfl ?_|refine Zc rfl ?_|refine Zd rfl ?_|refine Qh ?_|refine Qk ?_|refine Zk ?_|refine Qw (by kernel_rfl) ?_|refine Zt rfl ?_)
    exact hcu kn _ _ (by rw [decide_eq_false hqs,Bool.or_false]) rfl (Nat.le_refl 3) rfl rfl rfl rfl rfl rfl rfl rfl rfl rfl
   have hqs2:q.h.seq=r.h.seq:=Classical.not_not.1 hqs
   have hqr:q=r:=d0Q hform.asc hqm hrm hqs2
   subst hqr
   rw [decide_eq_false hqs]
   repeat' (first|refine Zs rfl ?_|refine Zc rfl ?_|refine Zd rfl ?_|refine Qh ?_|refine Qk ?_|refine Zk ?_|refine Qw (by kernel_rfl) ?_|refine Zt rfl ?_)
   refine Zf rfl rfl (hby) rfl rfl rfl ?_
   repeat' (first|refine Zs rfl ?_|refine Zc rfl ?_|refine Zd rfl ?_|refine Qh ?_|refine Qk ?_|refine Zk ?_|refine Qw (by kernel_rfl) ?_|refine Zt rfl ?_)
   refine Zp rfl rfl (hde) rfl ?_
   repeat' (first|refine Zs rfl ?_|refine Zc rfl ?_|refine Zd rfl ?_|refine Qh ?_|refine Qk ?_|refine Zk ?_|refine Qw (by kernel_rfl) ?_|refine Zt rfl ?_)
   rw [decide_eq_true (rfl:(a1K p.2:Int)=(a1K p.2:Int))]
   repeat' (first|refine Zs rfl ?_|refine Zc rfl ?_|refine Zd rfl ?_|refine Qh ?_|refine Qk ?_|refine Zk ?_|refine Qw (by kernel_rfl) ?_|refine Zt rfl ?_)
   rw [decide_eq_true hk1]
   repeat' (first|refine Zs rfl ?_|refine Zc rfl ?_|refine Zd rfl ?_|refine Qh ?_|refine Qk ?_|refine Zk ?_|refine Qw (by kernel_rfl) ?_|refine Zt rfl ?_)
   refine Qa rfl ?_
   refine a5H (l:=p.2.key) rfl rfl rfl rfl rfl rfl rfl ?_
   first|refine nx rfl rfl ?_|refine nx0 ?_
   repeat' (first|refine Zs rfl ?_|refine Zc rfl ?_|refine Zd rfl ?_|refine Qh ?_|refine Qk ?_|refine Zk ?_|refine Qw (by kernel_rfl) ?_|refine Zt rfl ?_)
   rw [decide_eq_true hk2]
   repeat' (first|refine Zs rfl ?_|refine Zc rfl ?_|refine Zd rfl ?_|refine Qh ?_|refine Qk ?_|refine Zk ?_|refine Qw (by kernel_rfl) ?_|refine Zt rfl ?_)
   rw [decide_eq_true (rfl:p.2.exp=p.2.exp)]
   repeat' (first|refine Zs rfl ?_|refine Zc rfl ?_|refine Zd rfl ?_|refine Qh ?_|refine Qk ?_|refine Zk ?_|refine Qw (by kernel_rfl) ?_|refine Zt rfl ?_)
   exact hcu true _ _ (by rw [decide_eq_true rfl,Bool.or_true]) rfl (Nat.le_add_right 3 1) rfl rfl rfl rfl rfl rfl rfl rfl rfl rfl
  have hmm:m=x.rs.length:=by omega
  subst hmm
  rw [List.take_length,List.any_eq_true.2 ⟨r,hrm,decide_eq_true rfl⟩]
  have hcu:∀(sl:List (Nat × AV)),get sl 9=.ptr 0 0->get sl 10=.fp (rsL x)->get sl 146=.sl 6 (x.ps.map prA)->get sl 147=.int .i64 (x.ps.length:Int)->get sl 148=.int .i64 (IntKind.i64.wrap ((j:Int)+1)) ->
    ∃j',j'<=x.ps.length/\x.ps.length - j'<x.ps.length - j/\Imp (E0 X) 251 0 ⟨sl,a1c v⟩ ⟨[(9,.ptr 0 0),(10,.fp (rsL x)),(146,.sl 6 (x.ps.map prA)),(147,.int .i64 (x.ps.length:Int)),(148,.int .i64 (j':Int))],a1c v⟩:=fun sl a1 a2 a3 a4 a5 =>
   ⟨j+1,hjl,by omega,a0i 3 (Nat.zero_le _) (a1N v) rfl (Nat.le_refl 3) (a0a ⟨a1,Nat.zero_lt_succ 2⟩ (a0a ⟨a2,hxi⟩ (a0a ⟨a3,hpi⟩ (a0a ⟨a4,trivial⟩ (a0a ⟨by rw [<- hjw];exact a5,trivial⟩ a0k)))))⟩
  repeat' (first|refine Zs rfl ?_|refine Zc rfl ?_|refine Zd rfl ?_|refine Qh ?_|refine Qk ?_|refine Zk ?_|refine Qw (by kernel_rfl) ?_|refine Zt rfl ?_)
  by_cases he0:p.2.exp≠0
  ·rw [decide_eq_true he0]
   repeat' (first|refine Zs rfl ?_|refine Zc rfl ?_|refine Zd rfl ?_|refine Qh ?_|refine Qk ?_|refine Zk ?_|refine Qw (by kernel_rfl) ?_|refine Zt rfl ?_)
   rw [decide_eq_false (show ¬ p.2.exp<=x.now from fun h=>by rcases hexp with h1|h1;exact he0 h1;exact absurd h (by have:x.now<p.2.exp:=h1;omega))]
   repeat' (first|refine Zs rfl ?_|refine Zc rfl ?_|refine Zd rfl ?_|refine Qh ?_|refine Qk ?_|refine Zk ?_|refine Qw (by kernel_rfl) ?_|refine Zt rfl ?_)
   exact hcu _ rfl rfl rfl rfl rfl
  rw [decide_eq_false he0]
  repeat' (first|refine Zs rfl ?_|refine Zc rfl ?_|refine Zd rfl ?_|refine Qh ?_|refine Qk ?_|refine Zk ?_|refine Qw (by kernel_rfl) ?_|refine Zt rfl ?_)
  exact hcu _ rfl rfl rfl rfl rfl
 repeat' (first|refine Zs rfl ?_|refine Zc rfl ?_|refine Zd rfl ?_|refine Qh ?_|refine Qk ?_|refine Zk ?_|refine Qw (by kernel_rfl) ?_|refine Zt rfl ?_)
 refine Zp rfl rfl (b0g X) rfl ?_
 repeat' (first|refine Zs rfl ?_|refine Zc rfl ?_|refine Zd rfl ?_|refine Qh ?_|refine Qk ?_|refine Zk ?_|refine Qw (by kernel_rfl) ?_|refine Zt rfl ?_)
 refine a0c ⟨_,rfl,rfl⟩
end Go.Abs
namespace Go.Proofs.YtkmmdlicifiknaaGreatDoor
open Go.Abs Go.RowKit Go.ChangeShapes Go.WideShapes
theorem recoveryFormLifted(os:Os)(started:os.Started)(H:Type)(enc:TypeId × Value->H) :
  ReturnsInHanded {} Tryz.checked os 6 .any (fun w args=>(Rows.recoveryFormSpec.pre enc Tryz.prog Tryz.f6 [] false w args ∧ laidMetH Tryz.prog [("flashcache/crc.table",Rows.laid_flashcache_crc_table)] w) ∧ sizedMet enc Tryz.prog Tryz.f6 (OpenSpec.ofChange Rows.recoveryFormSpec) false w args)
   (Rows.recoveryFormSpec.post enc Tryz.prog Tryz.f6 false Rows.recoveryFormRow.fresh Rows.recoveryFormRow.handsOn Rows.recoveryFormRow.again):=by
 refine returnsInHanded_of_change_and (C:=Tryz.checked) (X:=fun w _=>laidMetH Tryz.prog [("flashcache/crc.table",Rows.laid_flashcache_crc_table)] w) (fun _ _ _ hh h=>h.of_heap hh) own0 started (by kernel_rfl) Tryz.func6
  (ChangeSpec.witness_shaped (enc:=enc) (C:=Tryz.checked) (os:=os) (X:=fun w _=>laidMetH Tryz.prog [("flashcache/crc.table",Rows.laid_flashcache_crc_table)] w) false (World.doorLaid Tryz.prog 400 os) #[.agg #[.int .i64 0,.int .i64 0,.int .i64 0,.int .i64 0,.int .i64 0,.int .i64 0,.int .i64 0,.int .i64 0,.int .i64 0,.int .i64 0,.int .i64 0,.int .i64 0,.int .i64 0,.slice none 0 0],.slice none 0 0,.int .i64 0] 8 rfl (World.shaped_of_RefB (by kernel_rfl) (by kernel_rfl)) (by kernel_rfl) (by kernel_rfl) (by kernel_rfl) (c0n os _)) ?_
 intro W base args ds gs before hval0 hW _ _ hL _
 have hval:∀(j:Nat) t v,Tryz.f6.params[j]?=some t->args[j]?=some v->Value.okWide Tryz.prog W .any base t v:=hval0
 have hW2:=hW
 obtain ⟨p,q,hA0,hV,_,_,_⟩:=hW2
 have hA:DataW.TrodAll enc Tryz.prog W 0 (fun _=>true) true [26,27,3] args.toList ds p:=hA0
 obtain ⟨rfl,rfl⟩:=trodVars_none hV
 obtain ⟨v0,v1,v2,d0,d1,d2,p0,p1,p2,rfl,rfl,rfl,t0,t1,t2⟩:=trodAll_three hA
 obtain ⟨x0,r0,c0⟩:=d0y (E:=E0 fun _=>False) (c3j _) (fun _ h=>h) (f:=4) rfl rfl (hval 0 26 v0 rfl rfl) t0
 obtain ⟨x1,r1,c1⟩:=c2j (E:=E0 fun _=>False) (c3j _) (fun _ h=>h) (f:=6) rfl rfl (hval 1 27 v1 rfl rfl) t1
 obtain ⟨x2,r2,c2⟩:=c2j (E:=E0 fun _=>False) (c3j _) (fun _ h=>h) (f:=1) rfl rfl (hval 2 3 v2 rfl rfl) t2
 obtain ⟨l0,rfl,h0⟩:=d0t c0
 obtain ⟨l1,rfl,h1⟩:=d0x c1
 obtain ⟨l2,rfl,g2,h2⟩:=c6G c2
 exact b7h (E:=E0 fun _=>False) (avs:=[sbA l0,.sl 33 (l1.map ptA),.int .i64 l2]) (tb:=4) (c3j _) (b0X hL) (by kernel_rfl) rfl (by kernel_rfl) (by kernel_rfl) (by kernel_rfl) rfl rfl rfl hW (fun _ h=>h)
  (RelL.cons r0 (RelL.cons r1 (RelL.cons r2 (by simp [Abs.RelL])))) (d0H _ l0 l1 h1.2 h1.1 l2)
theorem recoveryForm_holds:Rows.RecoveryFormSaid :=
 OpenClaim.holds_of_wide 6 Tryz.f6 rfl rfl rfl rfl rfl rfl rfl ⟨rfl,rfl,rfl,rfl,rfl⟩ rfl rfl rfl rfl rfl (by kernel_rfl) Tryz.func6 (by kernel_rfl)
  (of_decide_eq_true (by kernel_rfl)) (by unfold Func.isWrapper;rw [if_neg (of_decide_eq_false (by kernel_rfl))];exact ⟨rfl,rfl⟩)
  (fun os started H enc _=>recoveryFormLifted os started H enc)
theorem recoveryForm_card:Rows.RecoveryFormCardSaid :=
 Claim7.holds_tied_plain_at .later [] [.data] true (true,"318a5a10ab542dae29572fd2e20a33e819e3a727377adc8eb894a6dfcaf7bbb1") false
  recoveryForm_holds (fun _ h=>by cases h) (by kernel_rfl) (fun _ h=>by cases h) recoveryForm_row_tie rfl ⟨rfl,rfl⟩ (by kernel_rfl) rfl
  (fun f fn hf hfn=>by
   obtain rfl:f=6:=Option.some.inj ((show Tryz.prog.funcNamed "flashcache/flashcachelaw23.RecoveryForm"=some 6 by kernel_rfl).symm.trans hf) |>.symm
   obtain rfl:fn=Tryz.f6:=(Option.some.inj (Tryz.func6.symm.trans hfn)).symm
   exact ⟨by kernel_rfl,fun j t ht=>by
    have ht:(#[26,27,3]:Array TypeId)[j]?=some t:=ht
    have hm:t∈[26,27,3]:=by simpa using Array.mem_of_getElem? ht
    have hall:([26,27,3].all fun u=>!Tryz.prog.wantsStandIn u)=true:=by kernel_rfl
    exact (show Tryz.prog.wantsStandIn t=false by simpa using List.all_eq_true.1 hall t hm)⟩)
  (by kernel_rfl)
end Go.Proofs.YtkmmdlicifiknaaGreatDoor
