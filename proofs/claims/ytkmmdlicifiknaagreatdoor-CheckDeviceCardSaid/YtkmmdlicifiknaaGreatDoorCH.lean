/- Maps with integer or string keys as lists of pairs: lookup, update, delete. Joined texts, each with what its own name promises; no condition beyond those stated. -/
import Derived.Test.YtkmmdlicifiknaaGreatDoorCB
import Derived.Test.YtkmmdlicifiknaaGreatDoorCG
import Derived.Test.YtkmmdlicifiknaaGreatDoorCC
import Derived.Test.YtkmmdlicifiknaaGreatDoorCF
set_option maxHeartbeats 0
set_option maxRecDepth 100000
set_option linter.all false
namespace Go.Abs
open Go.MapKept
section
variable{κ α:Type}[DecidableEq κ]
theorem c4r{β:Type}{l:List β}(h:l.Nodup){i j:Nat}(hi:i<l.length)(he:l[i]?=l[j]?):i=j:=by
 have h2:j<l.length:=by
  rw [List.getElem?_eq_getElem hi] at he
  exact (List.getElem?_eq_some_iff.1 he.symm).1
 rw [List.getElem?_eq_getElem hi,List.getElem?_eq_getElem h2] at he
 exact (List.getElem_inj h).1 (Option.some.inj he)
end
end Go.Abs
namespace Go.Abs
section
variable{α:Type}(lt:α->α->Bool)
def a8t(l:List α)(u:List Bool):Nat->Option Nat
 | 0=>none
 | n+1=>match l[n]?,u[n]? with
  | some r,some false=>match a8t l u n with
   | none=>some n
   | some b=>match l[b]? with
    | some x=>if lt r x then some n else some b
    | none=>some b
  | _,_=>a8t l u n
variable{lt}
theorem b2J(hi0:∀a,lt a a=false)(ht:∀a b c,lt a b=true->lt b c=true->lt a c=true)(l:List α)(u:List Bool):∀n,(a8t lt l u n=none/\∀i y,i<n->l[i]?=some y->u[i]?≠some false) \/
  ∃b x,a8t lt l u n=some b/\b<n/\l[b]?=some x/\u[b]?=some false/\∀i y,i<n->l[i]?=some y->u[i]?=some false->i=b\/lt y x=false:=by
 intro n
 induction n with
 | zero=>exact .inl ⟨rfl,fun i y h=>absurd h (Nat.not_lt_zero i)⟩
 | succ n ih =>
  have skip:(∀y,l[n]?=some y->u[n]?≠some false)->a8t lt l u (n+1)=a8t lt l u n->(a8t lt l u (n+1)=none/\∀i y,i<n+1->l[i]?=some y->u[i]?≠some false) \/
    ∃b x,a8t lt l u (n+1)=some b/\b<n+1/\l[b]?=some x/\u[b]?=some false/\∀i y,i<n+1->l[i]?=some y->u[i]?=some false->i=b\/lt y x=false:=fun hs he=>by
   rw [he]
   rcases ih with ⟨h1,h2⟩|⟨b,x,h1,h2,h3,h4,h5⟩
   ·refine .inl ⟨h1,fun i y hi hy=>?_⟩
    rcases Nat.lt_or_ge i n with h|h
    ·exact h2 i y h hy
    ·obtain rfl:i=n:=by omega
     exact hs y hy
   refine .inr ⟨b,x,h1,by omega,h3,h4,fun i y hi hy hu=>?_⟩
   rcases Nat.lt_or_ge i n with h|h
   ·exact h5 i y h hy hu
   ·obtain rfl:i=n:=by omega
    exact absurd hu (hs y hy)
  cases hl:l[n]? with
  | none=>exact skip (fun y hy=>by rw [hl] at hy;cases hy) (by simp only [a8t,hl])
  | some r =>
   cases hu:u[n]? with
   | none=>exact skip (fun y _ h=>by rw [hu] at h;cases h) (by simp only [a8t,hl,hu])
   | some v =>
    cases v with
    | true=>exact skip (fun y _ h=>by rw [hu] at h;cases h) (by simp only [a8t,hl,hu])
    | false =>
     right
     rcases ih with ⟨h1,h2⟩|⟨b,x,h1,h2,h3,h4,h5⟩
     ·refine ⟨n,r,by simp only [a8t,hl,hu,h1],by omega,hl,hu,fun i y hi hy hf=>?_⟩
      rcases Nat.lt_or_ge i n with h|h
      ·exact absurd hf (h2 i y h hy)
      ·exact .inl (by omega)
     cases hc:lt r x with
     | true =>
      refine ⟨n,r,by simp only [a8t,hl,hu,h1,h3,hc,if_true],by omega,hl,hu,fun i y hi hy hf=>?_⟩
      rcases Nat.lt_or_ge i n with h|h
      ·right
       cases hyr:lt y r with
       | false=>rfl
       | true =>
        rcases h5 i y h hy hf with h6|h6
        ·subst h6
         rw [h3] at hy
         cases hy
         exact absurd (ht _ _ _ hc hyr) (by rw [hi0];decide)
        ·rw [ht _ _ _ hyr hc] at h6;cases h6
      ·exact .inl (by omega)
     | false =>
      refine ⟨b,x,by simp only [a8t,hl,hu,h1,h3,hc];rfl,by omega,h3,h4,fun i y hi hy hf=>?_⟩
      rcases Nat.lt_or_ge i n with h|h
      ·exact h5 i y h hy hf
      obtain rfl:i=n:=by omega
      rw [hl] at hy;cases hy
      exact .inr hc
def Used(l s:List α)(k:Nat)(u:List Bool):Prop:=u.length=l.length/\∀(i:Nat) y,l[i]?=some y->(u[i]?=some true ↔ y∈s.take k)
theorem b8p(l s:List α):Used l s 0 (List.replicate l.length false) :=
 ⟨by simp,fun i y hy=>by
  have hi:=(List.getElem?_eq_some_iff.1 hy).1
  simp [List.getElem?_replicate,hi]⟩
theorem b8o(hi:∀a,lt a a=false)(ht:∀a b c,lt a b=true->lt b c=true->lt a c=true){l s:List α}(hn:l.Nodup)(hp:s.Perm l)(hs:s.Pairwise (fun a b=>lt a b=true)){k:Nat}{x:α}(hk:s[k]?=some x){u:List Bool}(hu:Used l s k u) :
  ∃b,a8t lt l u l.length=some b/\l[b]?=some x/\b<l.length/\Used l s (k+1) (u.set b true):=by
 obtain ⟨hul,hus⟩:=hu
 have hkl:=(List.getElem?_eq_some_iff.1 hk).1
 have hsn:s.Nodup:=hp.nodup_iff.2 hn
 have hmem:∀(i:Nat) y,l[i]?=some y->u[i]?=some false->y∈s.drop k:=fun i y hy hf=>by
  have h1:y∈s:=hp.mem_iff.2 (List.mem_of_getElem? hy)
  rw [<- List.take_append_drop k s,List.mem_append] at h1
  rcases h1 with h1|h1
  ·have:=(hus i y hy).2 h1
   rw [hf] at this;cases this
  ·exact h1
 have hdr:s.drop k=x::s.drop (k+1):=by
  rw [List.drop_eq_getElem_cons hkl]
  congr 1
  exact (List.getElem?_eq_some_iff.1 hk).2
 have hxt:x ∉ s.take k:=fun h=>by
  have h1:(s.take k++s.drop k).Nodup:=by rw [List.take_append_drop];exact hsn
  exact (List.nodup_append.1 h1).2.2 x h x (by rw [hdr];exact List.mem_cons_self) rfl
 obtain ⟨ix,hix⟩:=List.getElem?_of_mem (hp.mem_iff.1 (List.mem_of_getElem? hk))
 have hixl:=(List.getElem?_eq_some_iff.1 hix).1
 have hxu:u[ix]?=some false:=by
  have h1:ix<u.length:=by omega
  cases hb:u[ix] with
  | false=>rw [List.getElem?_eq_getElem h1,hb]
  | true=>exact absurd ((hus ix x hix).1 (by rw [List.getElem?_eq_getElem h1,hb])) hxt
 rcases b2J hi ht l u l.length with ⟨_,h2⟩|⟨b,y,h1,h2,h3,h4,h5⟩
 ·exact absurd hxu (h2 ix x hixl hix)
 have hyx:y=x:=by
  rcases h5 ix x hixl hix hxu with h6|h6
  ·subst h6;rw [h3] at hix;exact Option.some.inj hix
  have h7:=hmem b y h3 h4
  rw [hdr,List.mem_cons] at h7
  rcases h7 with h7|h7
  ·exact h7
  ·have h8:(x::s.drop (k+1)).Pairwise (fun a b=>lt a b=true):=by rw [<- hdr];exact hs.sublist (List.drop_sublist k s)
   rw [(List.pairwise_cons.1 h8).1 y h7] at h6;cases h6
 subst hyx
 refine ⟨b,h1,h3,h2,by simpa using hul,fun i z hz=>?_⟩
 rw [List.take_add_one,hk,Option.toList_some,List.mem_append,List.mem_singleton]
 by_cases hib:b=i
 ·subst hib
  rw [h3] at hz;cases hz
  rw [List.getElem?_set_self (by omega)]
  exact ⟨fun _=>.inr rfl,fun _=>rfl⟩
 rw [List.getElem?_set_ne hib,hus i z hz]
 refine ⟨.inl,fun h=>h.elim id fun h=>?_⟩
 subst h
 exact absurd (c4r hn h2 (h3.trans hz.symm)) hib
end
structure Hd where
 ver:Int
 slot:Int
 lay:Int
 seq:Int
 tail:Int
 now:Int
def hdL(h:Hd):List AV:=[.int .i64 h.ver,.int .i64 h.slot,.int .i64 h.lay,.int .i64 h.seq,.int .i64 h.tail,.int .i64 h.now]
def hdA(h:Hd):AV:=.agg (hdL h)
@[simp] theorem a4l{n:Nat}{h:Hd}:a0d n (hdA h):=⟨trivial,trivial,trivial,trivial,trivial,trivial,trivial⟩
def hdB(h:Hd):Bool:=(decide (h.ver=1) || decide (h.ver=2))&&(decide (0<=h.slot)&&(decide (h.slot<16)&&(decide (1<=h.lay)&&(decide (h.lay<=4294967295)&&(decide (1<=h.seq)&&(decide (h.seq<=281474976710655)&&(decide (0<=h.tail)&&(decide (h.tail<=h.seq)&&(decide (0<=h.now)&&decide (h.now<=549755813888))))))))))
def a1b(l:La)(slot:Int):Int:=if a1a l=true/\0<=slot/\slot<l.regs then 74+slot*l.rs else -1
def c0D(l:La):Int:=if a1a l=true then (l.rs - 1)*59 else 0
theorem a1z{l:La}(h:a1a l=true):2<=l.rs/\l.rs<=2048/\4<=l.regs/\l.regs<=16:=by
 simp only [a1a,Bool.and_eq_true,Bool.or_eq_true,decide_eq_true_eq] at h
 obtain ⟨_,_,_,f4,f5,_,f7,f8⟩:=h
 exact ⟨f4,f5,f7,f8⟩
theorem a2y{l:La}{slot:Int}(h:a1a l=true)(h1:0<=slot)(h2:slot<l.regs):IntKind.i64.wrap (74+IntKind.i64.wrap (slot*l.rs))=74+slot*l.rs/\0<=slot*l.rs/\slot*l.rs<=32768:=by
 obtain ⟨a,b,c,d⟩:=a1z h
 have h3:0<=slot*l.rs:=Int.mul_nonneg h1 (by omega)
 have h4:slot*l.rs<=16*2048:=Int.mul_le_mul (by omega) b (by omega) (by omega)
 have e1:IntKind.i64.wrap (slot*l.rs)=slot*l.rs:=a0r (by omega) (by omega)
 rw [e1]
 exact ⟨a0r (by omega) (by omega),h3,by omega⟩
attribute [local irreducible] a0z a1p AWp Nx awM
theorem b3d(X:Nat->Prop)(h:Hd):a0b (E0 X) 218 [hdA h] [] (fun r H'=>r=.bool (hdB h)/\H'=[]):=by
 refine a0b.cut0 ?_ trivial
 refine Z0 Proofs.Tryz.func218 rfl Proofs.Tryz.ntmps218 (by kernel_rfl) rfl ?_
 repeat' (first|refine Zs rfl ?_|refine Zc rfl ?_|refine Zh ?_|refine Qs ?_|((fail_if_success refine QV rfl ?_);refine Qy rfl rfl (fun _=>?_) (fun _=>?_)))
 all_goals (refine a0c ?_;refine ⟨_,rfl,?_⟩;refine congrArg AV.bool ?_;simp [hdB, *];done)
theorem b0G(X:Nat->Prop)(h:Hd):a0b (E0 X) 88 [hdA h] [] (fun r H'=>r=.bool (hdB h)/\H'=[]):=by
 refine a0b.cut0 ?_ trivial
 refine Z0 Proofs.Tryz.func88 rfl Proofs.Tryz.ntmps88 (by kernel_rfl) rfl ?_
 repeat' (first|refine Zs rfl ?_|refine Zc rfl ?_|refine Zh ?_|refine Qs ?_|((fail_if_success refine QV rfl ?_);refine Qy rfl rfl (fun _=>?_) (fun _=>?_)))
 all_goals (refine a0c ?_;refine ⟨_,rfl,?_⟩;refine congrArg AV.bool ?_;simp [hdB, *];done)
theorem b1u(X:Nat->Prop)(l:La)(slot:Int):a0b (E0 X) 100 [laA l,.int .i64 slot] [] (fun r H'=>r=.int .i64 (a1b l slot)/\H'=[]):=by
 refine a0b.cut0 ?_ trivial
 refine Z0 Proofs.Tryz.func100 rfl Proofs.Tryz.ntmps100 (by kernel_rfl) rfl ?_
 repeat' (first|refine Zs rfl ?_|refine Zc rfl ?_|refine Qa rfl ?_)
 refine Cn rfl (a0f (E:=E0 X) (fun X=>a6H X l) (by simp [a0e,a0d]) _) rfl rfl ?_
 cases hf:a1a l with
 | false =>
  have e:a1b l slot=-1:=if_neg fun h=>by rw [hf] at h;exact absurd h.1 (by decide)
  rw [e]
  repeat' (first|refine Zs rfl ?_|refine Zc rfl ?_|refine Zh ?_|refine Qs ?_)
  exact a0c ⟨_,rfl,rfl⟩
 | true =>
  by_cases h1:slot<0
  ·have e:a1b l slot=-1:=if_neg fun h=>by omega
   rw [e]
   repeat' (refine Zs rfl ?_)
   rw [decide_eq_true h1]
   repeat' (first|refine Zs rfl ?_|refine Zc rfl ?_|refine Zh ?_|refine Qs ?_)
   exact a0c ⟨_,rfl,rfl⟩
  repeat' (refine Zs rfl ?_)
  rw [decide_eq_false h1]
  repeat' (first|refine Zs rfl ?_|refine Zh ?_|refine Qs ?_)
  refine a0g rfl (fun h2=>?_) (fun h2=>?_)
  ·have e:a1b l slot=-1:=if_neg fun h=>by omega
   rw [e]
   repeat' (first|refine Zs rfl ?_|refine Zc rfl ?_|refine Zh ?_|refine Qs ?_)
   exact a0c ⟨_,rfl,rfl⟩
  have e:a1b l slot=74+slot*l.rs:=if_pos ⟨hf,by omega,by omega⟩
  rw [e,<- (a2y hf (by omega) (by omega)).1]
  repeat' (first|refine Zs rfl ?_|refine Zc rfl ?_|refine Zh ?_|refine Qs ?_)
  exact a0c ⟨_,rfl,rfl⟩
theorem b4j(X:Nat->Prop)(l:La):a0b (E0 X) 72 [laA l] [] (fun r H'=>r=.int .i64 (c0D l)/\H'=[]):=by
 refine a0b.cut0 ?_ trivial
 refine Z0 Proofs.Tryz.func72 rfl Proofs.Tryz.ntmps72 (by kernel_rfl) rfl ?_
 repeat' (first|refine Zs rfl ?_|refine Zc rfl ?_|refine Qa rfl ?_)
 refine Cn rfl (a0f (E:=E0 X) (fun X=>a6H X l) (by simp [a0e,a0d]) _) rfl rfl ?_
 cases hf:a1a l with
 | false =>
  have e:c0D l=0:=if_neg (by rw [hf];decide)
  rw [e]
  repeat' (first|refine Zs rfl ?_|refine Zc rfl ?_|refine Zh ?_|refine Qs ?_)
  exact a0c ⟨_,rfl,rfl⟩
 | true =>
  have hr:=a1z hf
  have e:c0D l=IntKind.i64.wrap (IntKind.i64.wrap (l.rs - 1)*59):=by
   have e1:IntKind.i64.wrap (l.rs - 1)=l.rs - 1:=a0r (by omega) (by omega)
   rw [e1,a0r (by omega) (by omega)]
   exact if_pos hf
  rw [e]
  repeat' (first|refine Zs rfl ?_|refine Zc rfl ?_|refine Zh ?_|refine Qs ?_)
  exact a0c ⟨_,rfl,rfl⟩
def b3z(h:Hd):List UInt8:=a0Y (a0Y (a0Y (a0Y [UInt8.ofNat (h.ver.toNat%256),UInt8.ofNat (h.slot.toNat%256)] h.lay.toNat 4) h.seq.toNat 6) h.tail.toNat 6) h.now.toNat 5
theorem a7d(h:Hd):(b3z h).length=23:=by simp [b3z,a0D]
def a8Z(h:Hd)(sector:Nat):List UInt8:=a3C 1 0 sector (b3z h)
theorem a9a(h:Hd)(k:Nat):(a8Z h k).length=64:=a2M (by rw [a7d];decide)
structure c6s(h:Hd):Prop where
 ver:1<=h.ver/\h.ver<=2
 slot:0<=h.slot/\h.slot<=15
 lay:1<=h.lay/\h.lay<=4294967295
 seq:1<=h.seq/\h.seq<=281474976710655
 tail:0<=h.tail/\h.tail<=h.seq
 now:0<=h.now/\h.now<=549755813888
theorem c1G{h:Hd}(hb:hdB h=true):c6s h:=by
 simp only [hdB,Bool.and_eq_true,Bool.or_eq_true,decide_eq_true_eq] at hb
 obtain ⟨a,b,c,d,e,f,g,i,j,k,l⟩:=hb
 exact ⟨by omega,by omega,by omega,by omega,by omega,by omega⟩
theorem c3Z(X:Nat->Prop)(h:Hd)(sector:Nat)(hv:hdB h=true)(hs:sector<1048576) :
  a0b (E0 X) 190 [hdA h,.int .i64 (sector:Int)] [] (fun r H'=>r=.tup [.sl 1 ((a8Z h sector).map u8A),.int .i64 0]/\H'=[]):=by
 refine a0b.cut0 ?_ ⟨a0h fun _=>a0k,trivial,trivial⟩
 have hva:=fun X=>b3d X h
 rw [hv] at hva
 obtain ⟨⟨a1,a2⟩,⟨b1,b2⟩,⟨c1,c2⟩,⟨d1,d2⟩,⟨e1,e2⟩,⟨f1,f2⟩⟩:=c1G hv
 have hpay:a8Z h sector=a3C 1 0 sector (b3z h):=rfl
 have hl:=a7d h
 have hp:b3z h=a0Y (a0Y (a0Y (a0Y [UInt8.ofNat (h.ver.toNat%256),UInt8.ofNat (h.slot.toNat%256)] h.lay.toNat 4) h.seq.toNat 6) h.tail.toNat 6) h.now.toNat 5:=rfl
 rw [hpay]
 generalize b3z h=pay at *
 obtain ⟨ver,slot,lay,seq,tail,now⟩:=h
 simp only at a1 a2 b1 b2 c1 c2 d1 d2 e1 e2 f1 f2 hp
 obtain ⟨ver,rfl⟩:=Int.eq_ofNat_of_zero_le (show 0<=ver by omega)
 obtain ⟨slot,rfl⟩:=Int.eq_ofNat_of_zero_le b1
 obtain ⟨lay,rfl⟩:=Int.eq_ofNat_of_zero_le (show 0<=lay by omega)
 obtain ⟨seq,rfl⟩:=Int.eq_ofNat_of_zero_le (show 0<=seq by omega)
 obtain ⟨tail,rfl⟩:=Int.eq_ofNat_of_zero_le e1
 obtain ⟨now,rfl⟩:=Int.eq_ofNat_of_zero_le f1
 simp only [Int.toNat_natCast] at hp
 have hfe:=fun X=>b0s X 1 0 sector pay ⟨by decide,by decide,hs⟩ (by decide) (by omega)
 show a0b (E0 X) 190 [.agg [.int .i64 (ver:Int),.int .i64 (slot:Int),.int .i64 (lay:Int),.int .i64 (seq:Int),.int .i64 (tail:Int),.int .i64 (now:Int)],.int .i64 (sector:Int)] [] _
 refine Z0 Proofs.Tryz.func190 rfl Proofs.Tryz.ntmps190 (by kernel_rfl) rfl ?_
 repeat' (first|refine Zs rfl ?_|refine Zc rfl ?_|refine Qa rfl ?_)
 refine Cn rfl (a0f (E:=E0 X) (fun X=>hva X) (by simp [a0e,a0d]) _) rfl rfl ?_
 repeat' (first|refine Zs rfl ?_|refine Zc rfl ?_|refine Qa rfl ?_)
 rw [a1s,a1s,wrap64 (by omega)]
 have l2:[UInt8.ofNat (ver%256),UInt8.ofNat (slot%256)].length=2:=rfl
 refine Cn rfl (a3X X _ _ [UInt8.ofNat (ver%256),UInt8.ofNat (slot%256)] lay 4 (by decide) (by decide) (by simp) rfl) rfl rfl ?_
 have l6:(a0Y [UInt8.ofNat (ver%256),UInt8.ofNat (slot%256)] lay 4).length=6:=by rw [a0D];rfl
 generalize a0Y [UInt8.ofNat (ver%256),UInt8.ofNat (slot%256)] lay 4=b6 at *
 repeat' (first|refine Zs rfl ?_|refine Zc rfl ?_|refine Qa rfl ?_)
 rw [wrap64 (by omega)]
 refine Cn rfl (a3X X _ _ b6 seq 6 (by decide) (by decide) (by omega) (a0B rfl rfl rfl (by omega) (by rw [List.drop_zero,List.take_of_length_le (by omega)]))) rfl rfl ?_
 have l12:(a0Y b6 seq 6).length=12:=by rw [a0D,l6]
 generalize a0Y b6 seq 6=b12 at *
 repeat' (first|refine Zs rfl ?_|refine Zc rfl ?_|refine Qa rfl ?_)
 rw [wrap64 (by omega)]
 refine Cn rfl (a3X X _ _ b12 tail 6 (by decide) (by decide) (by omega) (a0B rfl rfl rfl (by omega) (by rw [List.drop_zero,List.take_of_length_le (by omega)]))) rfl rfl ?_
 have l18:(a0Y b12 tail 6).length=18:=by rw [a0D,l12]
 generalize a0Y b12 tail 6=b18 at *
 repeat' (first|refine Zs rfl ?_|refine Zc rfl ?_|refine Qa rfl ?_)
 rw [wrap64 (by omega)]
 refine Cn rfl (a3X X _ _ b18 now 5 (by decide) (by decide) (by omega) (a0B rfl rfl rfl (by omega) (by rw [List.drop_zero,List.take_of_length_le (by omega)]))) rfl rfl ?_
 rw [<- hp]
 repeat' (first|((refine Qa rfl ?_);(refine Q1 ?_);(refine QX rfl rfl ?_))|refine Qh ?_)
 refine a2j ?_
 refine a0t (Imp.trans (a0N (id:=4) (k:=1) (es:=pay.map u8A) (e:=5) rfl rfl rfl) (a0j 0 (Nat.zero_le _) a0X rfl (Nat.zero_le _) (sl':=[(1,.int .i64 (sector:Int)),(6,.sl 1 (pay.map u8A))]) ?_)) ?_
 ·refine a0a ⟨rfl,trivial⟩ (a0a ⟨?_,a0h fun _=>a0k⟩ a0l)
  show frz 4 _ _ (.own 4 0 (b18.length+5))=_
  exact a3p (by simp [hl,l18])
 repeat' (first|refine Zs rfl ?_|refine Zc rfl ?_|refine Qa rfl ?_)
 refine Cn rfl (a0f (E:=E0 X) (fun X=>hfe X) (by simp [a0e,a0d]) _) rfl rfl ?_
 repeat' (first|refine Zs rfl ?_|refine Zh ?_|refine Qs ?_)
 exact a0c ⟨_,rfl,rfl⟩
theorem b6a(X:Nat->Prop)(h:Hd)(sector:Int)(hv:hdB h=false) :
  a0b (E0 X) 190 [hdA h,.int .i64 sector] [] (fun r H'=>r=.tup [.nils,.int .i64 4]/\H'=[]):=by
 refine a0b.cut0 ?_ ⟨trivial,trivial,trivial⟩
 have hva:=fun X=>b3d X h
 rw [hv] at hva
 refine Z0 Proofs.Tryz.func190 rfl Proofs.Tryz.ntmps190 (by kernel_rfl) rfl ?_
 repeat' (first|refine Zs rfl ?_|refine Zc rfl ?_|refine Qa rfl ?_)
 refine Cn rfl (a0f (E:=E0 X) (fun X=>hva X) (by simp [a0e,a0d]) _) rfl rfl ?_
 repeat' (first|refine Zs rfl ?_|refine Zc rfl ?_|refine Zh ?_|refine Qs ?_)
 exact a0c ⟨_,rfl,rfl⟩
def a4N(h:Hd)(sector:Nat):Option (List UInt8):=if hdB h=true then some (a8Z h sector) else none
theorem c3Y(X:Nat->Prop)(h:Hd)(sector:Nat)(hs:sector<1048576) :
  a0b (E0 X) 190 [hdA h,.int .i64 (sector:Int)] [] (fun r H'=>r=(match a4N h sector with|some e=>.tup [.sl 1 (e.map u8A),.int .i64 0]|none=>.tup [.nils,.int .i64 4])/\H'=[]):=by
 unfold a4N
 cases hv:hdB h with
 | false=>exact b6a X h sector hv
 | true=>exact c3Z X h sector hv hs
theorem b7u(X:Nat->Prop)(h:Hd)(sector:Nat)(hv:hdB h=true)(hs:sector<1048576) :
  a0b (E0 X) 89 [hdA h,.int .i64 (sector:Int)] [] (fun r H'=>r=.sl 1 ((a8Z h sector).map u8A)/\H'=[]):=by
 obtain ⟨⟨a1,a2⟩,⟨b1,b2⟩,⟨c1,c2⟩,⟨d1,d2⟩,⟨e1,e2⟩,⟨f1,f2⟩⟩:=c1G hv
 have hpay:a8Z h sector=a3C 1 0 sector (b3z h):=rfl
 have hl:=a7d h
 have hp:b3z h=a0Y (a0Y (a0Y (a0Y [UInt8.ofNat (h.ver.toNat%256),UInt8.ofNat (h.slot.toNat%256)] h.lay.toNat 4) h.seq.toNat 6) h.tail.toNat 6) h.now.toNat 5:=rfl
 rw [hpay]
 generalize b3z h=pay at *
 obtain ⟨ver,slot,lay,seq,tail,now⟩:=h
 simp only at a1 a2 b1 b2 c1 c2 d1 d2 e1 e2 f1 f2 hp
 obtain ⟨ver,rfl⟩:=Int.eq_ofNat_of_zero_le (show 0<=ver by omega)
 obtain ⟨slot,rfl⟩:=Int.eq_ofNat_of_zero_le b1
 obtain ⟨lay,rfl⟩:=Int.eq_ofNat_of_zero_le (show 0<=lay by omega)
 obtain ⟨seq,rfl⟩:=Int.eq_ofNat_of_zero_le (show 0<=seq by omega)
 obtain ⟨tail,rfl⟩:=Int.eq_ofNat_of_zero_le e1
 obtain ⟨now,rfl⟩:=Int.eq_ofNat_of_zero_le f1
 simp only [Int.toNat_natCast] at hp
 refine a0b.frz0 (e:=5) 1 ?_ rfl rfl (a0h fun _=>a0k)
 show a0b (E0 X) 89 [.agg [.int .i64 (ver:Int),.int .i64 (slot:Int),.int .i64 (lay:Int),.int .i64 (seq:Int),.int .i64 (tail:Int),.int .i64 (now:Int)],.int .i64 (sector:Int)] [] _
 refine Z0 Proofs.Tryz.func89 rfl Proofs.Tryz.ntmps89 (by kernel_rfl) rfl ?_
 repeat' (first|refine Zs rfl ?_|refine Zc rfl ?_|refine Qa rfl ?_)
 rw [a1s,a1s,wrap64 (by omega)]
 have l2:[UInt8.ofNat (ver%256),UInt8.ofNat (slot%256)].length=2:=rfl
 refine Cn rfl (a1A X _ _ [UInt8.ofNat (ver%256),UInt8.ofNat (slot%256)] lay 4 (by decide) (by decide) (by simp) rfl) rfl rfl ?_
 have l6:(a0Y [UInt8.ofNat (ver%256),UInt8.ofNat (slot%256)] lay 4).length=6:=by rw [a0D];rfl
 generalize a0Y [UInt8.ofNat (ver%256),UInt8.ofNat (slot%256)] lay 4=b6 at *
 repeat' (first|refine Zs rfl ?_|refine Zc rfl ?_|refine Qa rfl ?_)
 rw [wrap64 (by omega)]
 refine Cn rfl (a1A X _ _ b6 seq 6 (by decide) (by decide) (by omega) (a0B rfl rfl rfl (by omega) (by rw [List.drop_zero,List.take_of_length_le (by omega)]))) rfl rfl ?_
 have l12:(a0Y b6 seq 6).length=12:=by rw [a0D,l6]
 generalize a0Y b6 seq 6=b12 at *
 repeat' (first|refine Zs rfl ?_|refine Zc rfl ?_|refine Qa rfl ?_)
 rw [wrap64 (by omega)]
 refine Cn rfl (a1A X _ _ b12 tail 6 (by decide) (by decide) (by omega) (a0B rfl rfl rfl (by omega) (by rw [List.drop_zero,List.take_of_length_le (by omega)]))) rfl rfl ?_
 have l18:(a0Y b12 tail 6).length=18:=by rw [a0D,l12]
 generalize a0Y b12 tail 6=b18 at *
 repeat' (first|refine Zs rfl ?_|refine Zc rfl ?_|refine Qa rfl ?_)
 rw [wrap64 (by omega)]
 refine Cn rfl (a1A X _ _ b18 now 5 (by decide) (by decide) (by omega) (a0B rfl rfl rfl (by omega) (by rw [List.drop_zero,List.take_of_length_le (by omega)]))) rfl rfl ?_
 rw [<- hp]
 repeat' (first|refine Zs rfl ?_|refine Zc rfl ?_|refine Qa rfl ?_)
 refine Cn rfl (a9B X _ _ 1 0 sector pay (by decide) hs (by omega) (a0B rfl rfl rfl (by omega) (by rw [List.drop_zero,List.take_of_length_le (by omega)]))) rfl rfl ?_
 repeat' (first|refine Zs rfl ?_|refine Zh ?_|refine Qs ?_)
 refine a0c ⟨_,rfl,5,_,rfl,?_,rfl⟩
 rw [List.length_map,a2M (by omega)]
theorem c5R{n:Nat}(h:n<=1099511627775):a0J [a0i n 32,a0i n 24,a0i n 16,a0i n 8,a0i n 0]=n:=by
 simp only [a0J,List.foldl_cons,List.foldl_nil,a4B]
 have e1:(2:Nat) ^ 24=16777216:=by decide
 have e2:(2:Nat) ^ 16=65536:=by decide
 have e3:(2:Nat) ^ 8=256:=by decide
 have e4:(2:Nat) ^ 32=4294967296:=by decide
 rw [e1,e2,e3,e4]
 omega
def b6S(bs:List UInt8):Hd:=⟨(a0J ((bs.drop 0).take 1):Nat),(a0J ((bs.drop 1).take 1):Nat),(a0J ((bs.drop 2).take 4):Nat),(a0J ((bs.drop 6).take 6):Nat),(a0J ((bs.drop 12).take 6):Nat),(a0J ((bs.drop 18).take 5):Nat)⟩
def b0I(bs:List UInt8):Hd:=⟨((bs[0]?.getD 0).toNat:Nat),((bs[1]?.getD 0).toNat:Nat),(a0J ((bs.drop 2).take 4):Nat),(a0J ((bs.drop 6).take 6):Nat),(a0J ((bs.drop 12).take 6):Nat),(a0J ((bs.drop 18).take 5):Nat)⟩
def a3o:Hd:=⟨0,0,0,0,0,0⟩
def c4v(o:Option Hd):AV:=.tup [hdA (o.getD a3o),.bool o.isSome]
def a7x(b:List UInt8)(sector:Nat):Option Hd:=match a2A 1 0 sector b with
 | none=>none
 | some pay=>if a4N (b6S pay) sector=some b then some (b6S pay) else none
def c2q(h:Hd)(z:List UInt8):List UInt8:=UInt8.ofNat (h.ver.toNat%256)::UInt8.ofNat (h.slot.toNat%256)::a0i h.lay.toNat 24::a0i h.lay.toNat 16::a0i h.lay.toNat 8::a0i h.lay.toNat 0 ::
 a0i h.seq.toNat 40::a0i h.seq.toNat 32::a0i h.seq.toNat 24::a0i h.seq.toNat 16::a0i h.seq.toNat 8::a0i h.seq.toNat 0 ::
 a0i h.tail.toNat 40::a0i h.tail.toNat 32::a0i h.tail.toNat 24::a0i h.tail.toNat 16::a0i h.tail.toNat 8::a0i h.tail.toNat 0 ::
 a0i h.now.toNat 32::a0i h.now.toNat 24::a0i h.now.toNat 16::a0i h.now.toNat 8::a0i h.now.toNat 0::z
theorem b9E(h:Hd)(z:List UInt8):b3z h++z=c2q h z:=rfl
theorem c4y(h:Hd)(z:List UInt8):b6S (c2q h z)=⟨(a0J [UInt8.ofNat (h.ver.toNat%256)]:Nat),(a0J [UInt8.ofNat (h.slot.toNat%256)]:Nat),(a0J [a0i h.lay.toNat 24,a0i h.lay.toNat 16,a0i h.lay.toNat 8,a0i h.lay.toNat 0]:Nat),
  (a0J [a0i h.seq.toNat 40,a0i h.seq.toNat 32,a0i h.seq.toNat 24,a0i h.seq.toNat 16,a0i h.seq.toNat 8,a0i h.seq.toNat 0]:Nat),
  (a0J [a0i h.tail.toNat 40,a0i h.tail.toNat 32,a0i h.tail.toNat 24,a0i h.tail.toNat 16,a0i h.tail.toNat 8,a0i h.tail.toNat 0]:Nat),
  (a0J [a0i h.now.toNat 32,a0i h.now.toNat 24,a0i h.now.toNat 16,a0i h.now.toNat 8,a0i h.now.toNat 0]:Nat)⟩:=rfl
theorem c2S(h:Hd)(z:List UInt8):b0I (c2q h z)=⟨((UInt8.ofNat (h.ver.toNat%256)).toNat:Nat),((UInt8.ofNat (h.slot.toNat%256)).toNat:Nat),(a0J [a0i h.lay.toNat 24,a0i h.lay.toNat 16,a0i h.lay.toNat 8,a0i h.lay.toNat 0]:Nat),
  (a0J [a0i h.seq.toNat 40,a0i h.seq.toNat 32,a0i h.seq.toNat 24,a0i h.seq.toNat 16,a0i h.seq.toNat 8,a0i h.seq.toNat 0]:Nat),
  (a0J [a0i h.tail.toNat 40,a0i h.tail.toNat 32,a0i h.tail.toNat 24,a0i h.tail.toNat 16,a0i h.tail.toNat 8,a0i h.tail.toNat 0]:Nat),
  (a0J [a0i h.now.toNat 32,a0i h.now.toNat 24,a0i h.now.toNat 16,a0i h.now.toNat 8,a0i h.now.toNat 0]:Nat)⟩:=rfl
theorem b9A{h:Hd}(hv:hdB h=true)(z:List UInt8):b6S (b3z h++z)=h/\b0I (b3z h++z)=h:=by
 obtain ⟨⟨a1,a2⟩,⟨b1,b2⟩,⟨c1,c2⟩,⟨d1,d2⟩,⟨e1,e2⟩,⟨f1,f2⟩⟩:=c1G hv
 rw [b9E,c4y,c2S,b5c (by omega),b5c (by omega),c0S (by omega),c4t (by omega),c4t (by omega),c5R (by omega),a3T (by omega),a3T (by omega)]
 obtain ⟨ver,slot,lay,seq,tail,now⟩:=h
 simp only [Hd.mk.injEq]
 simp only at a1 a2 b1 b2 c1 c2 d1 d2 e1 e2 f1 f2
 refine ⟨⟨?_,?_,?_,?_,?_,?_⟩,?_,?_,?_,?_,?_,?_⟩<;>omega
theorem b4o{b:List UInt8}{k:Nat}{h:Hd}(e:a7x b k=some h):hdB h=true/\a8Z h k=b:=by
 unfold a7x at e
 split at e
 ·cases e
 rename_i pay _
 split at e
 ·rename_i h2
  injection e with e
  rw [e] at h2
  unfold a4N at h2
  split at h2
  ·rename_i h3
   exact ⟨h3,by injection h2⟩
  ·cases h2
 ·cases e
theorem b4C{k:Nat}{b bs:List UInt8}(h:a2A 1 0 k b=some bs):a7x b k=if a4N (b0I bs) k=some b then some (b0I bs) else none:=by
 have key:∀q:Hd,a4N q k=some b->b6S bs=q/\b0I bs=q:=by
  intro q he
  unfold a4N at he
  split at he
  ·rename_i hv
   have he:a8Z q k=b:=by injection he
   have hl:=a7d q
   have h1:a2A 1 0 k (a8Z q k)=some (b3z q++List.replicate (59 - (b3z q).length) 0):=a5u (by omega)
   rw [he,h] at h1
   injection h1 with h1
   subst h1
   exact b9A hv _
  ·cases he
 have e:a7x b k=if a4N (b6S bs) k=some b then some (b6S bs) else none:=by simp only [a7x,h]
 rw [e]
 by_cases h1:a4N (b6S bs) k=some b
 ·have:=(key _ h1).2
  rw [this]
 rw [if_neg h1]
 by_cases h2:a4N (b0I bs) k=some b
 ·have:=(key _ h2).1
  rw [this] at h1
  exact absurd h2 h1
 ·rw [if_neg h2]
def zOh:AO:=.cells (hdL a3o) 61
theorem c1I(bs:List UInt8)(lo:Nat):HOk 3 [some zOh,some (.arr (bs.map u8A) 5),some (b4F bs 1 lo)]:=fun j o ho=>by
 match j,ho with
 | 0,ho=>cases ho;exact ⟨trivial,trivial,trivial,trivial,trivial,trivial,trivial⟩
 | 1,ho=>cases ho;exact a0h fun _=>a0k
 | 2,ho=>cases ho;exact ⟨by simp [a0d],trivial,trivial⟩
theorem c3U(X:Nat->Prop)(bs:List UInt8)(lo w:Nat)(hw:1<=w)(hw6:w<=6)(h:lo+w<=bs.length)(hb:bs.length<=1000) :
  a0b (E0 X) 189 [.int .i64 (w:Int),.fp [.ptr 1 0]] (a2r bs lo) (fun r H'=>r=.int .i64 (a0J ((bs.drop lo).take w):Int)/\H'=a2r bs (lo+w)):=by
 have s1:=a0U (bs:=bs) (lo:=lo) (w:=w) hw6
 have c1:=b6H X bs lo w hw (by omega) h hb
 generalize a0J ((bs.drop lo).take w)=n at *
 refine Z0 Proofs.Tryz.func189 rfl Proofs.Tryz.ntmps189 (by kernel_rfl) rfl ?_
 repeat' (first|refine Zs rfl ?_|refine Zc rfl ?_|refine Qa rfl ?_)
 refine Cn rfl (c1) rfl rfl ?_
 repeat' (first|refine Zs rfl ?_|refine Zh ?_|refine Qs ?_)
 refine a0c ⟨_,rfl,?_,?_⟩
 ·exact congrArg (AV.int .i64) (a3i s1)
 ·rfl
theorem a6j(X:Nat->Prop)(bs:List UInt8)(lo w:Nat)(hw:1<=w)(hw6:w<=6)(h:lo+w<=bs.length)(hb:bs.length<=1000)(L R:Hp)(s:Nat)(hs:L.length=s) :
  a0b (E0 X) 189 [.int .i64 (w:Int),.fp [.ptr (1+s) 0]] (L++a6V bs s lo++R) (fun r H'=>r=.int .i64 (a0J ((bs.drop lo).take w):Int)/\H'=L++a6V bs s (lo+w)++R):=by
 subst hs
 have hm:∀lo,a1T (sh L.length R.length 2) (a2r bs lo)=a6V bs L.length lo:=fun lo=>a2Y _ 0 L.length bs lo (by simp [sh])
 refine a0b.conv (a0b.frameLR (E:=E0 X) (fun X=>c3U X bs lo w hw hw6 h hb) L R (a4I bs lo) ⟨trivial,⟨by simp [a0d,a2r],trivial⟩,trivial⟩ (a3N bs lo)) ?_ (by rw [show (a2r bs lo).length=2 from rfl,hm]) ?_
 ·simp [rnL,rnA,sh,a2r]
 rintro q H' ⟨r1,h',⟨rfl,rfl⟩,-,rfl,rfl⟩
 refine ⟨rfl,?_⟩
 show L++a1T (sh L.length R.length 2) (a2r bs (lo+w))++R++[]=_
 rw [hm,List.append_nil]
theorem c3V(X:Nat->Prop)(b:List UInt8)(sector:Nat)(hs:sector<1048576)(hb:b.length<=1000) :
  a0b (E0 X) 155 [.sl 1 (b.map u8A),.int .i64 (sector:Int)] [] (fun r H'=>r=c4v (a7x b sector)/\H'=[]):=by
 refine a0b.cut0 ?_ ⟨a4l,trivial,trivial⟩
 have hdec:=fun X=>b2U X 1 0 sector b ⟨by decide,by decide,hs⟩ (by decide) (by omega)
 refine Z0 Proofs.Tryz.func155 rfl Proofs.Tryz.ntmps155 (by kernel_rfl) rfl ?_
 repeat' (first|refine Zs rfl ?_|refine Zc rfl ?_|refine Qa rfl ?_)
 refine Ck (fun _=>rfl) rfl (a0f (E:=E0 X) hdec (by simp [a0e,a0d]) _) ?_
 cases hd:a2A 1 0 sector b with
 | none =>
  have e:a7x b sector=none:=by simp only [a7x,hd]
  rw [e]
  show Nx _ (.tup [.nils,.bool false]) _
  refine nx rfl rfl ?_
  repeat' (first|refine Zs rfl ?_|refine Zc rfl ?_|refine Zh ?_|refine Qs ?_)
  exact a0c ⟨_,rfl,rfl⟩
 | some bs =>
  obtain ⟨hbl,-⟩:=a2e hd
  have e:a7x b sector=if a4N (b6S bs) sector=some b then some (b6S bs) else none:=by simp only [a7x,hd]
  rw [e]
  show Nx _ (.tup [.sl 1 (bs.map u8A),.bool true]) _
  refine nx rfl rfl ?_
  repeat' (first|refine Zs rfl ?_|refine Zc rfl ?_|refine Qa rfl ?_)
  refine Cn rfl (a9r X bs (by omega) _ _ rfl) rfl rfl ?_
  repeat' (first|((refine Qa rfl ?_);(refine QJ rfl rfl ?_);(refine QX rfl rfl ?_))|(refine Qb rfl ?_;try (refine QS rfl rfl rfl rfl rfl rfl rfl ?_;(refine QX rfl rfl ?_)))|refine Qh ?_)
  refine a2j ?_
  refine a0t (a0w (id:=3) (cs:=[.ptr 2 0]) rfl) ?_
  refine Kc [0,1,4,8] 3 (c1I bs 0) rfl rfl (by simp [a0d,a0e]) ?_
  have q1:=fun R=>a6j X bs 0 1 (by decide) (by decide) (by omega) (by omega) [some zOh] R 1 rfl
  have q2:=fun R=>a6j X bs 1 1 (by decide) (by decide) (by omega) (by omega) [some zOh] R 1 rfl
  have q3:=fun R=>a6j X bs 2 4 (by decide) (by decide) (by omega) (by omega) [some zOh] R 1 rfl
  have q4:=fun R=>a6j X bs 6 6 (by decide) (by decide) (by omega) (by omega) [some zOh] R 1 rfl
  have q5:=fun R=>a6j X bs 12 6 (by decide) (by decide) (by omega) (by omega) [some zOh] R 1 rfl
  have q6:=fun R=>a6j X bs 18 5 (by decide) (by decide) (by omega) (by omega) [some zOh] R 1 rfl
  have hp:b6S bs=⟨(a0J ((bs.drop 0).take 1):Nat),(a0J ((bs.drop 1).take 1):Nat),(a0J ((bs.drop 2).take 4):Nat),(a0J ((bs.drop 6).take 6):Nat),(a0J ((bs.drop 12).take 6):Nat),(a0J ((bs.drop 18).take 5):Nat)⟩:=rfl
  rw [hp]
  generalize a0J ((bs.drop 0).take 1)=n1 at *
  generalize a0J ((bs.drop 1).take 1)=n2 at *
  generalize a0J ((bs.drop 2).take 4)=n3 at *
  generalize a0J ((bs.drop 6).take 6)=n4 at *
  generalize a0J ((bs.drop 12).take 6)=n5 at *
  generalize a0J ((bs.drop 18).take 5)=n6 at *
  have hen:=fun X=>c3Y X ⟨n1,n2,n3,n4,n5,n6⟩ sector hs
  repeat' (first|refine Zs rfl ?_|refine Zc rfl ?_|refine Qa rfl ?_)
  refine Cn rfl (q1 _) rfl rfl ?_
  repeat' (first|refine Zs rfl ?_|refine Qa rfl ?_)
  refine Cn rfl (q2 _) rfl rfl ?_
  repeat' (first|refine Zs rfl ?_|refine Qa rfl ?_)
  refine Cn rfl (q3 _) rfl rfl ?_
  repeat' (first|refine Zs rfl ?_|refine Qa rfl ?_)
  refine Cn rfl (q4 _) rfl rfl ?_
  repeat' (first|refine Zs rfl ?_|refine Qa rfl ?_)
  refine Cn rfl (q5 _) rfl rfl ?_
  repeat' (first|refine Zs rfl ?_|refine Qa rfl ?_)
  refine Cn rfl (q6 _) rfl rfl ?_
  repeat' (first|refine Zs rfl ?_|refine Zc rfl ?_|refine Qa rfl ?_)
  refine Ck (fun _=>rfl) rfl (a0f (E:=E0 X) hen (by simp [a0e,a0d]) _) ?_
  cases he:a4N ⟨n1,n2,n3,n4,n5,n6⟩ sector with
  | none =>
   rw [if_neg (by simp)]
   show Nx _ (.tup [.nils,.int .i64 4]) _
   refine nx rfl rfl ?_
   repeat' (first|refine Zs rfl ?_|refine Zc rfl ?_|refine Zh ?_|refine Qs ?_)
   exact a0c ⟨_,rfl,rfl⟩
  | some eb =>
   show Nx _ (.tup [.sl 1 (eb.map u8A),.int .i64 0]) _
   refine nx rfl rfl ?_
   repeat' (first|refine Zs rfl ?_|refine Zc rfl ?_|refine Qa rfl ?_)
   refine Cn rfl (a0f (E:=E0 X) (fun X=>b5q X eb b) (by simp [a0e,a0d]) _) rfl rfl ?_
   repeat' (first|refine Zs rfl ?_|refine Zh ?_|refine Qs ?_)
   refine a0I rfl (fun h9=>?_) (fun h9=>?_)
   ·have h8:¬ eb=b:=by simpa using h9
    rw [if_neg (by simpa using h8)]
    repeat' (first|refine Zs rfl ?_|refine Zc rfl ?_|refine Zh ?_|refine Qs ?_)
    exact a0c ⟨_,rfl,rfl⟩
   have h8:eb=b:=by simpa using h9
   rw [if_pos (by rw [h8])]
   repeat' (first|refine Zs rfl ?_|refine Zc rfl ?_|refine Zh ?_|refine Qs ?_)
   exact a0c ⟨_,rfl,rfl⟩
theorem c2K(X:Nat->Prop)(b:List UInt8)(sector:Nat)(hs:sector<1048576)(hb:b.length<=1000) :
  a0b (E0 X) 149 [.sl 1 (b.map u8A),.int .i64 (sector:Int)] [] (fun r H'=>r=c4v (a7x b sector)/\H'=[]):=by
 refine a0b.cut0 ?_ ⟨a4l,trivial,trivial⟩
 have hdec:=fun X=>a9A X 1 0 sector b ⟨by decide,by decide,hs⟩ (by decide) (by omega)
 refine Z0 Proofs.Tryz.func149 rfl Proofs.Tryz.ntmps149 (by kernel_rfl) rfl ?_
 repeat' (first|refine Zs rfl ?_|refine Zc rfl ?_|refine Qa rfl ?_)
 refine Ck (fun _=>rfl) rfl (a0f (E:=E0 X) hdec (by simp [a0e,a0d]) _) ?_
 cases hd:a2A 1 0 sector b with
 | none =>
  have e:a7x b sector=none:=by simp only [a7x,hd]
  rw [e]
  show Nx _ (.tup [.nils,.bool false]) _
  refine nx rfl rfl ?_
  repeat' (first|refine Zs rfl ?_|refine Zc rfl ?_|refine Zh ?_|refine Qs ?_)
  exact a0c ⟨_,rfl,rfl⟩
 | some bs =>
  obtain ⟨hbl,-⟩:=a2e hd
  rw [b4C hd]
  show Nx _ (.tup [.sl 1 (bs.map u8A),.bool true]) _
  refine nx rfl rfl ?_
  obtain ⟨x0,hx0⟩:∃x,bs[0]?=some x:=⟨_,List.getElem?_eq_getElem (by omega)⟩
  obtain ⟨x1,hx1⟩:∃x,bs[1]?=some x:=⟨_,List.getElem?_eq_getElem (by omega)⟩
  have hp:b0I bs=⟨(x0.toNat:Nat),(x1.toNat:Nat),(a0J ((bs.drop 2).take 4):Nat),(a0J ((bs.drop 6).take 6):Nat),(a0J ((bs.drop 12).take 6):Nat),(a0J ((bs.drop 18).take 5):Nat)⟩:=by simp [b0I,hx0,hx1]
  have hw0:=x0.toNat_lt
  have hw1:=x1.toNat_lt
  have w0:IntKind.i64.wrap (x0.toNat:Int)=(x0.toNat:Int):=a0r (by omega) (by omega)
  have w1:IntKind.i64.wrap (x1.toNat:Int)=(x1.toNat:Int):=a0r (by omega) (by omega)
  have q1:=fun X=>a3e X ((bs.drop 2).take 4) (by simp;omega)
  have q2:=fun X=>a3e X ((bs.drop 6).take 6) (by simp;omega)
  have q3:=fun X=>a3e X ((bs.drop 12).take 6) (by simp;omega)
  have q4:=fun X=>a3e X ((bs.drop 18).take 5) (by simp;omega)
  have s1:=a0U (bs:=bs) (lo:=2) (w:=4) (by decide)
  have s2:=a0U (bs:=bs) (lo:=6) (w:=6) (by decide)
  have s3:=a0U (bs:=bs) (lo:=12) (w:=6) (by decide)
  have s4:=a0U (bs:=bs) (lo:=18) (w:=5) (by decide)
  rw [hp]
  repeat' (first|refine Zs rfl ?_|refine Zc rfl ?_)
  refine a0n [25,26] [0,1,2,3,4,5,6,7,8,9,10,11,12,13,14,15,16,17,18,19,20,21,22,23,24] (by exact rfl) ?_
  refine a0y (fuel:=0) [0,1,2,3,4,5,6,7,8,9,10,11,12,13,14,15,16,17,18,19,20,21,22,23,24,25,26] (by exact rfl) (by kernel_rfl) (by kernel_rfl) ?_
  repeat' ((apply Qe rfl rfl rfl rfl;intro H9);(refine Q0 ?_);(exact QY rfl ⟨rfl,rfl⟩))
  apply a0O rfl rfl rfl rfl
  ·intro H9
   refine a0C hx0 rfl rfl rfl rfl rfl rfl rfl (by first|rfl|omega) rfl ?_
   exact nxs rfl ⟨rfl,rfl⟩
  repeat' ((apply Qe rfl rfl rfl rfl;intro H9);(first|refine Q0 ?_|refine Q3 rfl rfl rfl ?_|refine QG rfl rfl rfl rfl ?_);(exact QY rfl ⟨rfl,rfl⟩))
  apply a0O rfl rfl rfl rfl
  ·intro H9
   refine a0C hx1 rfl rfl rfl rfl rfl rfl rfl (by first|rfl|omega) rfl ?_
   exact nxs rfl ⟨rfl,rfl⟩
  repeat' ((apply Qe rfl rfl rfl rfl;intro H9);(first|refine Q0 ?_|refine Q3 rfl rfl rfl ?_|refine QG rfl rfl rfl rfl ?_);(exact QY rfl ⟨rfl,rfl⟩))
  apply a0O rfl rfl rfl rfl
  ·intro H9
   refine a1f (l:=2) (h:=6) (ys:=(bs.drop 2).take 4) (a0q rfl rfl) (a0q rfl rfl) (by omega) (by omega) (by rw [List.drop_take]) rfl rfl rfl rfl rfl ?_
   exact nx0 ⟨rfl,rfl⟩
  generalize (bs.drop 2).take 4=b1 at *
  skip
  apply a0O rfl rfl rfl rfl
  ·intro H9
   refine Ck (fun _=>rfl) rfl (a0f (E:=E0 X) (fun X=>q1 X) (by simp [a0e,a0d]) _) ?_
   exact nxs rfl ⟨rfl,rfl⟩
  repeat' ((apply Qe rfl rfl rfl rfl;intro H9);(first|refine Q0 ?_|refine QG rfl rfl rfl rfl ?_);(exact QY rfl ⟨rfl,rfl⟩))
  apply a0O rfl rfl rfl rfl
  ·intro H9
   refine a1f (l:=6) (h:=12) (ys:=(bs.drop 6).take 6) (a0q rfl rfl) (a0q rfl rfl) (by omega) (by omega) (by rw [List.drop_take]) rfl rfl rfl rfl rfl ?_
   exact nx0 ⟨rfl,rfl⟩
  generalize (bs.drop 6).take 6=b2 at *
  skip
  apply a0O rfl rfl rfl rfl
  ·intro H9
   refine Ck (fun _=>rfl) rfl (a0f (E:=E0 X) (fun X=>q2 X) (by simp [a0e,a0d]) _) ?_
   exact nxs rfl ⟨rfl,rfl⟩
  repeat' ((apply Qe rfl rfl rfl rfl;intro H9);(first|refine Q0 ?_|refine QG rfl rfl rfl rfl ?_);(exact QY rfl ⟨rfl,rfl⟩))
  apply a0O rfl rfl rfl rfl
  ·intro H9
   refine a1f (l:=12) (h:=18) (ys:=(bs.drop 12).take 6) (a0q rfl rfl) (a0q rfl rfl) (by omega) (by omega) (by rw [List.drop_take]) rfl rfl rfl rfl rfl ?_
   exact nx0 ⟨rfl,rfl⟩
  generalize (bs.drop 12).take 6=b3 at *
  skip
  apply a0O rfl rfl rfl rfl
  ·intro H9
   refine Ck (fun _=>rfl) rfl (a0f (E:=E0 X) (fun X=>q3 X) (by simp [a0e,a0d]) _) ?_
   exact nxs rfl ⟨rfl,rfl⟩
  repeat' ((apply Qe rfl rfl rfl rfl;intro H9);(first|refine Q0 ?_|refine QG rfl rfl rfl rfl ?_);(exact QY rfl ⟨rfl,rfl⟩))
  apply a0O rfl rfl rfl rfl
  ·intro H9
   refine a1f (l:=18) (h:=23) (ys:=(bs.drop 18).take 5) (a0q rfl rfl) (a0q rfl rfl) (by omega) (by omega) (by rw [List.drop_take]) rfl rfl rfl rfl rfl ?_
   exact nx0 ⟨rfl,rfl⟩
  generalize (bs.drop 18).take 5=b4 at *
  skip
  apply a0O rfl rfl rfl rfl
  ·intro H9
   refine Ck (fun _=>rfl) rfl (a0f (E:=E0 X) (fun X=>q4 X) (by simp [a0e,a0d]) _) ?_
   exact nxs rfl ⟨rfl,rfl⟩
  repeat' (first|((first|refine Qc rfl rfl rfl ?_|(apply Qe rfl rfl rfl rfl;intro H9));(first|refine QG rfl rfl rfl rfl ?_|refine QJ rfl rfl ?_|refine QP rfl rfl rfl rfl rfl rfl ?_);(first|exact QY rfl ⟨rfl,rfl⟩|refine QX rfl rfl ?_))|(refine Qf rfl rfl rfl ?_;refine QS rfl rfl rfl rfl rfl rfl rfl ?_;(refine QX rfl rfl ?_))|refine Qk ?_|refine Qw (by kernel_rfl) ?_)
  rw [w0,w1,a3i s1,a3i s2,a3i s3,a3i s4]
  generalize (x0.toNat:Int)=k0 at *
  generalize (x1.toNat:Int)=k1 at *
  generalize (a0J b1:Int)=k2 at *
  generalize (a0J b2:Int)=k3 at *
  generalize (a0J b3:Int)=k4 at *
  generalize (a0J b4:Int)=k5 at *
  repeat' (first|refine Zs rfl ?_|refine Zc rfl ?_|refine Qa rfl ?_)
  refine Cn rfl (a0f (E:=E0 X) (fun X=>b0G X ⟨k0,k1,k2,k3,k4,k5⟩) (by simp [a0e,a0d]) _) rfl rfl ?_
  cases hv:hdB ⟨k0,k1,k2,k3,k4,k5⟩ with
  | false =>
   have e9:a4N ⟨k0,k1,k2,k3,k4,k5⟩ sector=none:=by unfold a4N;rw [if_neg (by simp [hv])]
   rw [e9,if_neg (by simp)]
   repeat' (first|refine Zs rfl ?_|refine Zc rfl ?_|refine Zh ?_|refine Qs ?_)
   exact a0c ⟨_,rfl,rfl⟩
  | true =>
   have e9:a4N ⟨k0,k1,k2,k3,k4,k5⟩ sector=some (a8Z ⟨k0,k1,k2,k3,k4,k5⟩ sector):=by unfold a4N;rw [if_pos hv]
   have henc:=fun X=>b7u X ⟨k0,k1,k2,k3,k4,k5⟩ sector hv hs
   have hel:=a9a ⟨k0,k1,k2,k3,k4,k5⟩ sector
   rw [e9]
   generalize a8Z ⟨k0,k1,k2,k3,k4,k5⟩ sector=eb at *
   repeat' (first|refine Zs rfl ?_|refine Qa rfl ?_)
   refine Cn rfl (a0f (E:=E0 X) (fun X=>henc X) (by simp [a0e,a0d]) _) rfl rfl ?_
   repeat' (first|refine Zs rfl ?_|refine Qa rfl ?_)
   refine Cn rfl (a0f (E:=E0 X) (fun X=>b4q X eb b (by omega)) (by simp [a0e,a0d]) _) rfl rfl ?_
   repeat' (first|refine Zs rfl ?_|refine Zh ?_|refine Qs ?_)
   refine a0I rfl (fun h9=>?_) (fun h9=>?_)
   ·have h8:¬ eb=b:=by simpa using h9
    rw [if_neg (by simpa using h8)]
    repeat' (first|refine Zs rfl ?_|refine Zc rfl ?_|refine Zh ?_|refine Qs ?_)
    exact a0c ⟨_,rfl,rfl⟩
   have h8:eb=b:=by simpa using h9
   rw [if_pos (by rw [h8])]
   repeat' (first|refine Zs rfl ?_|refine Zc rfl ?_|refine Zh ?_|refine Qs ?_)
   exact a0c ⟨_,rfl,rfl⟩
theorem a0b.cutDv{E:Env}{f:FuncId}{args:List AV}{v v':Dv}{r0:AV}(h:a0b E f args (a0K v) (fun r H'=>r=r0/\H'.take 3=a0K v'))(hr:a0d 0 r0):a0b E f args (a0K v) (fun r H'=>r=r0/\H'=a0K v') :=
 h.imp fun r H' ⟨h1,h2⟩=>by
  subst h1
  refine ⟨_,_,⟨rfl,rfl⟩,a0j 3 (Nat.le_refl _) (a1n v') h2 ?_ ?_⟩
  ·have:(H'.take 3).length=3:=by rw [h2];rfl
   simp at this ⊢;omega
  ·exact a0a ⟨rfl,(a0F (Nat.zero_le _) (show a0e 0 [r] from ⟨hr,trivial⟩)).1⟩ a0l
def b4s(l:La)(slot:Int)(o:Option Hd):Option Hd:=match o with
 | none=>none
 | some h=>if h.ver=l.ver/\h.lay=l.id/\h.slot=slot then some h else none
def a1Z(v:Dv)(l:La)(slot:Int):Option Hd:=if v.check (a1b l slot)≠0 then none else b4s l slot (a7x ((v.image.drop ((a1b l slot).toNat*64)).take 64) (a1b l slot).toNat)
theorem c4g(v:Dv)(l:La):HOk 5 (a0K v++[some (.cells [.int .i64 l.id,.int .i64 l.ver,.int .i64 l.rs,.int .i64 l.regs] 23),some zOh]):=fun j o' ho=>by
 match j,ho with
 | 0,ho=>cases ho;exact ⟨by simp [a0d],by simp [a0d],trivial,trivial,trivial,trivial⟩
 | 1,ho=>cases ho;exact a0h fun _=>a0k
 | 2,ho=>cases ho;exact ⟨by rw [List.map_map];exact a0h fun _=>trivial,by rw [List.map_map];exact a0h fun p=>(a0h (f:=u8A) fun _=>a0k:a0e _ (p.2.map u8A))⟩
 | 3,ho=>cases ho;exact ⟨trivial,trivial,trivial,trivial,trivial⟩
 | 4,ho=>cases ho;exact ⟨trivial,trivial,trivial,trivial,trivial,trivial,trivial⟩
theorem c3a(X:Nat->Prop)(v:Dv)(hv:v.Inv)(l:La)(slot:Int):a0b (E0 X) 112 [.ptr 0 0,laA l,.int .i64 slot] (a0K v) (fun r H'=>r=c4v (a1Z v l slot)/\H'=a0K v):=by
 have hlv:v.image.length<=1073741824:=by have:=hv.load.2.2;omega
 refine a0b.cutDv ?_ ⟨a4l,trivial,trivial⟩
 have hfi:=fun X=>b1u X l slot
 have hrd:=fun R=>a6t X v (a1b l slot) hlv [] R 0 rfl
 have hci:=fun h=>a5t hv (i:=a1b l slot) h
 unfold a1Z
 generalize a1b l slot=fi at *
 show a0b (E0 X) 112 [.ptr 0 0,.agg [.int .i64 l.id,.int .i64 l.ver,.int .i64 l.rs,.int .i64 l.regs],.int .i64 slot] (a0K v) _
 refine Z0 Proofs.Tryz.func112 rfl Proofs.Tryz.ntmps112 (by kernel_rfl) rfl ?_
 repeat' (first|refine Zs rfl ?_|refine Zc rfl ?_|refine Qa rfl ?_)
 refine Cn rfl (a0f (E:=E0 X) (fun X=>hfi X) (by simp [a0e,a0d]) _) rfl rfl ?_
 repeat' (first|refine Zs rfl ?_|refine Zc rfl ?_|refine Qa rfl ?_)
 by_cases hc:v.check fi=0
 ·rw [if_neg (by rw [hc];simp)]
  obtain ⟨-,k,rfl,hk⟩:=hci hc
  rw [Int.toNat_natCast] at *
  have hk20:k<1048576:=by have:=hv.load.2.2;omega
  have hbl:((v.image.drop (k*64)).take 64).length=64:=by simp;omega
  generalize (v.image.drop (k*64)).take 64=bb at *
  refine a1c (fun _=>rfl) rfl ?_
  refine a0b.mono (hrd [some (.cells [.int .i64 l.id,.int .i64 l.ver,.int .i64 l.rs,.int .i64 l.regs] 23),some zOh]) ?_
  rintro r H' (⟨hc2,-,-⟩|⟨-,rfl,rfl⟩)
  ·exact absurd hc hc2
  refine nx rfl rfl ?_
  repeat' (first|((refine Qa rfl ?_);(first|refine Q0 ?_|refine Q1 ?_|refine QC rfl rfl ?_);(refine QX rfl rfl ?_))|refine Qh ?_)
  refine a2j ?_
  refine a0t (Imp.trans (a0N (id:=5) (k:=1) (es:=bb.map u8A) (e:=5) rfl rfl rfl) (a0j 5 (by simp [a0K]) (c4g v l) rfl (by simp [b5a])
   (sl':=[(0,.ptr 0 0),(2,.int .i64 slot),(4,.ptr 3 0),(6,.ptr 4 0),(8,.int .i64 (k:Int)),(9,.sl 1 (bb.map u8A)),(10,.int .i64 0)]) ?_)) ?_
  ·repeat' (first|exact a0l|refine a0a ⟨?_,?_⟩ ?_)
   all_goals (try first|exact rfl|exact trivial|(simp [a0d,a0e];done))
   ·show frz 5 1 (bb.map u8A) (.own 5 0 64)=_
    simp [frz,hbl,List.take_of_length_le]
  repeat' (first|refine Zs rfl ?_|refine Zc rfl ?_|refine Qa rfl ?_)
  refine Cn rfl (a0f (E:=E0 X) (fun X=>c3V X bb k hk20 (by omega)) (by simp [a0e,a0d]) _) rfl rfl ?_
  cases hd:a7x bb k with
  | none =>
   repeat' (first|refine Zs rfl ?_|refine Zc rfl ?_|refine Zh ?_|refine Qs ?_)
   exact a0c ⟨_,rfl,rfl,rfl⟩
  | some h =>
   repeat' (first|refine Zs rfl ?_|refine Zc rfl ?_)
   by_cases hne:h.ver=l.ver
   rotate_left
   ·rw [decide_eq_true (show ((some h).getD a3o).ver≠l.ver from hne)]
    have ef:b4s l slot (some h)=none:=if_neg fun hh=>hne hh.1
    rw [ef]
    repeat' (first|refine Zs rfl ?_|refine Zc rfl ?_|refine Zh ?_|refine Qs ?_)
    exact a0c ⟨_,rfl,rfl,rfl⟩
   have h1:=hne
   clear hne
   rw [decide_eq_false (show ¬ ((some h).getD a3o).ver≠l.ver from fun hh=>hh h1)]
   repeat' (refine Zs rfl ?_)
   by_cases hne:h.lay=l.id
   rotate_left
   ·rw [decide_eq_true (show ((some h).getD a3o).lay≠l.id from hne)]
    have ef:b4s l slot (some h)=none:=if_neg fun hh=>hne hh.2.1
    rw [ef]
    repeat' (first|refine Zs rfl ?_|refine Zc rfl ?_|refine Zh ?_|refine Qs ?_)
    exact a0c ⟨_,rfl,rfl,rfl⟩
   have h2:=hne
   clear hne
   rw [decide_eq_false (show ¬ ((some h).getD a3o).lay≠l.id from fun hh=>hh h2)]
   repeat' (first|refine Zs rfl ?_|refine Zh ?_|refine Qs ?_)
   by_cases hne:h.slot=slot
   rotate_left
   ·rw [decide_eq_true (show ((some h).getD a3o).slot≠slot from hne)]
    have ef:b4s l slot (some h)=none:=if_neg fun hh=>hne hh.2.2
    rw [ef]
    repeat' (first|refine Zs rfl ?_|refine Zc rfl ?_|refine Zh ?_|refine Qs ?_)
    exact a0c ⟨_,rfl,rfl,rfl⟩
   rw [decide_eq_false (show ¬ ((some h).getD a3o).slot≠slot from fun hh=>hh hne)]
   have ef:b4s l slot (some h)=some h:=if_pos ⟨h1,h2,hne⟩
   rw [ef]
   repeat' (first|refine Zs rfl ?_|refine Zc rfl ?_|refine Zh ?_|refine Qs ?_)
   exact a0c ⟨_,rfl,rfl,rfl⟩
 rw [if_pos hc]
 refine a1c (fun _=>rfl) rfl ?_
 refine a0b.mono (hrd [some (.cells [.int .i64 l.id,.int .i64 l.ver,.int .i64 l.rs,.int .i64 l.regs] 23),some zOh]) ?_
 rintro r H' (⟨-,rfl,rfl⟩|⟨hc2,-,-⟩)
 rotate_left
 ·exact absurd hc2 hc
 refine nx rfl rfl ?_
 repeat' (first|refine Zs rfl ?_|refine Zc rfl ?_|refine Zh ?_|refine Qs ?_)
 refine a0g rfl (fun h4=>?_) (fun h4=>?_)
 ·repeat' (first|refine Zs rfl ?_|refine Zc rfl ?_|refine Zh ?_|refine Qs ?_)
  exact a0c ⟨_,rfl,rfl,rfl⟩
 ·exact absurd (by omega) hc
theorem a6m{E:Env}{N n0:Nat}{H:Hp}{r r':AV}(h:∀m w v,E.Rel m w r v->E.Rel m w r' v):Imp E N n0 ⟨[(0,r)],H⟩ ⟨[(0,r')],H⟩:=fun _ _ _ m w a he hs=>by
 refine ⟨m,he,⟨hs.ok,fun k=>?_,hs.size,hs.defers,hs.sim,hs.glob⟩⟩
 have h1:=hs.slots k
 by_cases hk:k=0
 ·subst hk;exact h _ _ _ h1
 have e:∀x:AV,get [(0,x)] k=.any:=fun x=>by
  match k,hk with
  | 0,hk=>exact absurd rfl hk
  | _+1,_=>rfl
 show Abs.Rel E.cx m w (get [(0,r')] k) _
 rw [e]
 simp [Abs.Rel]
theorem a0b.weakRv{E:Env}{f:FuncId}{args:List AV}{H:Hp}{R R':AV->Hp->Prop}(h:a0b E f args H R)(k:∀r H',R r H'->∃r',R' r' H'/\∀m w v,E.Rel m w r v->E.Rel m w r' v):a0b E f args H R' :=
 h.imp fun r H' hr=>by
  obtain ⟨r',h1,h2⟩:=k r H' hr
  exact ⟨r',H',h1,a6m h2⟩
def iA(n:Int):AV:=.int .i64 n
theorem a6l(l:List Int){n:Nat}:a0e n (l.map iA):=a0h fun _=>trivial
theorem b6J(l:List Int):a2R (l.map iA):=fun y hy=>by
 obtain ⟨b,_,rfl⟩:=List.mem_map.1 hy;exact ⟨rfl,rfl⟩
def a2i(l:La)(slot:Int):Prop:=a1a l=true/\0<=slot/\slot<l.regs
def a4c(l:La)(slot:Int)(n:Nat):List Int:=(List.range n).map fun (i:Nat)=>74+slot*l.rs+(i:Int)
theorem b4O(l:La)(slot:Int)(n:Nat):a4c l slot (n+1)=a4c l slot n++[74+slot*l.rs+(n:Int)]:=by simp [a4c,List.range_succ]
theorem a5R(l:La)(slot:Int)(n:Nat):(a4c l slot n).length=n:=by simp [a4c]
theorem a5Q(l:La)(slot:Int){n i:Nat}(h:i<n):(a4c l slot n)[i]?=some (74+slot*l.rs+(i:Int)):=by simp [a4c,h]
theorem c4f(l:La)(o:List Int):HOk 2 [some (.cells [.int .i64 l.id,.int .i64 l.ver,.int .i64 l.rs,.int .i64 l.regs] 23),some (.arr (o.map iA) 3)]:=fun j o' ho=>by
 match j,ho with
 | 0,ho=>cases ho;exact ⟨trivial,trivial,trivial,trivial,trivial⟩
 | 1,ho=>cases ho;exact a6l _
theorem a8H(X:Nat->Prop)(l:La)(slot:Int)(h:¬ a2i l slot):a0b (E0 X) 71 [laA l,.int .i64 slot] [] (fun r H'=>r=.sl 1 (([]:List Int).map iA)/\H'=[]):=by
 refine a0b.cut0 ?_ (a6l [])
 refine a0b.weakRv (R:=fun r _=>r=.nils) ?_ (fun r H' h=>by subst h;exact ⟨_,rfl,fun m w v h=>a2P 1 h⟩)
 refine Z0 Proofs.Tryz.func71 rfl Proofs.Tryz.ntmps71 (by kernel_rfl) rfl ?_
 repeat' (first|refine Zs rfl ?_|refine Zc rfl ?_|refine Qa rfl ?_)
 refine Cn rfl (a0f (E:=E0 X) (fun X=>a4s X l) (by simp [a0e,a0d]) _) rfl rfl ?_
 cases hf:a1a l with
 | false =>
  repeat' (first|refine Zs rfl ?_|refine Zc rfl ?_|refine Zh ?_|refine Qs ?_)
  exact a0c ⟨_,rfl,rfl⟩
 | true =>
  by_cases h1:slot<0
  ·repeat' (refine Zs rfl ?_)
   rw [decide_eq_true h1]
   repeat' (first|refine Zs rfl ?_|refine Zc rfl ?_|refine Zh ?_|refine Qs ?_)
   exact a0c ⟨_,rfl,rfl⟩
  have h2:l.regs<=slot:=by
   rcases Int.lt_or_le slot l.regs with h3|h3
   ·exact absurd ⟨hf,by omega,h3⟩ h
   ·exact h3
  repeat' (refine Zs rfl ?_)
  rw [decide_eq_false h1]
  repeat' (first|refine Zs rfl ?_|refine Zh ?_|refine Qs ?_)
  rw [decide_eq_true h2]
  repeat' (first|refine Zs rfl ?_|refine Zc rfl ?_|refine Zh ?_|refine Qs ?_)
  exact a0c ⟨_,rfl,rfl⟩
theorem a5i(X:Nat->Prop)(l:La)(slot:Int)(h:a2i l slot):a0b (E0 X) 71 [laA l,.int .i64 slot] [] (fun r H'=>r=.sl 1 ((a4c l slot l.rs.toNat).map iA)/\H'=[]):=by
 refine a0b.frz0 (e:=3) 1 ?_ rfl rfl (a6l _)
 obtain ⟨hf,h0,h1⟩:=h
 have hm:=a2y hf h0 h1
 have hr:=a1z hf
 have hfc:=fun X=>a4s X l
 rw [hf] at hfc
 have hne1:¬ slot<0:=by omega
 have hne2:¬ l.regs<=slot:=by omega
 show a0b (E0 X) 71 [.agg [.int .i64 l.id,.int .i64 l.ver,.int .i64 l.rs,.int .i64 l.regs],.int .i64 slot] [] _
 refine Z0 Proofs.Tryz.func71 rfl Proofs.Tryz.ntmps71 (by kernel_rfl) rfl ?_
 repeat' (first|refine Zs rfl ?_|refine Zc rfl ?_|refine Qa rfl ?_)
 refine Cn rfl (a0f (E:=E0 X) (fun X=>hfc X) (by simp [a0e,a0d]) _) rfl rfl ?_
 repeat' (refine Zs rfl ?_)
 rw [decide_eq_false hne1]
 repeat' (first|refine Zs rfl ?_|refine Zh ?_|refine Qs ?_)
 rw [decide_eq_false hne2]
 repeat' (first|refine Zs rfl ?_|refine Zc rfl ?_)
 refine a0s (fun i:Nat=>⟨[(1,.int .i64 slot),(2,.ptr 0 0),(5,.own 1 0 i),(6,.int .i64 (i:Int))],[some (.cells [.int .i64 l.id,.int .i64 l.ver,.int .i64 l.rs,.int .i64 l.regs] 23),some (.arr ((a4c l slot i).map iA) 3)]⟩) (fun i=>i<=l.rs.toNat) (fun i=>l.rs.toNat - i) 0 (Nat.zero_le _) ?_ ?_
 ·exact Imp.trans (imp_nil 5 3 rfl) (kk 2 (c4f l []) rfl (by simp [a0d,a0e]))
 rintro i hi
 have hlen:=a5R l slot i
 have hsuc:=b4O l slot i
 repeat' (first|refine Zs rfl ?_|refine Zc rfl ?_|refine Zh ?_|refine Qs ?_)
 refine a0g rfl (fun h3=>?_) (fun h3=>?_)
 ·repeat' (first|refine Zs rfl ?_|refine Zc rfl ?_|refine Qa rfl ?_)
  rw [hm.1,show IntKind.i64.wrap (74+slot*l.rs+(i:Int))=74+slot*l.rs+(i:Int) from a0r (by omega) (by omega)]
  refine a0V (oid:=some 1) (es:=(a4c l slot i).map iA) (out:=(a4c l slot (i+1)).map iA) (n:=i+1) (a0M rfl (by rw [List.length_map,hlen])) (rfl) (b6J [74+slot*l.rs+(i:Int)]) (by rw [hsuc,List.map_append];rfl) (by rw [List.length_map,hlen];rfl) (by show _<=9223372036854775807;omega) (by show _*8<=_;omega) rfl rfl rfl rfl rfl rfl rfl rfl ?_
  refine nx rfl rfl ?_
  repeat' (first|refine Zs rfl ?_|refine Zc rfl ?_|refine Zh ?_|refine Qs ?_)
  refine ⟨i+1,by omega,by omega,?_⟩
  refine a0S 1 [2] (H':=[some (.cells [.int .i64 l.id,.int .i64 l.ver,.int .i64 l.rs,.int .i64 l.regs] 23),some (.arr ((a4c l slot (i+1)).map iA) 3)]) (os:=[.arr ((a4c l slot (i+1)).map iA) 3]) (Nat.zero_le _) ?_ ?_ ?_ ?_ rfl ?_ ?_ ?_
  ·simp
  ·simp
  ·simp
  ·intro j o ho
   match j,ho with
   | 0,ho=>cases ho;exact ⟨trivial,trivial,trivial,trivial,trivial⟩
  ·rfl
  ·refine a0a (a0v rfl trivial) (a0a (a0v rfl (by simp [a0d])) (a0a (a0L rfl) (a0a (a0v ?_ trivial) a0l)))
   exact congrArg (AV.int .i64) (a0x (by omega) (by omega) (by omega))
  ·exact a0E rfl (a0A 1 a2m (a6l _)) a0T
 have hii:i=l.rs.toNat:=by omega
 repeat' (first|refine Zs rfl ?_|refine Zc rfl ?_|refine Zh ?_|refine Qs ?_)
 refine a0c ⟨_,rfl,1,_,rfl,?_,?_⟩
 ·rw [<- hii,List.length_map,hlen]
 ·rw [<- hii];rfl
def a4H(img:List UInt8)(s:Int):List UInt8:=if s<0\/(img.length:Int)<s*64+64 then [] else (img.drop (s.toNat*64)).take 64
theorem b3P(img:List UInt8)(s:Int):(a4H img s).length<=64:=by
 unfold a4H
 split
 ·exact Nat.zero_le _
 ·simp;omega
def a2q(img:List UInt8)(l:La)(slot:Int):Option Hd:=if a1a l=true/\0<=slot/\slot<l.regs then b4s l slot (a7x (a4H img (74+slot*l.rs)) (74+slot*l.rs).toNat) else none
theorem a8G(X:Nat->Prop)(img:List UInt8)(s:Int)(hs:s<=1000000)(hl:img.length<=1073741824):a0b (E0 X) 104 [.sl 1 (img.map u8A),.int .i64 s] [] (fun r H'=>r=.sl 1 ((a4H img s).map u8A)/\H'=[]):=by
 refine a0b.cut0 ?_ (a0h fun _=>a0k)
 refine a0b.weakRv (R:=fun r _=>(r=.nils/\a4H img s=[])\/r=.sl 1 ((a4H img s).map u8A)) ?_ (fun r H' h=>by
  rcases h with ⟨rfl,h2⟩|rfl
  ·exact ⟨_,rfl,fun m w v h=>by rw [h2];exact a2P 1 h⟩
  ·exact ⟨_,rfl,fun m w v h=>h⟩)
 refine Z0 Proofs.Tryz.func104 rfl Proofs.Tryz.ntmps104 (by kernel_rfl) rfl ?_
 repeat' (first|refine Zs rfl ?_|refine Zc rfl ?_)
 by_cases h1:s<0
 ·rw [decide_eq_true h1]
  repeat' (first|refine Zs rfl ?_|refine Zc rfl ?_|refine Zh ?_|refine Qs ?_)
  exact a0c ⟨_,rfl,.inl ⟨rfl,if_pos (.inl h1)⟩⟩
 obtain ⟨k,rfl⟩:=Int.eq_ofNat_of_zero_le (show 0<=s by omega)
 have e1:IntKind.i64.wrap ((k:Int)*64)=((k*64:Nat):Int):=a0x (by simp) (by omega) (by omega)
 have e2:IntKind.i64.wrap (((k*64:Nat):Int)+64)=((k*64+64:Nat):Int):=a0x (by omega) (by omega) (by omega)
 rw [decide_eq_false h1]
 repeat' (first|refine Zs rfl ?_|refine Zh ?_|refine Qs ?_)
 rw [e1,e2]
 by_cases h2:img.length<k*64+64
 ·rw [decide_eq_true (show ((img.map u8A).length:Int)<((k*64+64:Nat):Int) by rw [List.length_map];omega)]
  repeat' (first|refine Zs rfl ?_|refine Zc rfl ?_|refine Zh ?_|refine Qs ?_)
  exact a0c ⟨_,rfl,.inl ⟨rfl,if_pos (.inr (by omega))⟩⟩
 have e:a4H img k=(img.drop (k*64)).take 64:=by
  unfold a4H
  rw [if_neg (by omega),Int.toNat_natCast]
 rw [decide_eq_false (show ¬ ((img.map u8A).length:Int)<((k*64+64:Nat):Int) by rw [List.length_map];omega)]
 repeat' (first|refine Zs rfl ?_|refine Zc rfl ?_|refine Qa rfl ?_)
 rw [e1,e2]
 refine a1f (l:=k*64) (h:=k*64+64) (ys:=(img.drop (k*64)).take 64) (a0q rfl rfl) (a0q rfl rfl) (by omega) (by omega) (by rw [List.drop_take];congr 1;omega) rfl rfl rfl rfl rfl ?_
 refine nx rfl rfl ?_
 repeat' (first|refine Zs rfl ?_|refine Zh ?_|refine Qs ?_)
 exact a0c ⟨_,rfl,.inr (by rw [e];rfl)⟩
theorem c3W(X:Nat->Prop)(img:List UInt8)(hl:img.length<=1073741824)(l:La)(slot:Int):a0b (E0 X) 101 [.sl 1 (img.map u8A),laA l,.int .i64 slot] [] (fun r H'=>r=c4v (a2q img l slot)/\H'=[]):=by
 refine a0b.cut0 ?_ ⟨a4l,trivial,trivial⟩
 by_cases hso:a2i l slot
 rotate_left
 ·have e:a2q img l slot=none:=if_neg hso
  rw [e]
  show a0b (E0 X) 101 [.sl 1 (img.map u8A),.agg [.int .i64 l.id,.int .i64 l.ver,.int .i64 l.rs,.int .i64 l.regs],.int .i64 slot] [] _
  refine Z0 Proofs.Tryz.func101 rfl Proofs.Tryz.ntmps101 (by kernel_rfl) rfl ?_
  repeat' (first|refine Zs rfl ?_|refine Zc rfl ?_|refine Qa rfl ?_)
  refine Cn rfl (a0f (E:=E0 X) (fun X=>a8H X l slot hso) (by simp [a0e,a0d]) _) rfl rfl ?_
  repeat' (first|refine Zs rfl ?_|refine Zc rfl ?_|refine Zh ?_|refine Qs ?_)
  exact a0c ⟨_,rfl,rfl⟩
 have e:a2q img l slot=b4s l slot (a7x (a4H img (74+slot*l.rs)) (74+slot*l.rs).toNat):=if_pos hso
 have hse:=fun X=>a5i X l slot hso
 obtain ⟨hf,h0,h1⟩:=hso
 have hm:=a2y hf h0 h1
 have hr:=a1z hf
 have hget:=a5Q l slot (n:=l.rs.toNat) (i:=0) (by omega)
 have hsl:=a5R l slot l.rs.toNat
 obtain ⟨K,hK⟩:=Int.eq_ofNat_of_zero_le (show 0<=74+slot*l.rs by omega)
 have hK2:K<1048576:=by omega
 rw [show (74+slot*l.rs+((0:Nat):Int))=(K:Int) by omega] at hget
 rw [e,hK,Int.toNat_natCast]
 have hsc:=fun X=>a8G X img (K:Int) (by omega) hl
 have hbl:=b3P img (K:Int)
 have hde:=fun X=>c2K X (a4H img (K:Int)) K hK2 (by omega)
 generalize a4H img (K:Int)=bb at *
 generalize a4c l slot l.rs.toNat=ss at *
 show a0b (E0 X) 101 [.sl 1 (img.map u8A),.agg [.int .i64 l.id,.int .i64 l.ver,.int .i64 l.rs,.int .i64 l.regs],.int .i64 slot] [] _
 refine Z0 Proofs.Tryz.func101 rfl Proofs.Tryz.ntmps101 (by kernel_rfl) rfl ?_
 repeat' (first|refine Zs rfl ?_|refine Zc rfl ?_|refine Qa rfl ?_)
 refine Cn rfl (a0f (E:=E0 X) (fun X=>hse X) (by simp [a0e,a0d]) _) rfl rfl ?_
 repeat' (first|refine Zs rfl ?_|refine Zc rfl ?_|refine Zh ?_|refine Qs ?_)
 refine a0g rfl (fun h9=>?_) (fun h9=>?_)
 ·rw [List.length_map,hsl] at h9
  omega
 repeat' (refine Zc rfl ?_)
 refine a0n [12,13] [0,1,2,3,4,5,6,7,8,9,10,11,14] (by exact rfl) ?_
 refine a0y (fuel:=0) [0,1,2,3,4,5,6,7,8,9,10,11,12,13,14] (by exact rfl) (by kernel_rfl) (by kernel_rfl) ?_
 repeat' ((apply Qe rfl rfl rfl rfl;intro H9);(refine Q0 ?_);(exact QY rfl ⟨rfl,rfl⟩))
 apply a0O rfl rfl rfl rfl
 ·intro H9
  refine a0C hget rfl rfl rfl rfl rfl rfl rfl (by first|rfl|omega) rfl ?_
  exact nxs rfl ⟨rfl,rfl⟩
 repeat' ((apply Qe rfl rfl rfl rfl;intro H9);(refine Q3 rfl rfl rfl ?_);(exact QY rfl ⟨rfl,rfl⟩))
 apply a0O rfl rfl rfl rfl
 ·intro H9
  refine Ck (fun _=>rfl) rfl (a0f (E:=E0 X) (fun X=>hsc X) (by simp [a0e,a0d]) _) ?_
  exact nxs rfl ⟨rfl,rfl⟩
 repeat' ((apply Qe rfl rfl rfl rfl;intro H9);(refine Q0 ?_);(exact QY rfl ⟨rfl,rfl⟩))
 apply a0O rfl rfl rfl rfl
 ·intro H9
  refine a0C hget rfl rfl rfl rfl rfl rfl rfl (by first|rfl|omega) rfl ?_
  exact nxs rfl ⟨rfl,rfl⟩
 repeat' ((apply Qe rfl rfl rfl rfl;intro H9);(refine Q3 rfl rfl rfl ?_);(exact QY rfl ⟨rfl,rfl⟩))
 apply a0O rfl rfl rfl rfl
 ·intro H9
  refine Ck (fun _=>rfl) rfl (a0f (E:=E0 X) (fun X=>hde X) (by simp [a0e,a0d]) _) ?_
  exact nxs rfl ⟨rfl,rfl⟩
 cases hd:a7x bb K with
 | none =>
  repeat' (first|((first|refine Qc rfl rfl rfl ?_|(apply Qe rfl rfl rfl rfl;intro H9));(first|refine Q0 ?_|refine Q1 ?_|refine QC rfl rfl ?_|refine QJ rfl rfl ?_);(first|exact QY rfl ⟨rfl,rfl⟩|refine QX rfl rfl ?_))|(refine Qf rfl rfl rfl ?_;refine QS rfl rfl rfl rfl rfl rfl rfl ?_;(refine QX rfl rfl ?_))|refine Qk ?_|refine Qw (by kernel_rfl) ?_)
  repeat' (first|refine Zs rfl ?_|refine Zc rfl ?_|refine Zh ?_|refine Qs ?_)
  exact a0c ⟨_,rfl,rfl⟩
 | some h =>
  repeat' (first|((first|refine Qc rfl rfl rfl ?_|(apply Qe rfl rfl rfl rfl;intro H9));(first|refine Q0 ?_|refine Q1 ?_|refine QC rfl rfl ?_|refine QJ rfl rfl ?_);(first|exact QY rfl ⟨rfl,rfl⟩|refine QX rfl rfl ?_))|(refine Qf rfl rfl rfl ?_;refine QS rfl rfl rfl rfl rfl rfl rfl ?_;(refine QX rfl rfl ?_))|refine Qk ?_|refine Qw (by kernel_rfl) ?_)
  repeat' (first|refine Zs rfl ?_|refine Zc rfl ?_)
  by_cases hne:h.ver=l.ver
  rotate_left
  ·rw [decide_eq_true (show ((some h).getD a3o).ver≠l.ver from hne)]
   have ef:b4s l slot (some h)=none:=if_neg fun hh=>hne hh.1
   rw [ef]
   repeat' (first|refine Zs rfl ?_|refine Zc rfl ?_|refine Zh ?_|refine Qs ?_)
   exact a0c ⟨_,rfl,rfl⟩
  have h1:=hne
  clear hne
  rw [decide_eq_false (show ¬ ((some h).getD a3o).ver≠l.ver from fun hh=>hh h1)]
  repeat' (refine Zs rfl ?_)
  by_cases hne:h.lay=l.id
  rotate_left
  ·rw [decide_eq_true (show ((some h).getD a3o).lay≠l.id from hne)]
   have ef:b4s l slot (some h)=none:=if_neg fun hh=>hne hh.2.1
   rw [ef]
   repeat' (first|refine Zs rfl ?_|refine Zc rfl ?_|refine Zh ?_|refine Qs ?_)
   exact a0c ⟨_,rfl,rfl⟩
  have h2:=hne
  clear hne
  rw [decide_eq_false (show ¬ ((some h).getD a3o).lay≠l.id from fun hh=>hh h2)]
  repeat' (first|refine Zs rfl ?_|refine Zh ?_|refine Qs ?_)
  by_cases hne:h.slot=slot
  rotate_left
  ·rw [decide_eq_true (show ((some h).getD a3o).slot≠slot from hne)]
   have ef:b4s l slot (some h)=none:=if_neg fun hh=>hne hh.2.2
   rw [ef]
   repeat' (first|refine Zs rfl ?_|refine Zc rfl ?_|refine Zh ?_|refine Qs ?_)
   exact a0c ⟨_,rfl,rfl⟩
  rw [decide_eq_false (show ¬ ((some h).getD a3o).slot≠slot from fun hh=>hh hne)]
  have ef:b4s l slot (some h)=some h:=if_pos ⟨h1,h2,hne⟩
  rw [ef]
  repeat' (first|refine Zs rfl ?_|refine Zc rfl ?_|refine Zh ?_|refine Qs ?_)
  exact a0c ⟨_,rfl,rfl⟩
structure Rec where
 kind:Int
 key:List UInt8
 val:List UInt8
 exp:Int
def c3v(r:Rec):List AV:=[.int .i64 r.kind,.sl 1 (r.key.map u8A),.sl 1 (r.val.map u8A),.int .i64 r.exp]
def a5X(r:Rec):AV:=.agg (c3v r)
@[simp] theorem a2x{n:Nat}{r:Rec}:a0d n (a5X r):=⟨trivial,a0h fun _=>a0k,a0h fun _=>a0k,trivial,trivial⟩
def c1T(ver:Int):Int:=if ver=1 then 4294967295 else 1099511627775
def a4i(ver:Int)(r:Rec):Int :=
 if ver≠1/\ver≠2 then 2 else
 if (r.kind<1\/3<r.kind)\/(r.kind≠1/\(0<(r.val.length:Int)\/r.exp≠0))\/(r.kind=3/\0<(r.key.length:Int)) then 4 else
 if r.kind≠3/\((r.key.length:Int)=0\/255<(r.key.length:Int)) then 5 else
 if 65536<(r.val.length:Int) then 6 else
 if r.exp<0\/c1T ver<r.exp then 7 else 0
theorem b9k(X:Nat->Prop)(ver:Int):a0b (E0 X) 216 [.int .i64 ver] [] (fun r H'=>r=.int .i64 (c1T ver)/\H'=[]):=by
 refine Z0 Proofs.Tryz.func216 rfl Proofs.Tryz.ntmps216 (by kernel_rfl) rfl ?_
 repeat' (first|refine Zb rfl rfl ?_|refine Zc rfl ?_)
 refine a0g rfl (fun h=>?_) (fun h=>?_)
 ·repeat' (first|refine Zb rfl rfl ?_|refine Zc rfl ?_)
  exact a0c ⟨_,rfl,congrArg (AV.int .i64) (if_pos h).symm,rfl⟩
 ·repeat' (first|refine Zb rfl rfl ?_|refine Zc rfl ?_)
  exact a0c ⟨_,rfl,congrArg (AV.int .i64) (if_neg h).symm,rfl⟩
theorem b5A(X:Nat->Prop)(ver:Int)(r:Rec):a0b (E0 X) 183 [.int .i64 ver,a5X r] [] (fun q H'=>q=.int .i64 (a4i ver r)/\H'=[]):=by
 refine a0b.cut0 ?_ trivial
 have hla:Pur (E0 X) 216 [.int .i64 ver] (.int .i64 (c1T ver)):=⟨⟨trivial,trivial⟩,fun Y=>b9k Y ver⟩
 obtain ⟨kind,key,val,exp⟩:=r
 unfold a4i
 refine Z0 Proofs.Tryz.func183 rfl Proofs.Tryz.ntmps183 (by kernel_rfl) rfl ?_
 repeat' (first|refine Zb rfl rfl ?_|refine Zs rfl ?_|refine Zc rfl ?_)
 refine a0I rfl (fun h1=>?_) (fun h1=>?_)
 ·repeat' (first|refine Zb rfl rfl ?_|refine Zc rfl ?_)
  exact a0c ⟨_,rfl,congrArg (AV.int .i64) (by grind)⟩
 repeat' (first|refine Zb rfl rfl ?_|refine Zc rfl ?_)
 refine a0I rfl (fun h2=>?_) (fun h2=>?_)
 ·rw [h2]
  repeat' (first|refine Zb rfl rfl ?_|refine Zc rfl ?_)
  exact a0c ⟨_,rfl,congrArg (AV.int .i64) (by grind)⟩
 rw [h2]
 repeat' (first|refine Zb rfl rfl ?_|refine Zc rfl ?_)
 refine a0I rfl (fun h3=>?_) (fun h3=>?_)
 ·rw [h3]
  repeat' (first|refine Zb rfl rfl ?_|refine Zc rfl ?_)
  exact a0c ⟨_,rfl,congrArg (AV.int .i64) (by grind)⟩
 rw [h3]
 repeat' (refine Zb rfl rfl ?_)
 refine a0I rfl (fun h4=>?_) (fun h4=>?_)
 ·repeat' (first|refine Zb rfl rfl ?_|refine Zc rfl ?_)
  exact a0c ⟨_,rfl,congrArg (AV.int .i64) (by grind)⟩
 repeat' (first|refine Zb rfl rfl ?_|refine Zc rfl ?_)
 refine a0I rfl (fun h5=>?_) (fun h5=>?_)
 ·repeat' (first|refine Zb rfl rfl ?_|refine Zc rfl ?_)
  exact a0c ⟨_,rfl,congrArg (AV.int .i64) (by grind)⟩
 repeat' (first|refine Zb rfl rfl ?_|refine Zc rfl ?_)
 refine a0I rfl (fun h6=>?_) (fun h6=>?_)
 ·repeat' (first|refine Zb rfl rfl ?_|refine Zc rfl ?_)
  exact a0c ⟨_,rfl,congrArg (AV.int .i64) (by grind)⟩
 repeat' (refine Zc rfl ?_)
 refine a0p [] [] (by exact rfl) (by kernel_rfl) ?_
 repeat' (refine Zd rfl ?_)
 by_cases h7:exp<0
 ·rw [decide_eq_true h7]
  repeat' (first|refine Zb rfl rfl ?_|refine Zc rfl ?_|refine Zd rfl ?_)
  exact a0c ⟨_,rfl,congrArg (AV.int .i64) (by grind)⟩
 rw [decide_eq_false h7]
 repeat' (refine Zd rfl ?_)
 refine Zq rfl rfl rfl rfl (hla) rfl ?_
 repeat' (first|refine Zd rfl ?_|refine Zk ?_)
 refine a0I rfl (fun h8=>?_) (fun h8=>?_)
 ·repeat' (first|refine Zb rfl rfl ?_|refine Zc rfl ?_)
  exact a0c ⟨_,rfl,congrArg (AV.int .i64) (by grind)⟩
 repeat' (first|refine Zb rfl rfl ?_|refine Zc rfl ?_)
 exact a0c ⟨_,rfl,congrArg (AV.int .i64) (by grind)⟩
def a1M(r:Rec):Nat:=16+r.key.length+r.val.length
def Rec.short(r:Rec):Rec:={ r with key:=r.key.take 260,val:=r.val.take 200 }
theorem a7W(X:Nat->Prop)(r:Rec)(hk:r.key.length<=1073741824)(hv:r.val.length<=1073741824):a0b (E0 X) 75 [a5X r] [] (fun q H'=>q=.int .i64 (a1M r:Int)/\H'=[]):=by
 refine a0b.cut0 ?_ trivial
 have e1:IntKind.i64.wrap (16+((r.key.map u8A).length:Int))=((16+r.key.length:Nat):Int):=a0x (by rw [List.length_map];omega) (by omega) (by omega)
 have e2:IntKind.i64.wrap (((16+r.key.length:Nat):Int)+((r.val.map u8A).length:Int))=(a1M r:Int):=a0x (by rw [List.length_map];unfold a1M;omega) (by unfold a1M;omega) (by unfold a1M;omega)
 refine Z0 Proofs.Tryz.func75 rfl Proofs.Tryz.ntmps75 (by kernel_rfl) rfl ?_
 repeat' (first|refine Zs rfl ?_|refine Zc rfl ?_|refine Zh ?_|refine Qs ?_)
 rw [e1,e2]
 exact a0c ⟨_,rfl,rfl⟩
theorem a7f(X:Nat->Prop)(ver:Int)(r:Rec):a0b (E0 X) 76 [.int .i64 ver,a5X r] [] (fun q H'=>q=.int .i64 (a4i ver r)/\H'=[]):=by
 refine a0b.cut0 ?_ trivial
 obtain ⟨kind,key,val,exp⟩:=r
 unfold a4i c1T
 refine Z0 Proofs.Tryz.func76 rfl Proofs.Tryz.ntmps76 (by kernel_rfl) rfl ?_
 repeat' (first|refine Zb rfl rfl ?_|refine Zs rfl ?_|refine Zc rfl ?_)
 refine a2T (s1:=⟨[(0,.int .i64 ver),(3,.ptr 0 0),(5,.int .i64 (if ver=2 then 1099511627775 else 4294967295))],[some (.cells (c3v ⟨kind,key,val,exp⟩) 72)]⟩) ?_ ?_
 ·by_cases h:ver=2
  ·rw [decide_eq_true h,if_pos h]
   repeat' (first|refine Zs rfl ?_|refine Zc rfl ?_)
   exact ⟨rfl,kk 1 (fun j o ho=>by match j,ho with|0,ho=>cases ho;exact (a2x:a0d 1 (a5X ⟨kind,key,val,exp⟩))) rfl ⟨trivial,Nat.zero_lt_one,trivial,trivial⟩⟩
  rw [decide_eq_false h,if_neg h]
  repeat' (refine Zc rfl ?_)
  exact ⟨rfl,kk 1 (fun j o ho=>by match j,ho with|0,ho=>cases ho;exact (a2x:a0d 1 (a5X ⟨kind,key,val,exp⟩))) rfl ⟨trivial,Nat.zero_lt_one,trivial,trivial⟩⟩
 repeat' (first|refine Zb rfl rfl ?_|refine Zc rfl ?_)
 refine a0I rfl (fun h1=>?_) (fun h1=>?_)
 ·repeat' (first|refine Zb rfl rfl ?_|refine Zc rfl ?_)
  exact a0c ⟨_,rfl,congrArg (AV.int .i64) (by grind)⟩
 repeat' (first|refine Zb rfl rfl ?_|refine Zc rfl ?_)
 refine a0I rfl (fun h2=>?_) (fun h2=>?_)
 all_goals simp at h1 h2
 ·repeat' (first|refine Zb rfl rfl ?_|refine Zc rfl ?_)
  exact a0c ⟨_,rfl,congrArg (AV.int .i64) (by grind)⟩
 repeat' (first|refine Zb rfl rfl ?_|refine Zc rfl ?_)
 refine a0I rfl (fun h4=>?_) (fun h4=>?_)
 ·repeat' (first|refine Zb rfl rfl ?_|refine Zc rfl ?_)
  exact a0c ⟨_,rfl,congrArg (AV.int .i64) (by grind)⟩
 repeat' (first|refine Zb rfl rfl ?_|refine Zc rfl ?_)
 refine a0I rfl (fun h5=>?_) (fun h5=>?_)
 ·repeat' (first|refine Zb rfl rfl ?_|refine Zc rfl ?_)
  exact a0c ⟨_,rfl,congrArg (AV.int .i64) (by grind)⟩
 repeat' (first|refine Zb rfl rfl ?_|refine Zc rfl ?_)
 refine a0I rfl (fun h6=>?_) (fun h6=>?_)
 ·repeat' (first|refine Zb rfl rfl ?_|refine Zc rfl ?_)
  exact a0c ⟨_,rfl,congrArg (AV.int .i64) (by grind)⟩
 repeat' (first|refine Zb rfl rfl ?_|refine Zc rfl ?_)
 exact a0c ⟨_,rfl,congrArg (AV.int .i64) (by grind)⟩
end Go.Abs
