/- crc: the walk. Joined texts, each with what its own name promises; no condition beyond those stated. -/
import Derived.Test.YtkmmdlicifiknaaGreatDoorWC
set_option maxHeartbeats 0
set_option maxRecDepth 100000
set_option linter.unusedVariables false
set_option linter.unusedSimpArgs false
namespace Go.Abs
def b1M(i:Nat):Nat:=(a4k[i]?).getD 0
def a4t(c x:Nat):Nat:=((((c ^^^ x) >>> 4) ^^^ b1M ((c ^^^ x) &&& 15)) >>> 4) ^^^ b1M ((((c ^^^ x) >>> 4) ^^^ b1M ((c ^^^ x) &&& 15)) &&& 15)
def b2d:Nat:=4294967295
def a5J(c:Nat)(l:List UInt8):Nat:=(l.foldl (fun c x=>a4t c x.toNat) (c ^^^ b2d)) ^^^ b2d
theorem wrap32{n:Nat}(h:n<4294967296):IntKind.u32.wrap (n:Int)=n:=by
 simp [IntKind.wrap,IntKind.signed,IntKind.bits]
 omega
theorem b5B{a b:Nat}(ha:a<4294967296)(hb:b<4294967296):a2g .xor .u32 (a:Int) (b:Int)=((a ^^^ b:Nat):Int):=by
 have h1:a2g .xor .u32 (a:Int) (b:Int)=IntKind.u32.wrap (((BitVec.ofInt 32 (a:Int) ^^^ BitVec.ofInt 32 (b:Int)).toNat:Nat):Int):=rfl
 rw [h1,BitVec.toNat_xor]
 have h2:∀n:Nat,n<4294967296->(BitVec.ofInt 32 (n:Int)).toNat=n:=fun n h=>by
  rw [BitVec.ofInt_natCast,BitVec.toNat_ofNat];exact Nat.mod_eq_of_lt h
 rw [h2 a ha,h2 b hb,wrap32 (Nat.xor_lt_two_pow (n:=32) ha hb)]
theorem c5V{a b:Nat}(ha:a<4294967296)(hb:b<4294967296):a2g .and .u32 (a:Int) (b:Int)=((a &&& b:Nat):Int):=by
 have h1:a2g .and .u32 (a:Int) (b:Int)=IntKind.u32.wrap (((BitVec.ofInt 32 (a:Int) &&& BitVec.ofInt 32 (b:Int)).toNat:Nat):Int):=rfl
 rw [h1,BitVec.toNat_and]
 have h2:∀n:Nat,n<4294967296->(BitVec.ofInt 32 (n:Int)).toNat=n:=fun n h=>by
  rw [BitVec.ofInt_natCast,BitVec.toNat_ofNat];exact Nat.mod_eq_of_lt h
 rw [h2 a ha,h2 b hb,wrap32 (Nat.lt_of_le_of_lt Nat.and_le_left ha)]
theorem a7U(i:Nat):b1M i<4294967296:=by
 unfold b1M
 rcases h:a4k[i]? with _|y
 ·decide
 ·have h1:∀y∈a4k,y<4294967296:=by decide
  exact h1 y (List.mem_of_getElem? h)
theorem b0B{c x:Nat}(hc:c<4294967296)(hx:x<4294967296):a4t c x<4294967296:=by
 have h1:c ^^^ x<2 ^ 32:=Nat.xor_lt_two_pow hc hx
 have h2:(c ^^^ x) >>> 4<2 ^ 32:=Nat.lt_of_le_of_lt (Nat.shiftRight_le _ _) h1
 have h3:=Nat.xor_lt_two_pow h2 (a7U ((c ^^^ x) &&& 15))
 have h4:=Nat.lt_of_le_of_lt (Nat.shiftRight_le _ 4) h3
 exact Nat.xor_lt_two_pow h4 (a7U _)
theorem a6L{c:Nat}(hc:c<4294967296)(l:List UInt8):a5J c l<4294967296:=by
 have h0:c ^^^ b2d<2 ^ 32:=Nat.xor_lt_two_pow hc (by decide)
 have:∀(l:List UInt8) (c:Nat),c<4294967296->l.foldl (fun c x=>a4t c x.toNat) c<4294967296:=by
  intro l
  induction l with
  | nil=>intro c h;exact h
  | cons x l ih=>intro c h;exact ih _ (b0B h (by have:=x.toNat_lt;omega))
 exact Nat.xor_lt_two_pow (n:=32) (this l _ h0) (by decide)
theorem c9f(c:Nat):(c:Int).fdiv (2 ^ (min (4:Int).toNat IntKind.u32.bits))=((c >>> 4:Nat):Int):=by
 have h:(2:Int) ^ (min (4:Int).toNat IntKind.u32.bits)=((2 ^ 4:Nat):Int):=by decide
 rw [h,Int.fdiv_eq_ediv_of_nonneg _ (by omega),Nat.shiftRight_eq_div_pow]
 exact (Int.natCast_ediv c (2 ^ 4)).symm
theorem b6n{i:Nat}(h:i<16):(a4k.map b1I)[i]?=some (b1I (b1M i)):=by
 have h1:a4k.length=16:=rfl
 rw [List.getElem?_map,b1M,List.getElem?_eq_getElem (by omega)]
 rfl
theorem c2i{a:Nat}(ha:a<4294967296):a2g .and .u32 (a:Int) 15=((a &&& 15:Nat):Int):=c5V ha (by decide)
theorem a0T:HOk 0 []:=fun _ _ h=>by simp at h
theorem b5S(c:Nat):c &&& 15<16:=by have:c &&& 15<=15:=Nat.and_le_right;omega
attribute [local irreducible] a0B a1G AWp Nx awM
theorem b6m(X:Nat->Prop)(c:Nat)(hc:c<4294967296)(x:UInt8) :
  a0b (E0 X) 231 [b1I c,u8A x] [] (fun r H'=>r=b1I (a4t c x.toNat)/\H'=[]):=by
 have hx:x.toNat<4294967296:=by have:=x.toNat_lt;omega
 have h1:c ^^^ x.toNat<4294967296:=Nat.xor_lt_two_pow (n:=32) hc hx
 have h2:(c ^^^ x.toNat) >>> 4<4294967296:=Nat.lt_of_le_of_lt (Nat.shiftRight_le _ _) h1
 have h3:((c ^^^ x.toNat) >>> 4) ^^^ b1M ((c ^^^ x.toNat) &&& 15)<4294967296:=Nat.xor_lt_two_pow (n:=32) h2 (a7U _)
 refine Z0 Proofs.Tryz.func231 rfl Proofs.Tryz.ntmps231 (by kernel_rfl) rfl ?_
 repeat' (first|refine Zs rfl ?_|refine Zc rfl ?_|refine Qa rfl ?_)
 rw [wrap32 hx,b5B hc hx]
 refine a4K rfl rfl (by decide) ?_
 refine nx rfl rfl ?_
 rw [c9f]
 repeat' (first|refine Zs rfl ?_|refine Qa rfl ?_)
 rw [c2i h1]
 refine a8E (j:=(c ^^^ x.toNat) &&& 15) rfl (b5S _) (b6n (b5S _)) rfl rfl rfl rfl rfl rfl ?_
 refine nx rfl rfl ?_
 repeat' (first|refine Zs rfl ?_|refine Zc rfl ?_|refine Qa rfl ?_)
 rw [b5B h2 (a7U _)]
 refine a4K rfl rfl (by decide) ?_
 refine nx rfl rfl ?_
 rw [c9f]
 repeat' (first|refine Zs rfl ?_|refine Qa rfl ?_)
 rw [c2i h3]
 refine a8E (j:=(((c ^^^ x.toNat) >>> 4) ^^^ b1M ((c ^^^ x.toNat) &&& 15)) &&& 15) rfl (b5S _) (b6n (b5S _)) rfl rfl rfl rfl rfl rfl ?_
 refine nx rfl rfl ?_
 repeat' (first|refine Zs rfl ?_|refine Zh ?_|refine Qs ?_)
 refine a0c ⟨_,rfl,?_,?_⟩
 ·exact congrArg (AV.int .u32) (b5B (Nat.lt_of_le_of_lt (Nat.shiftRight_le _ 4) h3) (a7U _))
 ·rfl
theorem notM(c:Nat)(hc:c<4294967296):a2g .xor .u32 (IntKind.u32.max) (c:Int)=((c ^^^ b2d:Nat):Int):=by
 have h:(IntKind.u32.max)=((4294967295:Nat):Int):=by decide
 rw [h,b5B (by decide) hc,Nat.xor_comm];rfl
theorem b3w(X:Nat->Prop)(c:Nat)(hc:c<4294967296)(l:List UInt8)(hl:l.length<=1073741824) :
  a0b (E0 X) 202 [b1I c,.sl 1 (l.map u8A)] [] (fun r H'=>r=b1I (a5J c l)/\H'=[]):=by
 have hall:∀(k:Nat),(l.take k).foldl (fun c x=>a4t c x.toNat) (c ^^^ b2d)<4294967296:=fun k=>by
  have h0:c ^^^ b2d<2 ^ 32:=Nat.xor_lt_two_pow hc (by decide)
  have:∀(l:List UInt8) (c:Nat),c<4294967296->l.foldl (fun c x=>a4t c x.toNat) c<4294967296:=by
   intro l
   induction l with
   | nil=>intro c h;exact h
   | cons x l ih=>intro c h;exact ih _ (b0B h (by have:=x.toNat_lt;omega))
  exact this _ _ h0
 refine Z0 Proofs.Tryz.func202 rfl Proofs.Tryz.ntmps202 (by kernel_rfl) rfl ?_
 repeat' (first|refine Zs rfl ?_|refine Zc rfl ?_)
 refine a0q (fun i:Nat=>⟨[(0,b1I ((l.take i).foldl (fun c x=>a4t c x.toNat) (c ^^^ b2d))),(9,.sl 1 (l.map u8A)),(10,.int .i64 (l.length:Int)),(11,.int .i64 (i:Int))],[]⟩) (fun i=>i<=l.length) (fun i=>l.length - i) 0 (Nat.zero_le _) ?_ ?_
 ·refine a0i 0 (Nat.zero_le _) a0T rfl (by simp) ?_
  refine a0a ⟨?_,trivial⟩ ?_
  ·exact congrArg (AV.int .u32) (notM c hc)
  repeat' (first|exact a0k|refine a0a ⟨?_,?_⟩ ?_)
  all_goals (try first|exact rfl|exact trivial|(simp [a0g,a0e];done)|(simp [a0R];done))
 rintro i hi
 repeat' (first|refine Zs rfl ?_|refine Zc rfl ?_)
 refine a0d rfl (fun h3=>?_) (fun h3=>?_)
 ·have hi3:i<l.length:=by omega
  obtain ⟨q,hq⟩:∃q,l[i]?=some q:=⟨_,List.getElem?_eq_getElem hi3⟩
  have hn:(l.take (i+1)).foldl (fun c x=>a4t c x.toNat) (c ^^^ b2d)=a4t ((l.take i).foldl (fun c x=>a4t c x.toNat) (c ^^^ b2d)) q.toNat:=by
   rw [List.take_add_one,hq,List.foldl_append];rfl
  repeat' (first|refine Zc rfl ?_|refine Qa rfl ?_)
  refine a0y hq rfl rfl rfl rfl rfl rfl rfl (by first|rfl|omega) rfl ?_
  refine nx rfl rfl ?_
  repeat' (first|refine Zs rfl ?_|refine Zc rfl ?_|refine Qa rfl ?_)
  refine Cn rfl (b6m X _ (hall i) q) rfl rfl ?_
  rw [<- hn]
  repeat' (first|refine Zs rfl ?_|refine Zc rfl ?_|refine Zh ?_|refine Qs ?_)
  refine ⟨i+1,by omega,by omega,a0i 0 (Nat.zero_le _) a0T rfl (by simp) ?_⟩
  repeat' (first|exact a0k|refine a0a ⟨?_,?_⟩ ?_)
  all_goals (try first|exact rfl|exact trivial|(simp [a0g,a0e];done)|(refine congrArg (AV.int .i64) (a0u ?_ ?_ ?_)<;>(first|omega|(simp;omega))))
 have hi3:i=l.length:=by omega
 subst hi3
 have h9:=hall l.length
 rw [List.take_length] at h9 ⊢
 repeat' (first|refine Zs rfl ?_|refine Zc rfl ?_|refine Zh ?_|refine Qs ?_)
 refine a0c ⟨_,rfl,?_,?_⟩
 ·exact congrArg (AV.int .u32) (notM _ h9)
 ·rfl
theorem b3v(X:Nat->Prop)(l:List UInt8)(hl:l.length<=1073741824) :
  a0b (E0 X) 185 [.sl 1 (l.map u8A)] [] (fun r H'=>r=b1I (a5J 0 l)/\H'=[]):=by
 refine Z0 Proofs.Tryz.func185 rfl Proofs.Tryz.ntmps185 (by kernel_rfl) rfl ?_
 repeat' (first|refine Zs rfl ?_|refine Zc rfl ?_|refine Qa rfl ?_)
 refine Cn rfl (b3w X 0 (by decide) l hl) rfl rfl ?_
 repeat' (first|refine Zs rfl ?_|refine Zh ?_|refine Qs ?_)
 refine a0c ⟨_,rfl,?_,?_⟩
 ·rfl
 ·rfl
theorem a9L(l:List UInt8):HOk 1 [some (.arr (l.map u8A) 5)]:=fun j o ho=>by
 match j,ho with
 | 0,ho=>cases ho;exact a0h fun _=>a0n
theorem b5X(X:Nat->Prop)(a b:List UInt8):a0b (E0 X) 148 [.sl 1 (a.map u8A),.sl 1 (b.map u8A)] [] (fun r H'=>r=.bool (decide (a=b))/\H'=[]):=by
 refine Z0 Proofs.Tryz.func148 rfl Proofs.Tryz.ntmps148 (by kernel_rfl) rfl ?_
 repeat' (first|refine Zs rfl ?_|refine Zc rfl ?_|refine Qa rfl ?_)
 refine a5H (l:=a) rfl rfl rfl rfl rfl rfl rfl ?_
 refine nx rfl rfl ?_
 repeat' (first|refine Zs rfl ?_|refine Qa rfl ?_)
 refine a5H (l:=b) rfl rfl rfl rfl rfl rfl rfl ?_
 refine nx rfl rfl ?_
 repeat' (first|refine Zs rfl ?_|refine Zh ?_|refine Qs ?_)
 refine a0c ⟨_,rfl,?_,?_⟩
 ·rfl
 ·rfl
theorem c6k(X:Nat->Prop)(n:Nat)(h0:0<n)(hn:n<=1073741824):a0b (E0 X) 217 [.nils,.int .i64 n] [] (fun r H'=>r=.own 0 0 0/\H'=[some (.arr ((([]:List UInt8)).map u8A) 5)]):=by
 refine Z0 Proofs.Tryz.func217 rfl Proofs.Tryz.ntmps217 (by kernel_rfl) rfl ?_
 repeat' (first|refine Zs rfl ?_|refine Zc rfl ?_|refine Qa rfl ?_)
 refine a9q rfl rfl rfl ?_
 refine nx rfl rfl ?_
 repeat' (first|refine Zs rfl ?_|refine Zc rfl ?_|refine Zh ?_|refine Qs ?_)
 have hw:IntKind.i64.wrap ((n:Int) - 0)=(n:Int):=a0u (by omega) (by omega) (by omega)
 have hw2:IntKind.i64.wrap ((n:Int) - IntKind.i64.wrap (0 - ((0:Nat):Int)))=(n:Int):=by
  rw [show IntKind.i64.wrap (0 - ((0:Nat):Int))=0 from rfl];exact hw
 rw [hw2]
 refine a0d rfl (fun h8=>?_) (fun h8=>?_)
 ·repeat' (first|refine Zs rfl ?_|refine Zc rfl ?_|refine Qa rfl ?_)
  refine a9q rfl rfl rfl ?_
  refine nx rfl rfl ?_
  repeat' (refine Qa rfl ?_)
  refine b1E rfl rfl rfl rfl (a1t) (a0r rfl rfl) ?_
  refine nx rfl rfl ?_
  repeat' (first|refine Zs rfl ?_|refine Qa rfl ?_)
  refine b2U (n:=n) rfl h0 hn rfl rfl rfl rfl rfl rfl rfl rfl rfl rfl ?_
  refine nx rfl rfl ?_
  repeat' (first|refine Zs rfl ?_|refine Qa rfl ?_)
  refine a7g (l:=0) (h:=0) (lo':=0) (n':=0) (a1t) (a0r rfl rfl) (by omega) (by first|omega|(simp;omega)) (by omega) (by omega) rfl rfl rfl rfl rfl rfl rfl ?_
  refine nx rfl rfl ?_
  repeat' (first|refine Zs rfl ?_|refine Zc rfl ?_|refine Zh ?_|refine Qs ?_)
  refine a0t (b4X (id:=0) (n:=0) (es:=List.replicate n (u8A 0)) (e:=5) rfl) ?_
  refine a0c ⟨_,rfl,?_,?_⟩
  ·rfl
  ·simp
 ·omega
def c2E(kind salt sector:Int):Bool:=decide (1<=kind/\kind<=4/\0<=salt/\0<=sector/\sector<1048576)
theorem b5c(X:Nat->Prop)(kind salt sector:Int):a0b (E0 X) 201 [.int .i64 kind,.int .i64 salt,.int .i64 sector] [] (fun r H'=>r=.bool (c2E kind salt sector)/\H'=[]):=by
 refine Z0 Proofs.Tryz.func201 rfl Proofs.Tryz.ntmps201 (by kernel_rfl) rfl ?_
 repeat' (first|refine Zs rfl ?_|refine Zc rfl ?_|refine Zh ?_|refine Qs ?_|((fail_if_success refine QV rfl ?_);refine Qy rfl rfl (fun _=>?_) (fun _=>?_)))
 all_goals (refine a0c ?_;refine ⟨_,rfl,?_,rfl⟩;simp [c2E,a0R,one, *])
def a6I(l:List UInt8):AV:=.sl 1 (l.map u8A)
@[simp] theorem b2T{n:Nat}{l:List UInt8}:a0g n (a6I l):=a0h fun _=>a0n
theorem b3P{ls:List (List UInt8)}{i:Nat}{q:List UInt8}(h:ls[i]?=some q):(ls.take (i+1)).flatten.length=(ls.take i).flatten.length+q.length:=by
 rw [List.take_add_one,h];simp
theorem c2C(ls:List (List UInt8))(i:Nat):(ls.take i).flatten.length<=ls.flatten.length:=by
 have h:ls.flatten=(ls.take i).flatten++(ls.drop i).flatten:=by rw [<- List.flatten_append,List.take_append_drop]
 rw [h];simp
theorem b4M(X:Nat->Prop)(ls:List (List UInt8))(h0:0<ls.flatten.length)(hn:ls.flatten.length<=1048576)(hl:ls.length<=1048576) :
  a0b (E0 X) 186 [.sl 1 (ls.map a6I)] [] (fun r H'=>r=.own 0 0 ls.flatten.length/\H'=[some (.arr (ls.flatten.map u8A) 5)]):=by
 refine Z0 Proofs.Tryz.func186 rfl Proofs.Tryz.ntmps186 (by kernel_rfl) rfl ?_
 repeat' (first|refine Zs rfl ?_|refine Zc rfl ?_)
 refine a0q (fun i:Nat=>⟨[(0,.sl 1 (ls.map a6I)),(3,.int .i64 ((ls.take i).flatten.length:Int)),(9,.sl 1 (ls.map a6I)),(10,.int .i64 (ls.length:Int)),(11,.int .i64 (i:Int))],[]⟩) (fun i=>i<=ls.length) (fun i=>ls.length - i) 0 (Nat.zero_le _) ?_ ?_
 ·refine a0i 0 (Nat.zero_le _) a0T rfl (by simp [b2T]) ?_
  repeat' (first|exact a0k|refine a0a ⟨?_,?_⟩ ?_)
  all_goals (try first|exact rfl|exact trivial|(simp [a0g,a0e];done)|(simp [a0R];done))
 rintro i hi
 repeat' (first|refine Zs rfl ?_|refine Zc rfl ?_)
 refine a0d rfl (fun h3=>?_) (fun h3=>?_)
 ·have hi3:i<ls.length:=by omega
  obtain ⟨q,hq⟩:∃q,ls[i]?=some q:=⟨_,List.getElem?_eq_getElem hi3⟩
  have hs:=b3P hq
  have hle:=c2C ls (i+1)
  have hw:IntKind.i64.wrap (((ls.take i).flatten.length:Int)+((q.map u8A).length:Int))=((ls.take (i+1)).flatten.length:Int):=a0u (by rw [hs];simp) (by omega) (by omega)
  repeat' (first|refine Zc rfl ?_|refine Qa rfl ?_)
  refine a0y hq rfl rfl rfl rfl rfl rfl rfl (by first|rfl|omega) rfl ?_
  refine nx rfl rfl ?_
  repeat' (first|refine Zs rfl ?_|refine Zc rfl ?_|refine Zh ?_|refine Qs ?_)
  rw [hw]
  refine a0H rfl (fun h9=>?_) (fun _=>?_)
  ·simp at h9;omega
  repeat' (first|refine Zs rfl ?_|refine Zc rfl ?_|refine Zh ?_|refine Qs ?_)
  refine ⟨i+1,by omega,by omega,a0i 0 (Nat.zero_le _) a0T rfl (by simp) ?_⟩
  repeat' (first|exact a0k|refine a0a ⟨?_,?_⟩ ?_)
  all_goals (try first|exact rfl|exact trivial|(simp [a0g,a0e];done)|(refine congrArg (AV.int .i64) (a0u ?_ ?_ ?_)<;>(first|omega|(simp;omega))))
 have hi3:i=ls.length:=by omega
 subst hi3
 rw [List.take_length]
 repeat' (first|refine Zs rfl ?_|refine Zc rfl ?_|refine Qa rfl ?_)
 refine Cn rfl (c6k X _ h0 (by omega)) rfl rfl ?_
 repeat' (first|refine Zs rfl ?_|refine Zc rfl ?_)
 refine a0q (fun i:Nat=>⟨[(6,.own 0 0 (ls.take i).flatten.length),(25,.sl 1 (ls.map a6I)),(26,.int .i64 (ls.length:Int)),(27,.int .i64 (i:Int))],[some (.arr ((ls.take i).flatten.map u8A) 5)]⟩) (fun i=>i<=ls.length) (fun i=>ls.length - i) 0 (Nat.zero_le _) ?_ ?_
 ·refine a0i 1 (Nat.zero_le _) (a9L _) rfl (by simp) ?_
  repeat' (first|exact a0k|refine a0a ⟨?_,?_⟩ ?_)
  all_goals (try first|exact rfl|exact trivial|(simp [a0g,a0e];done)|(simp [a0R];done))
 rintro i hi
 repeat' (first|refine Zs rfl ?_|refine Zc rfl ?_)
 refine a0d rfl (fun h4=>?_) (fun h4=>?_)
 ·have hi4:i<ls.length:=by omega
  obtain ⟨q,hq⟩:∃q,ls[i]?=some q:=⟨_,List.getElem?_eq_getElem hi4⟩
  have hs:=b3P hq
  have hle:=c2C ls (i+1)
  repeat' (first|refine Zc rfl ?_|refine Qa rfl ?_)
  refine a0y hq rfl rfl rfl rfl rfl rfl rfl (by first|rfl|omega) rfl ?_
  refine nx rfl rfl ?_
  repeat' (first|refine Zs rfl ?_|refine Zc rfl ?_|refine Qa rfl ?_)
  refine a0V (oid:=some 0) (es:=(ls.take i).flatten.map u8A) (out:=(ls.take (i+1)).flatten.map u8A) (n:=(ls.take (i+1)).flatten.length) (a0J rfl (List.length_map _).symm) (rfl) (a0P _) (by rw [List.take_add_one,hq];simp) (by rw [hs,List.length_map,List.length_map]) (by show _<=9223372036854775807;omega) (by show _*1<=_;omega) rfl rfl rfl rfl rfl rfl rfl rfl ?_
  refine nx rfl rfl ?_
  repeat' (first|refine Zs rfl ?_|refine Zc rfl ?_|refine Zh ?_|refine Qs ?_)
  refine ⟨i+1,by omega,by omega,?_⟩
  refine a0L 0 [1] (H':=[some (.arr ((ls.take (i+1)).flatten.map u8A) 5)]) (os:=[.arr ((ls.take (i+1)).flatten.map u8A) 5]) (Nat.le_refl _) (Nat.zero_le _) (by simp) (by simp) (by simp [HOk]) rfl rfl ?_ ?_
  ·refine a0a (a0D rfl) (a0a (a0s rfl (a0h fun _=>b2T)) (a0a (a0s rfl trivial) (a0a (a0s ?_ trivial) a0k)))
   exact congrArg (AV.int .i64) (a0u (by omega) (by omega) (by omega))
  ·exact a0v rfl (a0A 0 (fun i h=>absurd h (Nat.not_lt_zero i)) (a0h fun _=>a0n)) a0N
 have hi4:i=ls.length:=by omega
 subst hi4
 rw [List.take_length]
 repeat' (first|refine Zs rfl ?_|refine Zc rfl ?_|refine Zh ?_|refine Qs ?_)
 refine a0c ⟨_,rfl,?_,?_⟩
 ·rfl
 ·rfl
theorem a9D(X:Nat->Prop)(ls:List (List UInt8))(h0:0<ls.flatten.length)(hn:ls.flatten.length<=1048576)(hl:ls.length<=1048576) :
  a0b (E0 X) 186 [.sl 1 (ls.map a6I)] [] (fun r H'=>r=.sl 1 (ls.flatten.map u8A)/\H'=[]) :=
 a0b.froz 1 (b4M X ls h0 hn hl) (List.length_map _).symm rfl rfl a0T (a0h fun _=>a0n)
def a0j(n s:Nat):UInt8:=UInt8.ofNat (n / 2 ^ s%256)
def b0f(n w i:Nat):List UInt8:=(List.range i).map fun j=>a0j n (8*(w - 1 - j))
def a1b(b:List UInt8)(n w:Nat):List UInt8:=b++b0f n w w
theorem a6d(n w i:Nat):(b0f n w i).length=i:=by simp [b0f]
theorem b1h(n w i:Nat):b0f n w (i+1)=b0f n w i++[a0j n (8*(w - 1 - i))]:=by simp [b0f,List.range_succ]
theorem a0E(b:List UInt8)(n w:Nat):(a1b b n w).length=b.length+w:=by simp [a1b,a6d]
theorem b0J(n s:Nat)(hs:s<=64):AV.int .u8 (IntKind.u8.wrap ((n:Int).fdiv (2 ^ (min ((s:Nat):Int).toNat IntKind.u64.bits))))=u8A (a0j n s):=by
 have h:(2:Int) ^ (min ((s:Nat):Int).toNat IntKind.u64.bits)=((2 ^ s:Nat):Int):=by
  have:min ((s:Nat):Int).toNat IntKind.u64.bits=s:=by simp [IntKind.bits];omega
  rw [this];simp
 have h2:(n:Int).fdiv ((2 ^ s:Nat):Int)=((n / 2 ^ s:Nat):Int):=by
  rw [Int.fdiv_eq_ediv_of_nonneg _ (Int.natCast_nonneg _)];exact (Int.natCast_ediv n (2 ^ s)).symm
 have h3:IntKind.u8.wrap ((n / 2 ^ s:Nat):Int)=((n / 2 ^ s%256:Nat):Int):=by
  simp [IntKind.wrap,IntKind.signed,IntKind.bits]
 rw [h,h2,h3]
 simp only [u8A,a0j]
 congr 1
 rw [UInt8.toNat_ofNat']
 omega
theorem b7W(X:Nat->Prop)(b:List UInt8)(n w:Nat)(hw:1<=w)(hw8:w<=8)(hb:b.length<=1048576) :
  a0b (E0 X) 180 [.sl 1 (b.map u8A),.int .u64 (n:Int),.int .i64 (w:Int)] [] (fun r H'=>r=.own 0 0 (b.length+w)/\H'=[some (.arr ((a1b b n w).map u8A) 5)]):=by
 refine Z0 Proofs.Tryz.func180 rfl Proofs.Tryz.ntmps180 (by kernel_rfl) rfl ?_
 repeat' (first|refine Zs rfl ?_|refine Zc rfl ?_|refine Qa rfl ?_)
 refine Cn rfl (a4T X b (by omega)) rfl rfl ?_
 repeat' (first|refine Zs rfl ?_|refine Zc rfl ?_|refine Zh ?_|refine Qs ?_|((fail_if_success refine QV rfl ?_);refine Qy rfl rfl (fun _=>?_) (fun _=>?_)))
 ·omega
 rename_i h1
 refine a0d rfl (fun h2=>?_) (fun h2=>?_)
 ·omega
 have e1:IntKind.i64.wrap (8*IntKind.i64.wrap ((w:Int) - 1))=8*((w:Int) - 1 - 0):=by
  have h3:IntKind.i64.wrap ((w:Int) - 1)=(w:Int) - 1:=a0p (by omega) (by omega)
  rw [h3,a0p (by omega) (by omega)];omega
 repeat' (first|refine Zs rfl ?_|refine Zc rfl ?_)
 rw [e1]
 refine a0q (fun i:Nat=>⟨[(1,.int .u64 (n:Int)),(7,.own 0 0 (b.length+i)),(8,.int .i64 (8*((w:Int) - 1 - (i:Int))))],[some (.arr ((b++b0f n w i).map u8A) 5)]⟩) (fun i=>i<=w) (fun i=>w - i) 0 (Nat.zero_le _) ?_ ?_
 ·refine a0i 1 (Nat.zero_le _) (a9L _) (by simp [b0f]) (by simp) ?_
  repeat' (first|exact a0k|refine a0a ⟨?_,?_⟩ ?_)
  all_goals (try first|exact rfl|exact trivial|(simp [a0g,a0e];done))
 rintro i hi
 repeat' (first|refine Zs rfl ?_|refine Zc rfl ?_|refine Zh ?_|refine Qs ?_)
 refine a0d rfl (fun h3=>?_) (fun h3=>?_)
 ·have hi3:i<w:=by omega
  have hsh:8*((w:Int) - 1 - (i:Int))=((8*(w - 1 - i):Nat):Int):=by omega
  rw [hsh]
  repeat' (first|refine Zs rfl ?_|refine Zc rfl ?_|refine Qa rfl ?_)
  refine a4K rfl rfl (by omega) ?_
  refine nx rfl rfl ?_
  repeat' (first|refine Zs rfl ?_|refine Qa rfl ?_)
  rw [b0J n _ (by omega)]
  refine a0V (oid:=some 0) (es:=(b++b0f n w i).map u8A) (out:=(b++b0f n w (i+1)).map u8A) (n:=b.length+(i+1)) (a0J rfl (by simp [a6d])) (rfl) (a0P [a0j n (8*(w - 1 - i))]) (by rw [b1h];simp) (by simp [a6d];omega) (by show _<=9223372036854775807;omega) (by show _*1<=_;omega) rfl rfl rfl rfl rfl rfl rfl rfl ?_
  refine nx rfl rfl ?_
  repeat' (first|refine Zs rfl ?_|refine Zc rfl ?_|refine Zh ?_|refine Qs ?_)
  refine ⟨i+1,by omega,by omega,?_⟩
  refine a0L 0 [1] (H':=[some (.arr ((b++b0f n w (i+1)).map u8A) 5)]) (os:=[.arr ((b++b0f n w (i+1)).map u8A) 5]) (Nat.le_refl _) (Nat.zero_le _) (by simp) (by simp) (by simp [HOk]) rfl rfl ?_ ?_
  ·refine a0a (a0s rfl trivial) (a0a (a0D rfl) (a0a (a0s ?_ trivial) a0k))
   exact congrArg (AV.int .i64) (a0u (by omega) (by omega) (by omega))
  ·exact a0v rfl (a0A 0 (fun i h=>absurd h (Nat.not_lt_zero i)) (a0h fun _=>a0n)) a0N
 have hi3:i=w:=by omega
 subst hi3
 repeat' (first|refine Zs rfl ?_|refine Zc rfl ?_|refine Zh ?_|refine Qs ?_)
 refine a0c ⟨_,rfl,?_,?_⟩
 ·rfl
 ·rfl
theorem c1a(X:Nat->Prop)(b:List UInt8)(n w:Nat)(hw:1<=w)(hw8:w<=8)(hb:b.length<=1048576) :
  a0b (E0 X) 180 [.sl 1 (b.map u8A),.int .u64 (n:Int),.int .i64 (w:Int)] [] (fun r H'=>r=.sl 1 ((a1b b n w).map u8A)/\H'=[]) :=
 a0b.froz 1 (b7W X b n w hw hw8 hb) (by rw [List.length_map,a0E]) rfl rfl a0T (a0h fun _=>a0n)
theorem a2Y{E:Env}{m:Mu}{w:World}{v:Value}(k:Nat)(h:E.Rel m w .nils v):E.Rel m w (.sl k []) v:=by
 simp only [Env.Rel,Abs.Rel] at h ⊢
 subst h
 exact ⟨none,0,[],rfl,Nat.le_refl _,Nat.zero_le _,by simp [Abs.RelL],by simp,by simp [Fz,flat]⟩
theorem a0b.weak{E:Env}{f:FuncId}{args args':List AV}{H:Hp}{R:AV->Hp->Prop}(h:a0b E f args' H R)(hw:∀m w vs,E.RelL m w args vs->E.RelL m w args' vs):a0b E f args H R :=
 ⟨h.1,fun m w vs h1 h2 h3 h4=>h.2 m w vs h1 h2 (hw m w vs h3) h4⟩
theorem c1b(X:Nat->Prop)(n w:Nat)(hw:1<=w)(hw8:w<=8) :
  a0b (E0 X) 180 [.nils,.int .u64 (n:Int),.int .i64 (w:Int)] [] (fun r H'=>r=.sl 1 ((a1b [] n w).map u8A)/\H'=[]) :=
 a0b.weak (c1a X [] n w hw hw8 (by simp)) fun m w vs h=>by
  obtain ⟨u1,r1,rfl,h1,h⟩:=a0l.1 h
  exact RelL.cons (a2Y 1 h1) h
theorem a1s(k:Nat):AV.int .u8 (IntKind.u8.wrap (k:Int))=u8A (UInt8.ofNat (k%256)):=by
 have h3:IntKind.u8.wrap (k:Int)=((k%256:Nat):Int):=by
  simp [IntKind.wrap,IntKind.signed,IntKind.bits]
 rw [h3]
 simp only [u8A]
 congr 1
 rw [UInt8.toNat_ofNat']
 omega
theorem wrap64{n:Nat}(h:n<18446744073709551616):IntKind.u64.wrap (n:Int)=n:=by
 simp [IntKind.wrap,IntKind.signed,IntKind.bits]
 omega
def frB(kind:Nat)(p:List UInt8):List UInt8:=UInt8.ofNat (kind%256)::(p++List.replicate (59 - p.length) 0)
def c6i(salt sector:Nat)(b:List UInt8):Nat:=a5J (a5J 0 (a1b (a1b [] salt 8) sector 4)) b
def a3Q(kind salt sector:Nat)(p:List UInt8):List UInt8:=a1b (frB kind p) (c6i salt sector (frB kind p)) 4
theorem b2l{kind:Nat}{p:List UInt8}(hp:p.length<=59):(frB kind p).length=60:=by simp [frB];omega
theorem a2W{kind salt sector:Nat}{p:List UInt8}(hp:p.length<=59):(a3Q kind salt sector p).length=64:=by rw [a3Q,a0E,b2l hp]
theorem b0R(X:Nat->Prop)(kind salt sector:Nat)(p:List UInt8)(hm:1<=kind/\kind<=4/\sector<1048576)(hs:salt<9223372036854775808)(hp:p.length<=59) :
  a0b (E0 X) 174 [.int .i64 (kind:Int),.int .i64 (salt:Int),.int .i64 (sector:Int),.sl 1 (p.map u8A)] [] (fun r H'=>r=.tup [.sl 1 ((a3Q kind salt sector p).map u8A),.int .i64 0]/\H'=[]):=by
 have hmay:c2E (kind:Int) (salt:Int) (sector:Int)=true:=by simp [c2E];omega
 have hpos:=b5c X kind salt sector
 rw [hmay] at hpos
 have hcc:=a9D X [[UInt8.ofNat (kind%256)],p,List.replicate (59 - p.length) 0] (by simp) (by simp;omega) (by simp)
 rw [show [[UInt8.ofNat (kind%256)],p,List.replicate (59 - p.length) 0].flatten=frB kind p by simp [frB]] at hcc
 have hmk:IntKind.i64.wrap (59 - ((p.map u8A).length:Int))=((59 - p.length:Nat):Int):=by rw [List.length_map];exact a0u (by omega) (by omega) (by omega)
 have hbl:=b2l (kind:=kind) hp
 refine Z0 Proofs.Tryz.func174 rfl Proofs.Tryz.ntmps174 (by kernel_rfl) rfl ?_
 repeat' (first|refine Zs rfl ?_|refine Zc rfl ?_|refine Qa rfl ?_)
 refine Cn rfl (hpos) rfl rfl ?_
 repeat' (first|refine Zs rfl ?_|refine Zc rfl ?_|refine Zh ?_|refine Qs ?_)
 refine a0d rfl (fun h9=>?_) (fun h9=>?_)
 ·exfalso;simp at h9;omega
 repeat' (first|refine Zs rfl ?_|refine Zc rfl ?_|refine Qa rfl ?_)
 rw [a1s]
 refine c2U (n:=59 - p.length) (el:=u8A 0) rfl rfl (hmk) (hmk) ?_ ?_ rfl rfl rfl rfl rfl rfl (.inr rfl) (.inr rfl) rfl rfl ?_
 ·show 1 * _<=281474976710656
  omega
 ·show _<=9223372036854775807
  omega
 refine nx rfl rfl ?_
 rw [show List.replicate (59 - p.length) (u8A 0)=(List.replicate (59 - p.length) (0:UInt8)).map u8A by simp]
 repeat' (first|refine Zs rfl ?_|refine Qa rfl ?_)
 refine Cn rfl (hcc) rfl rfl ?_
 generalize hfb:frB kind p=b at *
 repeat' (first|refine Zs rfl ?_|refine Zc rfl ?_|refine Qa rfl ?_)
 rw [wrap64 (by omega)]
 refine Cn rfl (c1b X salt 8 (by decide) (by decide)) rfl rfl ?_
 repeat' (first|refine Zs rfl ?_|refine Qa rfl ?_)
 rw [wrap64 (by omega)]
 refine Cn rfl (c1a X (a1b [] salt 8) sector 4 (by decide) (by decide) (by rw [a0E];simp)) rfl rfl ?_
 repeat' (first|refine Zs rfl ?_|refine Zc rfl ?_|refine Qa rfl ?_)
 refine Cn rfl (b3v X (a1b (a1b [] salt 8) sector 4) (by rw [a0E,a0E];simp)) rfl rfl ?_
 repeat' (first|refine Zs rfl ?_|refine Qa rfl ?_)
 refine Cn rfl (b3w X (a5J 0 (a1b (a1b [] salt 8) sector 4)) (a6L (by decide) _) b (by omega)) rfl rfl ?_
 have hlt:a5J (a5J 0 (a1b (a1b [] salt 8) sector 4)) b<4294967296:=a6L (a6L (by decide) _) _
 repeat' (first|refine Zs rfl ?_|refine Zc rfl ?_|refine Qa rfl ?_)
 rw [wrap64 (by omega)]
 refine Cn rfl (c1a X b (a5J (a5J 0 (a1b (a1b [] salt 8) sector 4)) b) 4 (by decide) (by decide) (by omega)) rfl rfl ?_
 repeat' (first|refine Zs rfl ?_|refine Zh ?_|refine Qs ?_)
 refine a0c ⟨_,rfl,?_,?_⟩
 ·rw [a3Q,hfb];rfl
 ·rfl
def a2M(kind salt sector:Nat)(b:List UInt8):Option (List UInt8) :=
 if b.length=64/\a3Q kind salt sector ((b.drop 1).take 59)=b then some ((b.drop 1).take 59) else none
def c9c(o:Option (List UInt8)):AV:=match o with
 | some p=>.tup [.sl 1 (p.map u8A),.bool true]
 | none=>.tup [.nils,.bool false]
theorem b3B(X:Nat->Prop)(kind salt sector:Nat)(b:List UInt8)(hm:1<=kind/\kind<=4/\sector<1048576)(hs:salt<9223372036854775808)(hb:b.length<=1048576) :
  a0b (E0 X) 129 [.int .i64 (kind:Int),.int .i64 (salt:Int),.int .i64 (sector:Int),.sl 1 (b.map u8A)] [] (fun r H'=>r=c9c (a2M kind salt sector b)/\H'=[]):=by
 refine Z0 Proofs.Tryz.func129 rfl Proofs.Tryz.ntmps129 (by kernel_rfl) rfl ?_
 repeat' (first|refine Zs rfl ?_|refine Zc rfl ?_|refine Zh ?_|refine Qs ?_)
 refine a0d rfl (fun h1=>?_) (fun h1=>?_)
 ·have h2:¬ b.length=64:=by rw [List.length_map] at h1;omega
  repeat' (first|refine Zs rfl ?_|refine Zc rfl ?_|refine Zh ?_|refine Qs ?_)
  refine a0c ⟨_,rfl,?_,?_⟩
  ·simp only [a2M];rw [if_neg (fun h=>h2 h.1)];rfl
  ·rfl
 have h2:b.length=64:=by rw [List.length_map] at h1;omega
 repeat' (first|refine Zs rfl ?_|refine Zc rfl ?_|refine Qa rfl ?_)
 refine a1m (l:=1) (h:=60) (ys:=(b.drop 1).take 59) (a0r rfl rfl) (a0r rfl rfl) (by omega) (by omega) (by rw [List.drop_take]) rfl rfl rfl rfl rfl ?_
 refine nx rfl rfl ?_
 have hpl:((b.drop 1).take 59).length=59:=by simp;omega
 have hcl:a0b (E0 X) 45 [.sl 1 (((b.drop 1).take 59).map u8A)] [] (fun r H'=>r=.sl 1 (((b.drop 1).take 59).map u8A)/\H'=[]):=a0b.froz 1 (a4T X ((b.drop 1).take 59) (by omega)) (List.length_map _).symm rfl rfl a0T (a0h fun _=>a0n)
 have hd:a2M kind salt sector b=if a3Q kind salt sector ((b.drop 1).take 59)=b then some ((b.drop 1).take 59) else none:=by simp only [a2M,h2,true_and]
 rw [hd]
 generalize (b.drop 1).take 59=p at *
 repeat' (refine Qa rfl ?_)
 refine Cn rfl (hcl) rfl rfl ?_
 repeat' (first|refine Zs rfl ?_|refine Zc rfl ?_|refine Qa rfl ?_)
 refine Cn rfl (b0R X kind salt sector p hm hs (by omega)) rfl rfl ?_
 repeat' (first|refine Zs rfl ?_|refine Zc rfl ?_|refine Qa rfl ?_)
 refine Cn rfl (b5X X (a3Q kind salt sector p) b) rfl rfl ?_
 repeat' (first|refine Zs rfl ?_|refine Zh ?_|refine Qs ?_)
 refine a0H rfl (fun h9=>?_) (fun h9=>?_)
 ·have h8:¬ a3Q kind salt sector p=b:=by simpa using h9
  repeat' (first|refine Zs rfl ?_|refine Zc rfl ?_|refine Zh ?_|refine Qs ?_)
  refine a0c ⟨_,rfl,?_,?_⟩
  ·rw [if_neg h8];rfl
  ·rfl
 have h8:a3Q kind salt sector p=b:=by simpa using h9
 repeat' (first|refine Zs rfl ?_|refine Zc rfl ?_|refine Zh ?_|refine Qs ?_)
 refine a0c ⟨_,rfl,?_,?_⟩
 ·rw [if_pos h8];rfl
 ·rfl
theorem a0b.cut0{E:Env}{f:FuncId}{args:List AV}{v:AV}(h:a0b E f args [] (fun r _=>r=v))(hv:a0g 0 v):a0b E f args [] (fun r H'=>r=v/\H'=[]) :=
 h.imp fun r H' e=>⟨v,[],⟨rfl,rfl⟩,by subst e;exact kk 0 a0T rfl ⟨hv,trivial⟩⟩
structure La where
 id:Int
 ver:Int
 rs:Int
 regs:Int
def laL(l:La):List AV:=[.int .i64 l.id,.int .i64 l.ver,.int .i64 l.rs,.int .i64 l.regs]
def laA(l:La):AV:=.agg (laL l)
@[simp] theorem a1u{n:Nat}{l:La}:a0g n (laA l):=⟨trivial,trivial,trivial,trivial,trivial⟩
structure Pl where
 kind:Int
 mig:Int
 idx:Int
 tail:Int
 t:La
def plA(p:Pl):AV:=.agg [.int .i64 p.kind,.int .i64 p.mig,.int .i64 p.idx,.int .i64 p.tail,.int .i64 p.t.id,.int .i64 p.t.ver,.int .i64 p.t.rs,.int .i64 p.t.regs]
@[simp] theorem a3o{n:Nat}{p:Pl}:a0g n (plA p):=⟨trivial,trivial,trivial,trivial,trivial,trivial,trivial,trivial,trivial⟩
def a1f(l:La):Bool:=decide (1<=l.id)&&(decide (l.id<=4294967295)&&((decide (l.ver=1) || decide (l.ver=2))&&(decide (2<=l.rs)&&(decide (l.rs<=2048)&&(decide (a2g .and .i64 l.rs (IntKind.i64.wrap (l.rs - 1))=0)&&(decide (4<=l.regs)&&decide (l.regs<=16)))))))
def a1Z(p:Pl):Bool:=!decide (p.mig<1)&&(!decide (4294967295<p.mig)&&(!decide (p.tail<0)&&(!decide (281474976710655<p.tail)&&(a1f p.t&&((decide (p.kind=1)&&decide (p.idx=0)) || (decide (p.kind=2)&&(decide (1<=p.idx)&&decide (p.idx<36))))))))
theorem a6R(X:Nat->Prop)(l:La):a0b (E0 X) 109 [laA l] [] (fun r H'=>r=.bool (a1f l)/\H'=[]):=by
 refine a0b.cut0 ?_ trivial
 refine Z0 Proofs.Tryz.func109 rfl Proofs.Tryz.ntmps109 (by kernel_rfl) rfl ?_
 repeat' (first|refine Zs rfl ?_|refine Zc rfl ?_|refine Zh ?_|refine Qs ?_|((fail_if_success refine QV rfl ?_);refine Qy rfl rfl (fun _=>?_) (fun _=>?_)))
 all_goals (refine a0c ?_;refine ⟨_,rfl,?_⟩;simp [a1f,a0R,one, *])
theorem b3h(X:Nat->Prop)(p:Pl):a0b (E0 X) 188 [plA p] [] (fun r H'=>r=.bool (a1Z p)/\H'=[]):=by
 refine a0b.cut0 ?_ trivial
 refine Z0 Proofs.Tryz.func188 rfl Proofs.Tryz.ntmps188 (by kernel_rfl) rfl ?_
 repeat' (first|refine Zs rfl ?_|refine Zc rfl ?_|refine Zh ?_|refine Qa rfl ?_|refine Qs ?_|((fail_if_success refine QV rfl ?_);refine Qy rfl rfl (fun _=>?_) (fun _=>?_)))
 any_goals (refine a0c ?_;refine ⟨_,rfl,?_⟩;simp [a1Z,a0R,one, *];done)
 refine Cn rfl (a0f (E:=E0 X) (fun X=>a6R X p.t) (by simp [a0e,a0g]) _) rfl rfl ?_
 cases hf:a1f p.t with
 | false =>
  repeat' (first|refine Zs rfl ?_|refine Zc rfl ?_|refine Zh ?_|refine Qs ?_)
  refine a0c ⟨_,rfl,?_⟩
  simp [a1Z,a0R,one, *]
 | true =>
  repeat' (first|refine Zs rfl ?_|refine Zc rfl ?_|refine Zh ?_|refine Qs ?_|((fail_if_success refine QV rfl ?_);refine Qy rfl rfl (fun _=>?_) (fun _=>?_)))
  all_goals (refine a0c ?_;refine ⟨_,rfl,?_⟩;first|(simp [a1Z,a0R,one, *];done)|(exfalso;omega))
def a7q(mig idx:Int):Int:=if mig<1\/idx<0\/36<=idx then -1 else 2+(mig+1)%2*36+idx
theorem c1A{mig idx:Int}(h1:1<=mig)(h2:mig<=9223372036854775807)(h3:0<=idx)(h4:idx<36) :
  IntKind.i64.wrap (IntKind.i64.wrap (2+IntKind.i64.wrap ((IntKind.i64.wrap (mig+1)).tmod 2*36))+idx)=2+(mig+1)%2*36+idx:=by
 have h5:(IntKind.i64.wrap (mig+1)).tmod 2=(mig+1)%2:=by
  rcases Int.lt_or_eq_of_le h2 with h6|h6
  ·rw [a0p (by omega) (by omega),Int.tmod_eq_emod_of_nonneg (by omega)]
  ·subst h6;rfl
 have h7:0<=(mig+1)%2/\(mig+1)%2<2:=by omega
 rw [h5]
 generalize (mig+1)%2=z at *
 have h8:IntKind.i64.wrap (z*36)=z*36:=a0p (by omega) (by omega)
 rw [h8]
 have h9:IntKind.i64.wrap (2+z*36)=2+z*36:=a0p (by omega) (by omega)
 rw [h9]
 exact a0p (by omega) (by omega)
theorem c1B(X:Nat->Prop)(mig idx:Int)(hm:mig<=9223372036854775807):a0b (E0 X) 110 [.int .i64 mig,.int .i64 idx] [] (fun r H'=>r=.int .i64 (a7q mig idx)/\H'=[]):=by
 refine Z0 Proofs.Tryz.func110 rfl Proofs.Tryz.ntmps110 (by kernel_rfl) rfl ?_
 repeat' (first|refine Zs rfl ?_|refine Zc rfl ?_|refine Zh ?_|refine Qs ?_|((fail_if_success refine QV rfl ?_);refine Qy rfl rfl (fun _=>?_) (fun _=>?_)))
 ·rename_i h1
  refine a0c ⟨_,rfl,?_,?_⟩
  ·simp [a7q,h1]<;>rfl
  ·rfl
 ·rename_i h1 h2
  refine a0c ⟨_,rfl,?_,?_⟩
  ·simp [a7q,h2]<;>rfl
  ·rfl
 rename_i h1 h2
 refine a0d rfl (fun h3=>?_) (fun h3=>?_)
 ·repeat' (first|refine Zs rfl ?_|refine Zc rfl ?_|refine Zh ?_|refine Qs ?_)
  refine a0c ⟨_,rfl,?_,?_⟩
  ·simp [a7q,h3]<;>rfl
  ·rfl
 skip
 repeat' (first|refine Zs rfl ?_|refine Zc rfl ?_|refine Zh ?_|refine Qs ?_)
 refine a0c ⟨_,rfl,?_,?_⟩
 ·refine congrArg (AV.int .i64) ?_
  rw [a7q,if_neg (by omega)]
  exact c1A (by omega) hm (by omega) (by omega)
 ·rfl
def len8(j:Nat):Nat:=if j=0 then 0 else Nat.log2 j+1
def c0E:List UInt8:=(List.range 256).map fun j=>UInt8.ofNat (len8 j)
def a5f(x:Nat):Nat:=if 256<=x then 8+len8 (x / 256) else len8 x
theorem b7i{j:Nat}(h:j<256):c0E[j]?=some (UInt8.ofNat (len8 j)):=by simp [c0E,h]
theorem a8l{j:Nat}(h:j<256):len8 j<=8:=by
 have h1:((List.range 256).all fun j=>decide (len8 j<=8))=true:=by kernel_rfl
 have:=List.all_eq_true.1 h1 j (by simpa using h)
 simpa using this
theorem c8f{n:Nat}(h:n<256):IntKind.u8.wrap (n:Int)=n:=by
 simp [IntKind.wrap,IntKind.signed,IntKind.bits]
 omega
theorem c3c{j:Nat}(h:j<256):(UInt8.ofNat (len8 j)).toNat=len8 j:=by
 have:=a8l h
 rw [UInt8.toNat_ofNat'];omega
theorem c9A(c:Nat):(c:Int).fdiv (2 ^ (min (8:Int).toNat IntKind.u64.bits))=((c / 256:Nat):Int):=by
 have h:(2:Int) ^ (min (8:Int).toNat IntKind.u64.bits)=((256:Nat):Int):=by decide
 rw [h,Int.fdiv_eq_ediv_of_nonneg _ (by omega)]
 exact (Int.natCast_ediv c 256).symm
theorem c3T(X:Nat->Prop)(x:Nat)(hx:x<65536):a0b (E0 X) 213 [.int .u64 (x:Int)] [] (fun r H'=>r=.int .i64 (a5f x:Int)/\H'=[]):=by
 refine Z0 Proofs.Tryz.func213 rfl Proofs.Tryz.ntmps213 (by kernel_rfl) rfl ?_
 repeat' (first|refine Zs rfl ?_|refine Zc rfl ?_|refine Zh ?_|refine Qs ?_)
 refine a0d rfl (fun h1=>?_) (fun h1=>?_)
 ·omega
 repeat' (first|refine Zs rfl ?_|refine Zc rfl ?_|refine Zh ?_|refine Qs ?_)
 refine a0d rfl (fun h2=>?_) (fun h2=>?_)
 ·omega
 repeat' (first|refine Zs rfl ?_|refine Zc rfl ?_|refine Zh ?_|refine Qs ?_)
 refine a0d rfl (fun h3=>?_) (fun h3=>?_)
 ·have h4:x / 256<256:=by omega
  repeat' (first|refine Zs rfl ?_|refine Zc rfl ?_|refine Qa rfl ?_)
  refine a4K rfl rfl (by decide) ?_
  refine nx rfl rfl ?_
  rw [c9A]
  repeat' (first|refine Zs rfl ?_|refine Zc rfl ?_|refine Qa rfl ?_)
  rw [c8f h4]
  refine a7e (l:=c0E) (j:=x / 256) rfl rfl (by kernel_rfl) rfl (b7i h4) rfl ?_
  rw [c3c h4]
  refine nx rfl rfl ?_
  repeat' (first|refine Zs rfl ?_|refine Zh ?_|refine Qs ?_)
  refine a0c ⟨_,rfl,?_,?_⟩
  ·have h6:=a8l h4
   refine congrArg (AV.int .i64) ?_
   rw [a5f,if_pos (by omega)]
   have h7:IntKind.i64.wrap ((len8 (x / 256):Nat):Int)=(len8 (x / 256):Nat):=a0p (by omega) (by omega)
   rw [h7]
   exact a0u (by rw [show IntKind.i64.wrap (0+8)=8 from rfl];simp) (by omega) (by omega)
  ·rfl
 have h4:x<256:=by omega
 repeat' (first|refine Zs rfl ?_|refine Zc rfl ?_|refine Qa rfl ?_)
 rw [c8f h4]
 refine a7e (l:=c0E) (j:=x) rfl rfl (by kernel_rfl) rfl (b7i h4) rfl ?_
 rw [c3c h4]
 refine nx rfl rfl ?_
 repeat' (first|refine Zs rfl ?_|refine Zh ?_|refine Qs ?_)
 refine a0c ⟨_,rfl,?_,?_⟩
 ·have h6:=a8l h4
  refine congrArg (AV.int .i64) ?_
  rw [a5f,if_neg (by omega)]
  have h7:IntKind.i64.wrap ((len8 x:Nat):Int)=(len8 x:Nat):=a0p (by omega) (by omega)
  rw [h7]
  exact a0u (by omega) (by omega) (by omega)
 ·rfl
theorem c8E(X:Nat->Prop)(x:Nat)(hx:x<65536):a0b (E0 X) 178 [.int .u64 (x:Int)] [] (fun r H'=>r=.int .i64 (a5f x:Int)/\H'=[]):=by
 refine Z0 Proofs.Tryz.func178 rfl Proofs.Tryz.ntmps178 (by kernel_rfl) rfl ?_
 repeat' (first|refine Zs rfl ?_|refine Zc rfl ?_|refine Qa rfl ?_)
 refine Cn rfl (c3T X x hx) rfl rfl ?_
 repeat' (first|refine Zs rfl ?_|refine Zh ?_|refine Qs ?_)
 refine a0c ⟨_,rfl,?_,?_⟩
 ·rfl
 ·rfl
def c8m(l:La):List UInt8:=[UInt8.ofNat (l.ver.toNat%256),UInt8.ofNat ((a5f l.rs.toNat - 1)%256),UInt8.ofNat (l.regs.toNat%256)]
def a3p(b:List UInt8)(l:La):List UInt8:=a1b b l.id.toNat 4++c8m l
theorem a1R(b:List UInt8)(l:La):(a3p b l).length=b.length+7:=by simp [a3p,a0E,c8m]
structure c2g(l:La):Prop where
 id:0<=l.id/\l.id<=4294967295
 ver:0<=l.ver/\l.ver<=255
 rs:0<=l.rs/\l.rs<65536
 regs:0<=l.regs/\l.regs<=255
theorem a0b.frz0{E:Env}{f:FuncId}{args:List AV}{es:List AV}{e:TypeId}(k:Nat)(h:a0b E f args [] (fun r H'=>∃id n,r=.own id 0 n/\n=es.length/\H'[id]?=some (some (.arr es e))))(he:Nat.blt e E.n=true)(hk:Nat.beq (E.ti e).sz k=true)(hes:a0e 0 es) :
  a0b E f args [] (fun r H'=>r=.sl k es/\H'=[]) :=
 h.imp fun r H' ⟨id,n,h1,h2,h3⟩=>by
  subst h1;subst h2
  refine ⟨_,_,⟨rfl,rfl⟩,?_⟩
  refine (a0M (id:=id) (k:=k) (es:=es) (e:=e) h3 he hk).trans ?_
  refine a0i 0 (Nat.zero_le _) a0T rfl (Nat.zero_le _) ?_
  refine a0a ⟨?_,hes⟩ a0k
  simp [a0R,frz]
theorem a4n(X:Nat->Prop)(H:Hp)(x:AV)(b:List UInt8)(n w:Nat)(hw:1<=w)(hw8:w<=8)(hb:b.length<=1048576)(hx:a7d (E0 X) H 1 x=some (b.map u8A)) :
  a0b (E0 X) 180 [x,.int .u64 (n:Int),.int .i64 (w:Int)] H (fun r H'=>r=.own H.length 0 (b.length+w)/\H'=H++[some (.arr ((a1b b n w).map u8A) 5)]):=by
 refine (a1H (E:=E0 X) (P:=fun v H'=>v=.own 0 0 (b.length+w)/\H'=[some (.arr ((a1b b n w).map u8A) 5)]) (fun X=>b7W X b n w hw hw8 hb) (fun r h' h=>by
  obtain ⟨h1,h2⟩:=h;subst h1;subst h2;exact ⟨rfl,by simp [a6x,a7n,a2h (f:=u8A) (fun _=>rfl)]⟩) (Bor.sl (a2c _) hx (Bor.same trivial (Bor.same trivial .nil)))).mono ?_
 rintro r H' ⟨r0,h',⟨rfl,rfl⟩,rfl,rfl⟩
 refine ⟨by simp [rnA],?_⟩
 show H++[some (AO.arr (rnL _ (List.map u8A _)) _)]=_
 rw [a1X (fun _=>rfl)]
theorem b3N(X:Nat->Prop)(b:List UInt8)(l:La)(hl:c2g l)(hb:b.length<=1000) :
  a0b (E0 X) 181 [.sl 1 (b.map u8A),laA l] [] (fun r H'=>∃id n,r=.own id 0 n/\n=((a3p b l).map u8A).length/\H'[id]?=some (some (.arr ((a3p b l).map u8A) 5))):=by
 obtain ⟨id,ver,rs,regs⟩:=l
 obtain ⟨⟨a1,a2⟩,⟨a3,a4⟩,⟨a5,a6⟩,⟨a7,a8⟩⟩:=hl
 simp only at a1 a2 a3 a4 a5 a6 a7 a8
 obtain ⟨id,rfl⟩:=Int.eq_ofNat_of_zero_le a1
 obtain ⟨ver,rfl⟩:=Int.eq_ofNat_of_zero_le a3
 obtain ⟨rs,rfl⟩:=Int.eq_ofNat_of_zero_le a5
 obtain ⟨regs,rfl⟩:=Int.eq_ofNat_of_zero_le a7
 have e1:max (IntKind.i64.wrap (((a5f rs:Nat):Int) - 1)) 0=((a5f rs - 1:Nat):Int):=by
  have h1:a5f rs<=16:=by
   unfold a5f
   split
   ·have:=a8l (j:=rs / 256) (by omega);omega
   ·have:=a8l (j:=rs) (by omega);omega
  rw [a0p (by omega) (by omega)];omega
 refine Z0 Proofs.Tryz.func181 rfl Proofs.Tryz.ntmps181 (by kernel_rfl) rfl ?_
 repeat' (first|refine Zs rfl ?_|refine Zc rfl ?_|refine Qa rfl ?_)
 rw [wrap64 (by omega)]
 refine Cn rfl (a4n X _ _ b id 4 (by decide) (by decide) (by omega) rfl) rfl rfl ?_
 repeat' (first|refine Zs rfl ?_|refine Zc rfl ?_)
 refine a0t (a0X (id:=0) (cs:=[.int .i64 (id:Int),.int .i64 (ver:Int),.int .i64 (rs:Int),.int .i64 (regs:Int)]) rfl) ?_
 refine a0t (a0L 0 [1] (sl':=[(0,.own 0 0 (b.length+4)),(3,.fp [.int .i64 (id:Int),.int .i64 (ver:Int),.int .i64 (rs:Int),.int .i64 (regs:Int)])]) (H':=[some (.arr ((a1b b id 4).map u8A) 5)]) (os:=[.arr ((a1b b id 4).map u8A) 5]) (Nat.le_refl _) (Nat.zero_le _) (by simp) (by simp) (by simp [HOk]) rfl rfl ?_ ?_) ?_
 ·exact a0a (a0D rfl) (a0a (a0s rfl ⟨trivial,trivial,trivial,trivial,trivial⟩) a0k)
 ·exact a0v rfl (a0A 0 (fun i h=>absurd h (Nat.not_lt_zero i)) (a0h fun _=>a0n)) a0N
 refine a0o [7,15] [0,1,3,4,6,8,9,10,11,13,16,2,5,12] (by exact rfl) ?_
 refine a0C (fuel:=0) [0,1,4,11,2,3,5,6,12,13,7,8,9,10,14,15,16] (by exact rfl) (by kernel_rfl) (by kernel_rfl) ?_
 repeat' (refine Zd rfl ?_)
 rw [wrap64 (by omega)]
 refine a1D rfl rfl rfl ?_
 refine Cn rfl (a0f (E:=E0 X) (fun X=>c8E X rs (by omega)) (by simp [a0e,a0g]) _) rfl rfl ?_
 repeat' (refine Zd rfl ?_)
 rw [e1,a1s,a1s,a1s]
 refine a1D rfl rfl rfl ?_
 refine a0V (oid:=some 0) (es:=(a1b b id 4).map u8A) (out:=(a3p b ⟨(id:Int),(ver:Int),(rs:Int),(regs:Int)⟩).map u8A) (n:=b.length+7) (a0J rfl (by rw [List.length_map,a0E])) (rfl) (a0P (c8m ⟨(id:Int),(ver:Int),(rs:Int),(regs:Int)⟩)) (by simp only [a3p,List.map_append];rfl) (by rw [List.length_map,a0E];rfl) (by show _<=9223372036854775807;omega) (by show _*1<=_;omega) rfl rfl rfl rfl rfl rfl rfl rfl ?_
 refine nx rfl rfl ?_
 repeat' (first|refine Zd rfl ?_|refine Zk ?_|refine Qs ?_|refine Qw (by kernel_rfl) ?_)
 refine a0c ⟨_,rfl,1,_,rfl,?_,rfl⟩
 rw [List.length_map,a1R]
theorem c0D(X:Nat->Prop)(b:List UInt8)(l:La)(hl:c2g l)(hb:b.length<=1000) :
  a0b (E0 X) 181 [.sl 1 (b.map u8A),laA l] [] (fun r H'=>r=.sl 1 ((a3p b l).map u8A)/\H'=[]) :=
 a0b.frz0 (e:=5) 1 (b3N X b l hl hb) rfl rfl (a0h fun _=>a0n)
structure PlN where
 kind:Nat
 mig:Nat
 idx:Nat
 tail:Nat
 t:La
def PlN.pl(p:PlN):Pl:=⟨p.kind,p.mig,p.idx,p.tail,p.t⟩
def b2F(p:PlN):List UInt8:=a3p (a1b (a1b [UInt8.ofNat (p.kind%256)] p.mig 4++[UInt8.ofNat (p.idx%256)]) p.tail 6) p.t
def b4R(p:PlN)(sector:Nat):List UInt8:=a3Q 4 0 sector (b2F p)
theorem a7A(p:PlN):(b2F p).length=19:=by simp [b2F,a1R,a0E]
theorem b3A(p:PlN)(s:Nat):(b4R p s).length=64:=a2W (by rw [a7A];decide)
theorem a2L{p:Pl}(h:a1Z p=true):∃q:PlN,p=q.pl/\(1<=q.kind/\q.kind<=2)/\(1<=q.mig/\q.mig<=4294967295)/\q.idx<=35/\q.tail<=281474976710655/\a1f q.t=true:=by
 obtain ⟨kind,mig,idx,tail,t⟩:=p
 simp only [a1Z,Bool.and_eq_true,Bool.or_eq_true,Bool.not_eq_true',decide_eq_false_iff_not,decide_eq_true_eq] at h
 obtain ⟨h1,h2,h3,h4,h5,h6⟩:=h
 have hk:1<=kind/\kind<=2:=by omega
 have hi:0<=idx/\idx<=35:=by omega
 refine ⟨⟨kind.toNat,mig.toNat,idx.toNat,tail.toNat,t⟩,?_,by simp only;omega,by simp only;omega,by simp only;omega,by simp only;omega,h5⟩
 simp only [PlN.pl]
 have e1:((kind.toNat:Nat):Int)=kind:=by omega
 have e2:((mig.toNat:Nat):Int)=mig:=by omega
 have e3:((idx.toNat:Nat):Int)=idx:=by omega
 have e4:((tail.toNat:Nat):Int)=tail:=by omega
 rw [e1,e2,e3,e4]
theorem a5v{l:La}(h:a1f l=true):c2g l:=by
 simp only [a1f,Bool.and_eq_true,Bool.or_eq_true,decide_eq_true_eq] at h
 exact ⟨by omega,by omega,by omega,by omega⟩
theorem c7a(X:Nat->Prop)(p:PlN)(sector:Nat)(hv:a1Z p.pl=true)(hs:sector<1048576) :
  a0b (E0 X) 154 [plA p.pl,.int .i64 (sector:Int)] [] (fun r H'=>r=.tup [.sl 1 ((b4R p sector).map u8A),.int .i64 0]/\H'=[]):=by
 obtain ⟨q,hq,hk,hm,hi,ht,hf⟩:=a2L hv
 have hva:=b3h X p.pl
 rw [hv] at hva
 have hpq:p=q:=by
  obtain ⟨a,b,c,d,e⟩:=p
  obtain ⟨a2,b2,c2,d2,e2⟩:=q
  simp only [PlN.pl,Pl.mk.injEq] at hq
  obtain ⟨h1,h2,h3,h4,h5⟩:=hq
  simp only [PlN.mk.injEq]
  exact ⟨by omega,by omega,by omega,by omega,h5⟩
 subst hpq
 obtain ⟨kind,mig,idx,tail,t⟩:=p
 simp only at hk hm hi ht hf
 have hlo:=a5v hf
 show a0b (E0 X) 154 [.agg [.int .i64 (kind:Int),.int .i64 (mig:Int),.int .i64 (idx:Int),.int .i64 (tail:Int),.int .i64 t.id,.int .i64 t.ver,.int .i64 t.rs,.int .i64 t.regs],.int .i64 (sector:Int)] [] _
 refine Z0 Proofs.Tryz.func154 rfl Proofs.Tryz.ntmps154 (by kernel_rfl) rfl ?_
 repeat' (first|refine Zs rfl ?_|refine Zc rfl ?_|refine Qa rfl ?_)
 refine Ck (fun _=>rfl) rfl (a0f (E:=E0 X) (fun X=>b3h X (PlN.pl ⟨kind,mig,idx,tail,t⟩)) (by simp [a0e]) _) ?_
 rw [hv]
 refine nx rfl rfl ?_
 repeat' (first|refine Zs rfl ?_|refine Zc rfl ?_|refine Qa rfl ?_)
 rw [a1s,wrap64 (by omega)]
 refine Cn rfl (a4n X _ _ [UInt8.ofNat (kind%256)] mig 4 (by decide) (by decide) (by simp) rfl) rfl rfl ?_
 repeat' (first|refine Zs rfl ?_|refine Zc rfl ?_)
 refine a0t (a0X (id:=0) (cs:=[.int .i64 (kind:Int),.int .i64 (mig:Int),.int .i64 (idx:Int),.int .i64 (tail:Int),.int .i64 t.id,.int .i64 t.ver,.int .i64 t.rs,.int .i64 t.regs]) rfl) ?_
 refine a0t (a0L 0 [1] (sl':=[(1,.int .i64 (sector:Int)),(2,.fp [.int .i64 (kind:Int),.int .i64 (mig:Int),.int .i64 (idx:Int),.int .i64 (tail:Int),.int .i64 t.id,.int .i64 t.ver,.int .i64 t.rs,.int .i64 t.regs]),(6,.own 0 0 5)])
  (H':=[some (.arr ((a1b [UInt8.ofNat (kind%256)] mig 4).map u8A) 5)]) (os:=[.arr ((a1b [UInt8.ofNat (kind%256)] mig 4).map u8A) 5]) (Nat.le_refl _) (Nat.zero_le _) (by simp) (by simp) (by simp [HOk]) rfl rfl ?_ ?_) ?_
 ·exact a0a (a0s rfl trivial) (a0a (a0s rfl ⟨trivial,trivial,trivial,trivial,trivial,trivial,trivial,trivial,trivial⟩) (a0a (a0D rfl) a0k))
 ·exact a0v rfl (a0A 0 (fun i h=>absurd h (Nat.not_lt_zero i)) (a0h fun _=>a0n)) a0N
 refine a0o [5,9] [0,1,3,6,8,10,2,7] (by exact rfl) ?_
 refine a0C (fuel:=0) [0,1,6,2,3,4,7,8,5,9,10] (by exact rfl) (by kernel_rfl) (by kernel_rfl) ?_
 repeat' (refine Zd rfl ?_)
 rw [a1s,wrap64 (by omega)]
 refine a1D rfl rfl rfl ?_
 refine a0V (oid:=some 0) (es:=(a1b [UInt8.ofNat (kind%256)] mig 4).map u8A) (out:=(a1b [UInt8.ofNat (kind%256)] mig 4++[UInt8.ofNat (idx%256)]).map u8A) (n:=6) (a0J rfl (by rw [List.length_map,a0E];rfl)) (rfl) (a0P [UInt8.ofNat (idx%256)]) (by rw [List.map_append];rfl) (by rw [List.length_map,a0E];rfl) (by show _<=9223372036854775807;omega) (by show _*1<=_;omega) rfl rfl rfl rfl rfl rfl rfl rfl ?_
 refine nx rfl rfl ?_
 skip
 have hl6:(a1b [UInt8.ofNat (kind%256)] mig 4++[UInt8.ofNat (idx%256)]).length=6:=by rw [List.length_append,a0E];rfl
 refine a1D rfl rfl rfl ?_
 refine Cn rfl (a4n X _ _ (a1b [UInt8.ofNat (kind%256)] mig 4++[UInt8.ofNat (idx%256)]) tail 6 (by decide) (by decide) (by omega) (a0z rfl rfl rfl (by omega) (by rw [List.drop_zero,List.take_of_length_le (by omega)]))) rfl rfl ?_
 have hpay:a3p (a1b (a1b [UInt8.ofNat (kind%256)] mig 4++[UInt8.ofNat (idx%256)]) tail 6) t=b2F ⟨kind,mig,idx,tail,t⟩:=rfl
 have hl12:(a1b (a1b [UInt8.ofNat (kind%256)] mig 4++[UInt8.ofNat (idx%256)]) tail 6).length=12:=by rw [a0E,hl6]
 rw [hl6]
 have hlay:=c0D X (a1b (a1b [UInt8.ofNat (kind%256)] mig 4++[UInt8.ofNat (idx%256)]) tail 6) t hlo (by omega)
 rw [hpay] at hlay
 generalize a1b (a1b [UInt8.ofNat (kind%256)] mig 4++[UInt8.ofNat (idx%256)]) tail 6=b12 at *
 repeat' (first|((apply Qe rfl rfl rfl rfl;intro H9);(refine Q1 ?_);(exact QY rfl ⟨rfl,rfl⟩))|refine Qk ?_|refine Qw (by kernel_rfl) ?_)
 refine a2s ?_
 refine a0t (a0M (id:=2) (k:=1) (es:=b12.map u8A) (e:=5) rfl rfl rfl) ?_
 refine a0t (a0i 0 (Nat.zero_le _) a0T rfl (Nat.zero_le _) (sl':=[(1,.int .i64 (sector:Int)),(2,.fp [.int .i64 (kind:Int),.int .i64 (mig:Int),.int .i64 (idx:Int),.int .i64 (tail:Int),.int .i64 t.id,.int .i64 t.ver,.int .i64 t.rs,.int .i64 t.regs]),(6,.sl 1 (b12.map u8A))]) ?_) ?_
 ·refine a0a ⟨rfl,trivial⟩ (a0a ⟨rfl,⟨trivial,trivial,trivial,trivial,trivial,trivial,trivial,trivial,trivial⟩⟩ (a0a ⟨?_,a0h fun _=>a0n⟩ a0k))
  show frz 2 _ _ (.own 2 0 (6+6))=_
  exact a3h (by simp [hl12])
 repeat' (first|refine Zs rfl ?_|refine Zc rfl ?_|refine Qa rfl ?_)
 refine Cn rfl (hlay) rfl rfl ?_
 repeat' (refine Qa rfl ?_)
 refine Cn rfl (b0R X 4 0 sector (b2F ⟨kind,mig,idx,tail,t⟩) ⟨by decide,by decide,hs⟩ (by decide) (by rw [a7A];decide)) rfl rfl ?_
 repeat' (first|refine Zs rfl ?_|refine Zh ?_|refine Qs ?_)
 refine a0c ⟨_,rfl,?_,?_⟩
 ·rfl
 ·rfl
theorem b7N(X:Nat->Prop)(p:Pl)(sector:Int)(hv:a1Z p=false) :
  a0b (E0 X) 154 [plA p,.int .i64 sector] [] (fun r H'=>r=.tup [.nils,.int .i64 4]/\H'=[]):=by
 refine a0b.cut0 ?_ ⟨trivial,trivial,trivial⟩
 refine Z0 Proofs.Tryz.func154 rfl Proofs.Tryz.ntmps154 (by kernel_rfl) rfl ?_
 repeat' (first|refine Zs rfl ?_|refine Zc rfl ?_|refine Qa rfl ?_)
 refine Ck (fun _=>rfl) rfl (a0f (E:=E0 X) (fun X=>b3h X p) (by simp [a0e]) _) ?_
 rw [hv]
 refine nx rfl rfl ?_
 repeat' (first|refine Zs rfl ?_|refine Zc rfl ?_|refine Zh ?_|refine Qs ?_)
 exact a0c ⟨_,rfl,rfl⟩
def a0I(l:List UInt8):Nat:=l.foldl (fun n x=>n*256+x.toNat) 0
theorem a8n(l:List UInt8)(x:UInt8):a0I (l++[x])=a0I l*256+x.toNat:=by simp [a0I]
theorem b0a(l:List UInt8):a0I l<256 ^ l.length:=by
 have:∀(l:List UInt8),a0I l.reverse<256 ^ l.length:=by
  intro l
  induction l with
  | nil=>simp [a0I]
  | cons x l ih =>
   rw [List.reverse_cons,a8n,List.length_cons,Nat.pow_succ]
   have:=x.toNat_lt
   omega
 have h:=this l.reverse
 simpa using h
theorem c9t{n x:Nat}(hx:x<256)(h:n*256+x<18446744073709551616):a2g .or .u64 ((n*256:Nat):Int) (x:Int)=((n*256+x:Nat):Int):=by
 have h1:a2g .or .u64 ((n*256:Nat):Int) (x:Int)=IntKind.u64.wrap (((BitVec.ofInt 64 ((n*256:Nat):Int) ||| BitVec.ofInt 64 (x:Int)).toNat:Nat):Int):=rfl
 rw [h1,BitVec.toNat_or]
 have h2:∀n:Nat,n<18446744073709551616->(BitVec.ofInt 64 (n:Int)).toNat=n:=fun n h=>by
  rw [BitVec.ofInt_natCast,BitVec.toNat_ofNat];exact Nat.mod_eq_of_lt h
 have h5:n*256<18446744073709551616:=Nat.lt_of_le_of_lt (Nat.le_add_right _ _) h
 have h6:x<18446744073709551616:=Nat.lt_trans hx (by decide)
 rw [h2 (n*256) h5,h2 x h6]
 have h3:n*256 ||| x=n*256+x:=by
  have:=Nat.two_pow_add_eq_or_of_lt (i:=8) (b:=x) (by omega) n
  have h4:(2:Nat) ^ 8=256:=by decide
  rw [h4] at this
  rw [Nat.mul_comm n 256]
  exact this.symm
 rw [h3,wrap64 h]
theorem c9y{n:Nat}(h:n*256<18446744073709551616):IntKind.u64.wrap ((n:Int)*2 ^ (min (8:Int).toNat IntKind.u64.bits))=((n*256:Nat):Int):=by
 have h1:(2:Int) ^ (min (8:Int).toNat IntKind.u64.bits)=256:=by decide
 rw [h1]
 exact wrap64 (n:=n*256) h
def b5h(bs:List UInt8)(s lo:Nat):AO:=.cells [.own s lo (bs.length - lo),.bool false] 268
def a2z(bs:List UInt8)(lo:Nat):Hp:=[some (.arr (bs.map u8A) 5),some (b5h bs 0 lo)]
theorem a3Z(bs:List UInt8)(lo:Nat):HOk 2 (a2z bs lo):=fun j o ho=>by
 match j,ho with
 | 0,ho=>cases ho;exact a0h fun _=>a0n
 | 1,ho=>cases ho;exact ⟨by simp [a0g],trivial,trivial⟩
theorem c6Q(X:Nat->Prop)(bs:List UInt8)(hb:bs.length<=1000):a0b (E0 X) 144 [.sl 1 (bs.map u8A)] [] (fun r H'=>r=.ptr 1 0/\H'=a2z bs 0):=by
 refine Z0 Proofs.Tryz.func144 rfl Proofs.Tryz.ntmps144 (by kernel_rfl) rfl ?_
 repeat' (first|refine Zs rfl ?_|refine Zc rfl ?_|refine Qa rfl ?_)
 refine Cn rfl (a4T X bs (by omega)) rfl rfl ?_
 repeat' (first|refine Zs rfl ?_|refine Zh ?_|refine Qs ?_)
 refine a0c ⟨_,rfl,?_,?_⟩
 ·rfl
 ·rfl
theorem c7L(X:Nat->Prop)(bs:List UInt8)(lo n:Nat)(h:lo+n<=bs.length)(hb:bs.length<=1000) :
  a0b (E0 X) 182 [.ptr 1 0,.int .i64 (n:Int)] (a2z bs lo) (fun r H'=>r=.own 0 lo n/\H'=a2z bs (lo+n)):=by
 refine Z0 Proofs.Tryz.func182 rfl Proofs.Tryz.ntmps182 (by kernel_rfl) rfl ?_
 repeat' (first|refine Zs rfl ?_|refine Zc rfl ?_|refine Zh ?_|refine Qs ?_)
 refine a0d rfl (fun h1=>?_) (fun h1=>?_)
 ·omega
 repeat' (first|refine Zs rfl ?_|refine Zc rfl ?_|refine Qa rfl ?_)
 refine a7g (l:=0) (h:=n) (lo':=lo) (n':=n) (a1t) (a0r rfl rfl) (by omega) (by first|omega|(simp;omega)) (by omega) (by omega) rfl rfl rfl rfl rfl rfl rfl ?_
 refine nx rfl rfl ?_
 repeat' (first|refine Zs rfl ?_|refine Zc rfl ?_|refine Qa rfl ?_)
 refine a7g (l:=n) (h:=bs.length - lo) (lo':=lo+n) (n':=bs.length - (lo+n)) (a0r rfl rfl) (a1t) (by omega) (by first|omega|(simp;omega)) (by omega) (by omega) rfl rfl rfl rfl rfl rfl rfl ?_
 refine nx rfl rfl ?_
 repeat' (first|refine Zs rfl ?_|refine Zc rfl ?_|refine Zh ?_|refine Qs ?_)
 refine a0c ⟨_,rfl,?_,?_⟩
 ·rfl
 ·rfl
theorem b7x(X:Nat->Prop)(bs:List UInt8)(lo w:Nat)(hw:1<=w)(hw8:w<=8)(h:lo+w<=bs.length)(hb:bs.length<=1000) :
  a0b (E0 X) 146 [.ptr 1 0,.int .i64 (w:Int)] (a2z bs lo) (fun r H'=>r=.int .u64 (a0I ((bs.drop lo).take w):Int)/\H'=a2z bs (lo+w)):=by
 have hlw:((bs.drop lo).take w).length=w:=by simp;omega
 refine Z0 Proofs.Tryz.func146 rfl Proofs.Tryz.ntmps146 (by kernel_rfl) rfl ?_
 repeat' (first|refine Zs rfl ?_|refine Zc rfl ?_|refine Zh ?_|refine Qa rfl ?_|refine Qs ?_|((fail_if_success refine QV rfl ?_);refine Qy rfl rfl (fun _=>?_) (fun _=>?_)))
 ·omega
 refine a0H rfl (fun h9=>?_) (fun _=>?_)
 ·simp at h9;omega
 repeat' (first|refine Zs rfl ?_|refine Zc rfl ?_|refine Qa rfl ?_)
 refine Cn rfl (c7L X bs lo w h hb) rfl rfl ?_
 repeat' (first|refine Zs rfl ?_|refine Zc rfl ?_)
 refine a0q (fun i:Nat=>⟨[(5,.int .u64 (a0I ((bs.drop lo).take i):Int)),(16,.own 0 lo w),(17,.int .i64 (w:Int)),(18,.int .i64 (i:Int))],a2z bs (lo+w)⟩) (fun i=>i<=w) (fun i=>w - i) 0 (Nat.zero_le _) ?_ ?_
 ·exact kk 2 (a3Z _ _) rfl (by simp [a0g,a0e])
 rintro i hi
 repeat' (first|refine Zs rfl ?_|refine Zc rfl ?_)
 refine a0d rfl (fun h3=>?_) (fun h3=>?_)
 ·have hi3:i<w:=by omega
  obtain ⟨q,hq⟩:∃q,bs[lo+i]?=some q:=⟨_,List.getElem?_eq_getElem (by omega)⟩
  have hn:a0I ((bs.drop lo).take (i+1))=a0I ((bs.drop lo).take i)*256+q.toNat:=by
   rw [List.take_add_one,List.getElem?_drop,hq]
   exact a8n _ _
  have hlt:=b0a ((bs.drop lo).take i)
  have hli:((bs.drop lo).take i).length=i:=by simp;omega
  rw [hli] at hlt
  have hp:256 ^ i<=256 ^ 7:=Nat.pow_le_pow_right (by decide) (by omega)
  have h7:(256:Nat) ^ 7=72057594037927936:=by decide
  have hq8:=q.toNat_lt
  repeat' (first|refine Zc rfl ?_|refine Qa rfl ?_)
  refine a1Y (j:=i) (p:=lo+i) (rfl) (by first|omega|assumption|(simp;omega)) (by omega) rfl rfl rfl rfl rfl rfl rfl rfl ?_
  refine nx rfl rfl ?_
  repeat' (refine Qa rfl ?_)
  refine a2C rfl rfl (y:=u8A q) (by simp [hq]) rfl rfl rfl ?_
  refine nx rfl rfl ?_
  repeat' (first|refine Zs rfl ?_|refine Zc rfl ?_|refine Qa rfl ?_)
  refine a9s rfl rfl (by decide) ?_
  refine nx rfl rfl ?_
  repeat' (first|refine Zs rfl ?_|refine Zc rfl ?_|refine Zh ?_|refine Qs ?_)
  rw [c9y (by omega),wrap64 (by omega),c9t (by omega) (by omega),<- hn]
  refine ⟨i+1,by omega,by omega,a0i 2 (Nat.le_refl _) (a3Z _ _) rfl (by simp [b5h]) ?_⟩
  repeat' (first|exact a0k|refine a0a ⟨?_,?_⟩ ?_)
  all_goals (try first|exact rfl|exact trivial|(simp [a0g,a0e];done)|(refine congrArg (AV.int .i64) (a0u ?_ ?_ ?_)<;>(first|omega|(simp;omega))))
 have hi3:i=w:=by omega
 subst hi3
 repeat' (first|refine Zs rfl ?_|refine Zc rfl ?_|refine Zh ?_|refine Qs ?_)
 refine a0c ⟨_,rfl,?_,?_⟩
 ·rfl
 ·rfl
end Go.Abs
