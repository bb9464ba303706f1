/- crc: the walk. Joined texts, each with what its own name promises; no condition beyond those stated. -/
import Derived.Test.YtkmmdlicifiknaaGreatDoorCC
set_option maxHeartbeats 0
set_option maxRecDepth 100000
set_option linter.unusedVariables false
set_option linter.unusedSimpArgs false
namespace Go.Abs
def b1b(i:Nat):Nat:=(a3U[i]?).getD 0
def a4d(c x:Nat):Nat:=((((c ^^^ x) >>> 4) ^^^ b1b ((c ^^^ x) &&& 15)) >>> 4) ^^^ b1b ((((c ^^^ x) >>> 4) ^^^ b1b ((c ^^^ x) &&& 15)) &&& 15)
def b1p:Nat:=4294967295
def a5l(c:Nat)(l:List UInt8):Nat:=(l.foldl (fun c x=>a4d c x.toNat) (c ^^^ b1p)) ^^^ b1p
theorem wrap32{n:Nat}(h:n<4294967296):IntKind.u32.wrap (n:Int)=n:=by
 simp [IntKind.wrap,IntKind.signed,IntKind.bits]
 omega
theorem b4W{a b:Nat}(ha:a<4294967296)(hb:b<4294967296):a2H .xor .u32 (a:Int) (b:Int)=((a ^^^ b:Nat):Int):=by
 have h1:a2H .xor .u32 (a:Int) (b:Int)=IntKind.u32.wrap (((BitVec.ofInt 32 (a:Int) ^^^ BitVec.ofInt 32 (b:Int)).toNat:Nat):Int):=rfl
 rw [h1,BitVec.toNat_xor]
 have h2:∀n:Nat,n<4294967296->(BitVec.ofInt 32 (n:Int)).toNat=n:=fun n h=>by
  rw [BitVec.ofInt_natCast,BitVec.toNat_ofNat];exact Nat.mod_eq_of_lt h
 rw [h2 a ha,h2 b hb,wrap32 (Nat.xor_lt_two_pow (n:=32) ha hb)]
theorem c3C{a b:Nat}(ha:a<4294967296)(hb:b<4294967296):a2H .and .u32 (a:Int) (b:Int)=((a &&& b:Nat):Int):=by
 have h1:a2H .and .u32 (a:Int) (b:Int)=IntKind.u32.wrap (((BitVec.ofInt 32 (a:Int) &&& BitVec.ofInt 32 (b:Int)).toNat:Nat):Int):=rfl
 rw [h1,BitVec.toNat_and]
 have h2:∀n:Nat,n<4294967296->(BitVec.ofInt 32 (n:Int)).toNat=n:=fun n h=>by
  rw [BitVec.ofInt_natCast,BitVec.toNat_ofNat];exact Nat.mod_eq_of_lt h
 rw [h2 a ha,h2 b hb,wrap32 (Nat.lt_of_le_of_lt Nat.and_le_left ha)]
theorem a7w(i:Nat):b1b i<4294967296:=by
 unfold b1b
 rcases h:a3U[i]? with _|y
 ·decide
 ·have h1:∀y∈a3U,y<4294967296:=by decide
  exact h1 y (List.mem_of_getElem? h)
theorem a9Q{c x:Nat}(hc:c<4294967296)(hx:x<4294967296):a4d c x<4294967296:=by
 have h1:c ^^^ x<2 ^ 32:=Nat.xor_lt_two_pow hc hx
 have h2:(c ^^^ x) >>> 4<2 ^ 32:=Nat.lt_of_le_of_lt (Nat.shiftRight_le _ _) h1
 have h3:=Nat.xor_lt_two_pow h2 (a7w ((c ^^^ x) &&& 15))
 have h4:=Nat.lt_of_le_of_lt (Nat.shiftRight_le _ 4) h3
 exact Nat.xor_lt_two_pow h4 (a7w _)
theorem a6B{c:Nat}(hc:c<4294967296)(l:List UInt8):a5l c l<4294967296:=by
 have h0:c ^^^ b1p<2 ^ 32:=Nat.xor_lt_two_pow hc (by decide)
 have:∀(l:List UInt8) (c:Nat),c<4294967296->l.foldl (fun c x=>a4d c x.toNat) c<4294967296:=by
  intro l
  induction l with
  | nil=>intro c h;exact h
  | cons x l ih=>intro c h;exact ih _ (a9Q h (by have:=x.toNat_lt;omega))
 exact Nat.xor_lt_two_pow (n:=32) (this l _ h0) (by decide)
theorem c6m(c:Nat):(c:Int).fdiv (2 ^ (min (4:Int).toNat IntKind.u32.bits))=((c >>> 4:Nat):Int):=by
 have h:(2:Int) ^ (min (4:Int).toNat IntKind.u32.bits)=((2 ^ 4:Nat):Int):=by decide
 rw [h,Int.fdiv_eq_ediv_of_nonneg _ (by omega),Nat.shiftRight_eq_div_pow]
 exact (Int.natCast_ediv c (2 ^ 4)).symm
theorem b5H{i:Nat}(h:i<16):(a3U.map b0Y)[i]?=some (b0Y (b1b i)):=by
 have h1:a3U.length=16:=rfl
 rw [List.getElem?_map,b1b,List.getElem?_eq_getElem (by omega)]
 rfl
theorem c0w{a:Nat}(ha:a<4294967296):a2H .and .u32 (a:Int) 15=((a &&& 15:Nat):Int):=c3C ha (by decide)
theorem a0X:HOk 0 []:=fun _ _ h=>by simp at h
theorem b5k(c:Nat):c &&& 15<16:=by have:c &&& 15<=15:=Nat.and_le_right;omega
attribute [local irreducible] a0z a1p AWp Nx awM
theorem b5G(X:Nat->Prop)(c:Nat)(hc:c<4294967296)(x:UInt8) :
  a0b (E0 X) 231 [b0Y c,u8A x] [] (fun r H'=>r=b0Y (a4d c x.toNat)/\H'=[]):=by
 have hx:x.toNat<4294967296:=by have:=x.toNat_lt;omega
 have h1:c ^^^ x.toNat<4294967296:=Nat.xor_lt_two_pow (n:=32) hc hx
 have h2:(c ^^^ x.toNat) >>> 4<4294967296:=Nat.lt_of_le_of_lt (Nat.shiftRight_le _ _) h1
 have h3:((c ^^^ x.toNat) >>> 4) ^^^ b1b ((c ^^^ x.toNat) &&& 15)<4294967296:=Nat.xor_lt_two_pow (n:=32) h2 (a7w _)
 refine Z0 Proofs.Tryz.func231 rfl Proofs.Tryz.ntmps231 (by kernel_rfl) rfl ?_
 repeat' (first|refine Zs rfl ?_|refine Zc rfl ?_|refine Qa rfl ?_)
 rw [wrap32 hx,b4W hc hx]
 refine a8g rfl rfl (by decide) ?_
 refine nx rfl rfl ?_
 rw [c6m]
 repeat' (first|refine Zs rfl ?_|refine Qa rfl ?_)
 rw [c0w h1]
 refine a8d (j:=(c ^^^ x.toNat) &&& 15) rfl (b5k _) (b5H (b5k _)) rfl rfl rfl rfl rfl rfl ?_
 refine nx rfl rfl ?_
 repeat' (first|refine Zs rfl ?_|refine Zc rfl ?_|refine Qa rfl ?_)
 rw [b4W h2 (a7w _)]
 refine a8g rfl rfl (by decide) ?_
 refine nx rfl rfl ?_
 rw [c6m]
 repeat' (first|refine Zs rfl ?_|refine Qa rfl ?_)
 rw [c0w h3]
 refine a8d (j:=(((c ^^^ x.toNat) >>> 4) ^^^ b1b ((c ^^^ x.toNat) &&& 15)) &&& 15) rfl (b5k _) (b5H (b5k _)) rfl rfl rfl rfl rfl rfl ?_
 refine nx rfl rfl ?_
 repeat' (first|refine Zs rfl ?_|refine Zh ?_|refine Qs ?_)
 refine a0c ⟨_,rfl,?_,?_⟩
 ·exact congrArg (AV.int .u32) (b4W (Nat.lt_of_le_of_lt (Nat.shiftRight_le _ 4) h3) (a7w _))
 ·rfl
theorem notM(c:Nat)(hc:c<4294967296):a2H .xor .u32 (IntKind.u32.max) (c:Int)=((c ^^^ b1p:Nat):Int):=by
 have h:(IntKind.u32.max)=((4294967295:Nat):Int):=by decide
 rw [h,b4W (by decide) hc,Nat.xor_comm];rfl
theorem b2P(X:Nat->Prop)(c:Nat)(hc:c<4294967296)(l:List UInt8)(hl:l.length<=1073741824) :
  a0b (E0 X) 202 [b0Y c,.sl 1 (l.map u8A)] [] (fun r H'=>r=b0Y (a5l c l)/\H'=[]):=by
 have hall:∀(k:Nat),(l.take k).foldl (fun c x=>a4d c x.toNat) (c ^^^ b1p)<4294967296:=fun k=>by
  have h0:c ^^^ b1p<2 ^ 32:=Nat.xor_lt_two_pow hc (by decide)
  have:∀(l:List UInt8) (c:Nat),c<4294967296->l.foldl (fun c x=>a4d c x.toNat) c<4294967296:=by
   intro l
   induction l with
   | nil=>intro c h;exact h
   | cons x l ih=>intro c h;exact ih _ (a9Q h (by have:=x.toNat_lt;omega))
  exact this _ _ h0
 refine Z0 Proofs.Tryz.func202 rfl Proofs.Tryz.ntmps202 (by kernel_rfl) rfl ?_
 repeat' (first|refine Zs rfl ?_|refine Zc rfl ?_)
 refine a0s (fun i:Nat=>⟨[(0,b0Y ((l.take i).foldl (fun c x=>a4d c x.toNat) (c ^^^ b1p))),(9,.sl 1 (l.map u8A)),(10,.int .i64 (l.length:Int)),(11,.int .i64 (i:Int))],[]⟩) (fun i=>i<=l.length) (fun i=>l.length - i) 0 (Nat.zero_le _) ?_ ?_
 ·refine a0j 0 (Nat.zero_le _) a0X rfl (by simp) ?_
  refine a0a ⟨?_,trivial⟩ ?_
  ·exact congrArg (AV.int .u32) (notM c hc)
  repeat' (first|exact a0l|refine a0a ⟨?_,?_⟩ ?_)
  all_goals (try first|exact rfl|exact trivial|(simp [a0d,a0e];done)|(simp [a0R];done))
 rintro i hi
 repeat' (first|refine Zs rfl ?_|refine Zc rfl ?_)
 refine a0g rfl (fun h3=>?_) (fun h3=>?_)
 ·have hi3:i<l.length:=by omega
  obtain ⟨q,hq⟩:∃q,l[i]?=some q:=⟨_,List.getElem?_eq_getElem hi3⟩
  have hn:(l.take (i+1)).foldl (fun c x=>a4d c x.toNat) (c ^^^ b1p)=a4d ((l.take i).foldl (fun c x=>a4d c x.toNat) (c ^^^ b1p)) q.toNat:=by
   rw [List.take_add_one,hq,List.foldl_append];rfl
  repeat' (first|refine Zc rfl ?_|refine Qa rfl ?_)
  refine a0C hq rfl rfl rfl rfl rfl rfl rfl (by first|rfl|omega) rfl ?_
  refine nx rfl rfl ?_
  repeat' (first|refine Zs rfl ?_|refine Zc rfl ?_|refine Qa rfl ?_)
  refine Cn rfl (b5G X _ (hall i) q) rfl rfl ?_
  rw [<- hn]
  repeat' (first|refine Zs rfl ?_|refine Zc rfl ?_|refine Zh ?_|refine Qs ?_)
  refine ⟨i+1,by omega,by omega,a0j 0 (Nat.zero_le _) a0X rfl (by simp) ?_⟩
  repeat' (first|exact a0l|refine a0a ⟨?_,?_⟩ ?_)
  all_goals (try first|exact rfl|exact trivial|(simp [a0d,a0e];done)|(refine congrArg (AV.int .i64) (a0x ?_ ?_ ?_)<;>(first|omega|(simp;omega))))
 have hi3:i=l.length:=by omega
 subst hi3
 have h9:=hall l.length
 rw [List.take_length] at h9 ⊢
 repeat' (first|refine Zs rfl ?_|refine Zc rfl ?_|refine Zh ?_|refine Qs ?_)
 refine a0c ⟨_,rfl,?_,?_⟩
 ·exact congrArg (AV.int .u32) (notM _ h9)
 ·rfl
theorem b2O(X:Nat->Prop)(l:List UInt8)(hl:l.length<=1073741824) :
  a0b (E0 X) 185 [.sl 1 (l.map u8A)] [] (fun r H'=>r=b0Y (a5l 0 l)/\H'=[]):=by
 refine Z0 Proofs.Tryz.func185 rfl Proofs.Tryz.ntmps185 (by kernel_rfl) rfl ?_
 repeat' (first|refine Zs rfl ?_|refine Zc rfl ?_|refine Qa rfl ?_)
 refine Cn rfl (b2P X 0 (by decide) l hl) rfl rfl ?_
 repeat' (first|refine Zs rfl ?_|refine Zh ?_|refine Qs ?_)
 refine a0c ⟨_,rfl,?_,?_⟩
 ·rfl
 ·rfl
theorem a9h(l:List UInt8):HOk 1 [some (.arr (l.map u8A) 5)]:=fun j o ho=>by
 match j,ho with
 | 0,ho=>cases ho;exact a0h fun _=>a0k
theorem b5q(X:Nat->Prop)(a b:List UInt8):a0b (E0 X) 148 [.sl 1 (a.map u8A),.sl 1 (b.map u8A)] [] (fun r H'=>r=.bool (decide (a=b))/\H'=[]):=by
 refine Z0 Proofs.Tryz.func148 rfl Proofs.Tryz.ntmps148 (by kernel_rfl) rfl ?_
 repeat' (first|refine Zs rfl ?_|refine Zc rfl ?_|refine Qa rfl ?_)
 refine a4u (l:=a) rfl rfl rfl rfl rfl rfl rfl ?_
 refine nx rfl rfl ?_
 repeat' (first|refine Zs rfl ?_|refine Qa rfl ?_)
 refine a4u (l:=b) rfl rfl rfl rfl rfl rfl rfl ?_
 refine nx rfl rfl ?_
 repeat' (first|refine Zs rfl ?_|refine Zh ?_|refine Qs ?_)
 refine a0c ⟨_,rfl,?_,?_⟩
 ·rfl
 ·rfl
theorem c3T(X:Nat->Prop)(n:Nat)(h0:0<n)(hn:n<=1073741824):a0b (E0 X) 217 [.nils,.int .i64 n] [] (fun r H'=>r=.own 0 0 0/\H'=[some (.arr ((([]:List UInt8)).map u8A) 5)]):=by
 refine Z0 Proofs.Tryz.func217 rfl Proofs.Tryz.ntmps217 (by kernel_rfl) rfl ?_
 repeat' (first|refine Zs rfl ?_|refine Zc rfl ?_|refine Qa rfl ?_)
 refine a8J rfl rfl rfl ?_
 refine nx rfl rfl ?_
 repeat' (first|refine Zs rfl ?_|refine Zc rfl ?_|refine Zh ?_|refine Qs ?_)
 have hw:IntKind.i64.wrap ((n:Int) - 0)=(n:Int):=a0x (by omega) (by omega) (by omega)
 have hw2:IntKind.i64.wrap ((n:Int) - IntKind.i64.wrap (0 - ((0:Nat):Int)))=(n:Int):=by
  rw [show IntKind.i64.wrap (0 - ((0:Nat):Int))=0 from rfl];exact hw
 rw [hw2]
 refine a0g rfl (fun h8=>?_) (fun h8=>?_)
 ·repeat' (first|refine Zs rfl ?_|refine Zc rfl ?_|refine Qa rfl ?_)
  refine a8J rfl rfl rfl ?_
  refine nx rfl rfl ?_
  repeat' (refine Qa rfl ?_)
  refine b0W rfl rfl rfl rfl (a1u) (a0q rfl rfl) ?_
  refine nx rfl rfl ?_
  repeat' (first|refine Zs rfl ?_|refine Qa rfl ?_)
  refine b2k (n:=n) rfl h0 hn rfl rfl rfl rfl rfl rfl rfl rfl rfl rfl ?_
  refine nx rfl rfl ?_
  repeat' (first|refine Zs rfl ?_|refine Qa rfl ?_)
  refine a6R (l:=0) (h:=0) (lo':=0) (n':=0) (a1u) (a0q rfl rfl) (by omega) (by first|omega|(simp;omega)) (by omega) (by omega) rfl rfl rfl rfl rfl rfl rfl ?_
  refine nx rfl rfl ?_
  repeat' (first|refine Zs rfl ?_|refine Zc rfl ?_|refine Zh ?_|refine Qs ?_)
  refine a0t (b4w (id:=0) (n:=0) (es:=List.replicate n (u8A 0)) (e:=5) rfl) ?_
  refine a0c ⟨_,rfl,?_,?_⟩
  ·rfl
  ·simp
 ·omega
def c0Q(kind salt sector:Int):Bool:=decide (1<=kind/\kind<=4/\0<=salt/\0<=sector/\sector<1048576)
theorem b4B(X:Nat->Prop)(kind salt sector:Int):a0b (E0 X) 201 [.int .i64 kind,.int .i64 salt,.int .i64 sector] [] (fun r H'=>r=.bool (c0Q kind salt sector)/\H'=[]):=by
 refine Z0 Proofs.Tryz.func201 rfl Proofs.Tryz.ntmps201 (by kernel_rfl) rfl ?_
 repeat' (first|refine Zs rfl ?_|refine Zc rfl ?_|refine Zh ?_|refine Qs ?_|((fail_if_success refine QV rfl ?_);refine Qy rfl rfl (fun _=>?_) (fun _=>?_)))
 all_goals (refine a0c ?_;refine ⟨_,rfl,?_,rfl⟩;simp [c0Q,a0R,one, *])
def a6A(l:List UInt8):AV:=.sl 1 (l.map u8A)
@[simp] theorem b2j{n:Nat}{l:List UInt8}:a0d n (a6A l):=a0h fun _=>a0k
theorem b3j{ls:List (List UInt8)}{i:Nat}{q:List UInt8}(h:ls[i]?=some q):(ls.take (i+1)).flatten.length=(ls.take i).flatten.length+q.length:=by
 rw [List.take_add_one,h];simp
theorem c0P(ls:List (List UInt8))(i:Nat):(ls.take i).flatten.length<=ls.flatten.length:=by
 have h:ls.flatten=(ls.take i).flatten++(ls.drop i).flatten:=by rw [<- List.flatten_append,List.take_append_drop]
 rw [h];simp
theorem b4l(X:Nat->Prop)(ls:List (List UInt8))(h0:0<ls.flatten.length)(hn:ls.flatten.length<=1048576)(hl:ls.length<=1048576) :
  a0b (E0 X) 186 [.sl 1 (ls.map a6A)] [] (fun r H'=>r=.own 0 0 ls.flatten.length/\H'=[some (.arr (ls.flatten.map u8A) 5)]):=by
 refine Z0 Proofs.Tryz.func186 rfl Proofs.Tryz.ntmps186 (by kernel_rfl) rfl ?_
 repeat' (first|refine Zs rfl ?_|refine Zc rfl ?_)
 refine a0s (fun i:Nat=>⟨[(0,.sl 1 (ls.map a6A)),(3,.int .i64 ((ls.take i).flatten.length:Int)),(9,.sl 1 (ls.map a6A)),(10,.int .i64 (ls.length:Int)),(11,.int .i64 (i:Int))],[]⟩) (fun i=>i<=ls.length) (fun i=>ls.length - i) 0 (Nat.zero_le _) ?_ ?_
 ·refine a0j 0 (Nat.zero_le _) a0X rfl (by simp [b2j]) ?_
  repeat' (first|exact a0l|refine a0a ⟨?_,?_⟩ ?_)
  all_goals (try first|exact rfl|exact trivial|(simp [a0d,a0e];done)|(simp [a0R];done))
 rintro i hi
 repeat' (first|refine Zs rfl ?_|refine Zc rfl ?_)
 refine a0g rfl (fun h3=>?_) (fun h3=>?_)
 ·have hi3:i<ls.length:=by omega
  obtain ⟨q,hq⟩:∃q,ls[i]?=some q:=⟨_,List.getElem?_eq_getElem hi3⟩
  have hs:=b3j hq
  have hle:=c0P ls (i+1)
  have hw:IntKind.i64.wrap (((ls.take i).flatten.length:Int)+((q.map u8A).length:Int))=((ls.take (i+1)).flatten.length:Int):=a0x (by rw [hs];simp) (by omega) (by omega)
  repeat' (first|refine Zc rfl ?_|refine Qa rfl ?_)
  refine a0C hq rfl rfl rfl rfl rfl rfl rfl (by first|rfl|omega) rfl ?_
  refine nx rfl rfl ?_
  repeat' (first|refine Zs rfl ?_|refine Zc rfl ?_|refine Zh ?_|refine Qs ?_)
  rw [hw]
  refine a0I rfl (fun h9=>?_) (fun _=>?_)
  ·simp at h9;omega
  repeat' (first|refine Zs rfl ?_|refine Zc rfl ?_|refine Zh ?_|refine Qs ?_)
  refine ⟨i+1,by omega,by omega,a0j 0 (Nat.zero_le _) a0X rfl (by simp) ?_⟩
  repeat' (first|exact a0l|refine a0a ⟨?_,?_⟩ ?_)
  all_goals (try first|exact rfl|exact trivial|(simp [a0d,a0e];done)|(refine congrArg (AV.int .i64) (a0x ?_ ?_ ?_)<;>(first|omega|(simp;omega))))
 have hi3:i=ls.length:=by omega
 subst hi3
 rw [List.take_length]
 repeat' (first|refine Zs rfl ?_|refine Zc rfl ?_|refine Qa rfl ?_)
 refine Cn rfl (c3T X _ h0 (by omega)) rfl rfl ?_
 repeat' (first|refine Zs rfl ?_|refine Zc rfl ?_)
 refine a0s (fun i:Nat=>⟨[(6,.own 0 0 (ls.take i).flatten.length),(25,.sl 1 (ls.map a6A)),(26,.int .i64 (ls.length:Int)),(27,.int .i64 (i:Int))],[some (.arr ((ls.take i).flatten.map u8A) 5)]⟩) (fun i=>i<=ls.length) (fun i=>ls.length - i) 0 (Nat.zero_le _) ?_ ?_
 ·refine a0j 1 (Nat.zero_le _) (a9h _) rfl (by simp) ?_
  repeat' (first|exact a0l|refine a0a ⟨?_,?_⟩ ?_)
  all_goals (try first|exact rfl|exact trivial|(simp [a0d,a0e];done)|(simp [a0R];done))
 rintro i hi
 repeat' (first|refine Zs rfl ?_|refine Zc rfl ?_)
 refine a0g rfl (fun h4=>?_) (fun h4=>?_)
 ·have hi4:i<ls.length:=by omega
  obtain ⟨q,hq⟩:∃q,ls[i]?=some q:=⟨_,List.getElem?_eq_getElem hi4⟩
  have hs:=b3j hq
  have hle:=c0P ls (i+1)
  repeat' (first|refine Zc rfl ?_|refine Qa rfl ?_)
  refine a0C hq rfl rfl rfl rfl rfl rfl rfl (by first|rfl|omega) rfl ?_
  refine nx rfl rfl ?_
  repeat' (first|refine Zs rfl ?_|refine Zc rfl ?_|refine Qa rfl ?_)
  refine a0V (oid:=some 0) (es:=(ls.take i).flatten.map u8A) (out:=(ls.take (i+1)).flatten.map u8A) (n:=(ls.take (i+1)).flatten.length) (a0M rfl (List.length_map _).symm) (rfl) (a0P _) (by rw [List.take_add_one,hq];simp) (by rw [hs,List.length_map,List.length_map]) (by show _<=9223372036854775807;omega) (by show _*1<=_;omega) rfl rfl rfl rfl rfl rfl rfl rfl ?_
  refine nx rfl rfl ?_
  repeat' (first|refine Zs rfl ?_|refine Zc rfl ?_|refine Zh ?_|refine Qs ?_)
  refine ⟨i+1,by omega,by omega,?_⟩
  refine a0S 0 [1] (H':=[some (.arr ((ls.take (i+1)).flatten.map u8A) 5)]) (os:=[.arr ((ls.take (i+1)).flatten.map u8A) 5]) (Nat.le_refl _) (Nat.zero_le _) (by simp) (by simp) (by simp [HOk]) rfl rfl ?_ ?_
  ·refine a0a (a0L rfl) (a0a (a0v rfl (a0h fun _=>b2j)) (a0a (a0v rfl trivial) (a0a (a0v ?_ trivial) a0l)))
   exact congrArg (AV.int .i64) (a0x (by omega) (by omega) (by omega))
  ·exact a0E rfl (a0A 0 (fun i h=>absurd h (Nat.not_lt_zero i)) (a0h fun _=>a0k)) a0T
 have hi4:i=ls.length:=by omega
 subst hi4
 rw [List.take_length]
 repeat' (first|refine Zs rfl ?_|refine Zc rfl ?_|refine Zh ?_|refine Qs ?_)
 refine a0c ⟨_,rfl,?_,?_⟩
 ·rfl
 ·rfl
theorem a8Y(X:Nat->Prop)(ls:List (List UInt8))(h0:0<ls.flatten.length)(hn:ls.flatten.length<=1048576)(hl:ls.length<=1048576) :
  a0b (E0 X) 186 [.sl 1 (ls.map a6A)] [] (fun r H'=>r=.sl 1 (ls.flatten.map u8A)/\H'=[]) :=
 a0b.froz 1 (b4l X ls h0 hn hl) (List.length_map _).symm rfl rfl a0X (a0h fun _=>a0k)
def a0i(n s:Nat):UInt8:=UInt8.ofNat (n / 2 ^ s%256)
def a9x(n w i:Nat):List UInt8:=(List.range i).map fun j=>a0i n (8*(w - 1 - j))
def a0Y(b:List UInt8)(n w:Nat):List UInt8:=b++a9x n w w
theorem a5I(n w i:Nat):(a9x n w i).length=i:=by simp [a9x]
theorem b0z(n w i:Nat):a9x n w (i+1)=a9x n w i++[a0i n (8*(w - 1 - i))]:=by simp [a9x,List.range_succ]
theorem a0D(b:List UInt8)(n w:Nat):(a0Y b n w).length=b.length+w:=by simp [a0Y,a5I]
theorem b0i(n s:Nat)(hs:s<=64):AV.int .u8 (IntKind.u8.wrap ((n:Int).fdiv (2 ^ (min ((s:Nat):Int).toNat IntKind.u64.bits))))=u8A (a0i n s):=by
 have h:(2:Int) ^ (min ((s:Nat):Int).toNat IntKind.u64.bits)=((2 ^ s:Nat):Int):=by
  have:min ((s:Nat):Int).toNat IntKind.u64.bits=s:=by simp [IntKind.bits];omega
  rw [this];simp
 have h2:(n:Int).fdiv ((2 ^ s:Nat):Int)=((n / 2 ^ s:Nat):Int):=by
  rw [Int.fdiv_eq_ediv_of_nonneg _ (Int.natCast_nonneg _)];exact (Int.natCast_ediv n (2 ^ s)).symm
 have h3:IntKind.u8.wrap ((n / 2 ^ s:Nat):Int)=((n / 2 ^ s%256:Nat):Int):=by
  simp [IntKind.wrap,IntKind.signed,IntKind.bits]
 rw [h,h2,h3]
 simp only [u8A,a0i]
 congr 1
 rw [UInt8.toNat_ofNat']
 omega
theorem b7g(X:Nat->Prop)(b:List UInt8)(n w:Nat)(hw:1<=w)(hw8:w<=8)(hb:b.length<=1048576) :
  a0b (E0 X) 180 [.sl 1 (b.map u8A),.int .u64 (n:Int),.int .i64 (w:Int)] [] (fun r H'=>r=.own 0 0 (b.length+w)/\H'=[some (.arr ((a0Y b n w).map u8A) 5)]):=by
 refine Z0 Proofs.Tryz.func180 rfl Proofs.Tryz.ntmps180 (by kernel_rfl) rfl ?_
 repeat' (first|refine Zs rfl ?_|refine Zc rfl ?_|refine Qa rfl ?_)
 refine Cn rfl (a4D X b (by omega)) rfl rfl ?_
 repeat' (first|refine Zs rfl ?_|refine Zc rfl ?_|refine Zh ?_|refine Qs ?_|((fail_if_success refine QV rfl ?_);refine Qy rfl rfl (fun _=>?_) (fun _=>?_)))
 ·omega
 rename_i h1
 refine a0g rfl (fun h2=>?_) (fun h2=>?_)
 ·omega
 have e1:IntKind.i64.wrap (8*IntKind.i64.wrap ((w:Int) - 1))=8*((w:Int) - 1 - 0):=by
  have h3:IntKind.i64.wrap ((w:Int) - 1)=(w:Int) - 1:=a0r (by omega) (by omega)
  rw [h3,a0r (by omega) (by omega)];omega
 repeat' (first|refine Zs rfl ?_|refine Zc rfl ?_)
 rw [e1]
 refine a0s (fun i:Nat=>⟨[(1,.int .u64 (n:Int)),(7,.own 0 0 (b.length+i)),(8,.int .i64 (8*((w:Int) - 1 - (i:Int))))],[some (.arr ((b++a9x n w i).map u8A) 5)]⟩) (fun i=>i<=w) (fun i=>w - i) 0 (Nat.zero_le _) ?_ ?_
 ·refine a0j 1 (Nat.zero_le _) (a9h _) (by simp [a9x]) (by simp) ?_
  repeat' (first|exact a0l|refine a0a ⟨?_,?_⟩ ?_)
  all_goals (try first|exact rfl|exact trivial|(simp [a0d,a0e];done))
 rintro i hi
 repeat' (first|refine Zs rfl ?_|refine Zc rfl ?_|refine Zh ?_|refine Qs ?_)
 refine a0g rfl (fun h3=>?_) (fun h3=>?_)
 ·have hi3:i<w:=by omega
  have hsh:8*((w:Int) - 1 - (i:Int))=((8*(w - 1 - i):Nat):Int):=by omega
  rw [hsh]
  repeat' (first|refine Zs rfl ?_|refine Zc rfl ?_|refine Qa rfl ?_)
  refine a8g rfl rfl (by omega) ?_
  refine nx rfl rfl ?_
  repeat' (first|refine Zs rfl ?_|refine Qa rfl ?_)
  rw [b0i n _ (by omega)]
  refine a0V (oid:=some 0) (es:=(b++a9x n w i).map u8A) (out:=(b++a9x n w (i+1)).map u8A) (n:=b.length+(i+1)) (a0M rfl (by simp [a5I])) (rfl) (a0P [a0i n (8*(w - 1 - i))]) (by rw [b0z];simp) (by simp [a5I];omega) (by show _<=9223372036854775807;omega) (by show _*1<=_;omega) rfl rfl rfl rfl rfl rfl rfl rfl ?_
  refine nx rfl rfl ?_
  repeat' (first|refine Zs rfl ?_|refine Zc rfl ?_|refine Zh ?_|refine Qs ?_)
  refine ⟨i+1,by omega,by omega,?_⟩
  refine a0S 0 [1] (H':=[some (.arr ((b++a9x n w (i+1)).map u8A) 5)]) (os:=[.arr ((b++a9x n w (i+1)).map u8A) 5]) (Nat.le_refl _) (Nat.zero_le _) (by simp) (by simp) (by simp [HOk]) rfl rfl ?_ ?_
  ·refine a0a (a0v rfl trivial) (a0a (a0L rfl) (a0a (a0v ?_ trivial) a0l))
   exact congrArg (AV.int .i64) (a0x (by omega) (by omega) (by omega))
  ·exact a0E rfl (a0A 0 (fun i h=>absurd h (Nat.not_lt_zero i)) (a0h fun _=>a0k)) a0T
 have hi3:i=w:=by omega
 subst hi3
 repeat' (first|refine Zs rfl ?_|refine Zc rfl ?_|refine Zh ?_|refine Qs ?_)
 refine a0c ⟨_,rfl,?_,?_⟩
 ·rfl
 ·rfl
theorem b9J(X:Nat->Prop)(b:List UInt8)(n w:Nat)(hw:1<=w)(hw8:w<=8)(hb:b.length<=1048576) :
  a0b (E0 X) 180 [.sl 1 (b.map u8A),.int .u64 (n:Int),.int .i64 (w:Int)] [] (fun r H'=>r=.sl 1 ((a0Y b n w).map u8A)/\H'=[]) :=
 a0b.froz 1 (b7g X b n w hw hw8 hb) (by rw [List.length_map,a0D]) rfl rfl a0X (a0h fun _=>a0k)
theorem a2P{E:Env}{m:Mu}{w:World}{v:Value}(k:Nat)(h:E.Rel m w .nils v):E.Rel m w (.sl k []) v:=by
 simp only [Env.Rel,Abs.Rel] at h ⊢
 subst h
 exact ⟨none,0,[],rfl,Nat.le_refl _,Nat.zero_le _,by simp [Abs.RelL],by simp,by simp [Fz,flat]⟩
theorem a0b.weak{E:Env}{f:FuncId}{args args':List AV}{H:Hp}{R:AV->Hp->Prop}(h:a0b E f args' H R)(hw:∀m w vs,E.RelL m w args vs->E.RelL m w args' vs):a0b E f args H R :=
 ⟨h.1,fun m w vs h1 h2 h3 h4=>h.2 m w vs h1 h2 (hw m w vs h3) h4⟩
theorem b9K(X:Nat->Prop)(n w:Nat)(hw:1<=w)(hw8:w<=8) :
  a0b (E0 X) 180 [.nils,.int .u64 (n:Int),.int .i64 (w:Int)] [] (fun r H'=>r=.sl 1 ((a0Y [] n w).map u8A)/\H'=[]) :=
 a0b.weak (b9J X [] n w hw hw8 (by simp)) fun m w vs h=>by
  obtain ⟨u1,r1,rfl,h1,h⟩:=a0o.1 h
  exact RelL.cons (a2P 1 h1) h
theorem a1s(k:Nat):AV.int .u8 (IntKind.u8.wrap (k:Int))=u8A (UInt8.ofNat (k%256)):=by
 have h3:IntKind.u8.wrap (k:Int)=((k%256:Nat):Int):=by
  simp [IntKind.wrap,IntKind.signed,IntKind.bits]
 rw [h3]
 simp only [u8A]
 congr 1
 rw [UInt8.toNat_ofNat']
 omega
theorem wrap64{n:Nat}(h:n<18446744073709551616):IntKind.u64.wrap (n:Int)=n:=by
 simp [IntKind.wrap,IntKind.signed,IntKind.bits]
 omega
def frB(kind:Nat)(p:List UInt8):List UInt8:=UInt8.ofNat (kind%256)::(p++List.replicate (59 - p.length) 0)
def c3S(salt sector:Nat)(b:List UInt8):Nat:=a5l (a5l 0 (a0Y (a0Y [] salt 8) sector 4)) b
def a3C(kind salt sector:Nat)(p:List UInt8):List UInt8:=a0Y (frB kind p) (c3S salt sector (frB kind p)) 4
theorem b1z{kind:Nat}{p:List UInt8}(hp:p.length<=59):(frB kind p).length=60:=by simp [frB];omega
theorem a2M{kind salt sector:Nat}{p:List UInt8}(hp:p.length<=59):(a3C kind salt sector p).length=64:=by rw [a3C,a0D,b1z hp]
theorem b0s(X:Nat->Prop)(kind salt sector:Nat)(p:List UInt8)(hm:1<=kind/\kind<=4/\sector<1048576)(hs:salt<9223372036854775808)(hp:p.length<=59) :
  a0b (E0 X) 174 [.int .i64 (kind:Int),.int .i64 (salt:Int),.int .i64 (sector:Int),.sl 1 (p.map u8A)] [] (fun r H'=>r=.tup [.sl 1 ((a3C kind salt sector p).map u8A),.int .i64 0]/\H'=[]):=by
 have hmay:c0Q (kind:Int) (salt:Int) (sector:Int)=true:=by simp [c0Q];omega
 have hpos:=b4B X kind salt sector
 rw [hmay] at hpos
 have hcc:=a8Y X [[UInt8.ofNat (kind%256)],p,List.replicate (59 - p.length) 0] (by simp) (by simp;omega) (by simp)
 rw [show [[UInt8.ofNat (kind%256)],p,List.replicate (59 - p.length) 0].flatten=frB kind p by simp [frB]] at hcc
 have hmk:IntKind.i64.wrap (59 - ((p.map u8A).length:Int))=((59 - p.length:Nat):Int):=by rw [List.length_map];exact a0x (by omega) (by omega) (by omega)
 have hbl:=b1z (kind:=kind) hp
 refine Z0 Proofs.Tryz.func174 rfl Proofs.Tryz.ntmps174 (by kernel_rfl) rfl ?_
 repeat' (first|refine Zs rfl ?_|refine Zc rfl ?_|refine Qa rfl ?_)
 refine Cn rfl (hpos) rfl rfl ?_
 repeat' (first|refine Zs rfl ?_|refine Zc rfl ?_|refine Zh ?_|refine Qs ?_)
 refine a0g rfl (fun h9=>?_) (fun h9=>?_)
 ·exfalso;simp at h9;omega
 repeat' (first|refine Zs rfl ?_|refine Zc rfl ?_|refine Qa rfl ?_)
 rw [a1s]
 refine c1d (n:=59 - p.length) (el:=u8A 0) rfl rfl (hmk) (hmk) ?_ ?_ rfl rfl rfl rfl rfl rfl (.inr rfl) (.inr rfl) rfl rfl ?_
 ·show 1 * _<=281474976710656
  omega
 ·show _<=9223372036854775807
  omega
 refine nx rfl rfl ?_
 rw [show List.replicate (59 - p.length) (u8A 0)=(List.replicate (59 - p.length) (0:UInt8)).map u8A by simp]
 repeat' (first|refine Zs rfl ?_|refine Qa rfl ?_)
 refine Cn rfl (hcc) rfl rfl ?_
 generalize hfb:frB kind p=b at *
 repeat' (first|refine Zs rfl ?_|refine Zc rfl ?_|refine Qa rfl ?_)
 rw [wrap64 (by omega)]
 refine Cn rfl (b9K X salt 8 (by decide) (by decide)) rfl rfl ?_
 repeat' (first|refine Zs rfl ?_|refine Qa rfl ?_)
 rw [wrap64 (by omega)]
 refine Cn rfl (b9J X (a0Y [] salt 8) sector 4 (by decide) (by decide) (by rw [a0D];simp)) rfl rfl ?_
 repeat' (first|refine Zs rfl ?_|refine Zc rfl ?_|refine Qa rfl ?_)
 refine Cn rfl (b2O X (a0Y (a0Y [] salt 8) sector 4) (by rw [a0D,a0D];simp)) rfl rfl ?_
 repeat' (first|refine Zs rfl ?_|refine Qa rfl ?_)
 refine Cn rfl (b2P X (a5l 0 (a0Y (a0Y [] salt 8) sector 4)) (a6B (by decide) _) b (by omega)) rfl rfl ?_
 have hlt:a5l (a5l 0 (a0Y (a0Y [] salt 8) sector 4)) b<4294967296:=a6B (a6B (by decide) _) _
 repeat' (first|refine Zs rfl ?_|refine Zc rfl ?_|refine Qa rfl ?_)
 rw [wrap64 (by omega)]
 refine Cn rfl (b9J X b (a5l (a5l 0 (a0Y (a0Y [] salt 8) sector 4)) b) 4 (by decide) (by decide) (by omega)) rfl rfl ?_
 repeat' (first|refine Zs rfl ?_|refine Zh ?_|refine Qs ?_)
 refine a0c ⟨_,rfl,?_,?_⟩
 ·rw [a3C,hfb];rfl
 ·rfl
def a2A(kind salt sector:Nat)(b:List UInt8):Option (List UInt8) :=
 if b.length=64/\a3C kind salt sector ((b.drop 1).take 59)=b then some ((b.drop 1).take 59) else none
def c6i(o:Option (List UInt8)):AV:=match o with
 | some p=>.tup [.sl 1 (p.map u8A),.bool true]
 | none=>.tup [.nils,.bool false]
theorem b2U(X:Nat->Prop)(kind salt sector:Nat)(b:List UInt8)(hm:1<=kind/\kind<=4/\sector<1048576)(hs:salt<9223372036854775808)(hb:b.length<=1048576) :
  a0b (E0 X) 129 [.int .i64 (kind:Int),.int .i64 (salt:Int),.int .i64 (sector:Int),.sl 1 (b.map u8A)] [] (fun r H'=>r=c6i (a2A kind salt sector b)/\H'=[]):=by
 refine Z0 Proofs.Tryz.func129 rfl Proofs.Tryz.ntmps129 (by kernel_rfl) rfl ?_
 repeat' (first|refine Zs rfl ?_|refine Zc rfl ?_|refine Zh ?_|refine Qs ?_)
 refine a0g rfl (fun h1=>?_) (fun h1=>?_)
 ·have h2:¬ b.length=64:=by rw [List.length_map] at h1;omega
  repeat' (first|refine Zs rfl ?_|refine Zc rfl ?_|refine Zh ?_|refine Qs ?_)
  refine a0c ⟨_,rfl,?_,?_⟩
  ·simp only [a2A];rw [if_neg (fun h=>h2 h.1)];rfl
  ·rfl
 have h2:b.length=64:=by rw [List.length_map] at h1;omega
 repeat' (first|refine Zs rfl ?_|refine Zc rfl ?_|refine Qa rfl ?_)
 refine a1f (l:=1) (h:=60) (ys:=(b.drop 1).take 59) (a0q rfl rfl) (a0q rfl rfl) (by omega) (by omega) (by rw [List.drop_take]) rfl rfl rfl rfl rfl ?_
 refine nx rfl rfl ?_
 have hpl:((b.drop 1).take 59).length=59:=by simp;omega
 have hcl:a0b (E0 X) 45 [.sl 1 (((b.drop 1).take 59).map u8A)] [] (fun r H'=>r=.sl 1 (((b.drop 1).take 59).map u8A)/\H'=[]):=a0b.froz 1 (a4D X ((b.drop 1).take 59) (by omega)) (List.length_map _).symm rfl rfl a0X (a0h fun _=>a0k)
 have hd:a2A kind salt sector b=if a3C kind salt sector ((b.drop 1).take 59)=b then some ((b.drop 1).take 59) else none:=by simp only [a2A,h2,true_and]
 rw [hd]
 generalize (b.drop 1).take 59=p at *
 repeat' (refine Qa rfl ?_)
 refine Cn rfl (hcl) rfl rfl ?_
 repeat' (first|refine Zs rfl ?_|refine Zc rfl ?_|refine Qa rfl ?_)
 refine Cn rfl (b0s X kind salt sector p hm hs (by omega)) rfl rfl ?_
 repeat' (first|refine Zs rfl ?_|refine Zc rfl ?_|refine Qa rfl ?_)
 refine Cn rfl (b5q X (a3C kind salt sector p) b) rfl rfl ?_
 repeat' (first|refine Zs rfl ?_|refine Zh ?_|refine Qs ?_)
 refine a0I rfl (fun h9=>?_) (fun h9=>?_)
 ·have h8:¬ a3C kind salt sector p=b:=by simpa using h9
  repeat' (first|refine Zs rfl ?_|refine Zc rfl ?_|refine Zh ?_|refine Qs ?_)
  refine a0c ⟨_,rfl,?_,?_⟩
  ·rw [if_neg h8];rfl
  ·rfl
 have h8:a3C kind salt sector p=b:=by simpa using h9
 repeat' (first|refine Zs rfl ?_|refine Zc rfl ?_|refine Zh ?_|refine Qs ?_)
 refine a0c ⟨_,rfl,?_,?_⟩
 ·rw [if_pos h8];rfl
 ·rfl
theorem a0b.cut0{E:Env}{f:FuncId}{args:List AV}{v:AV}(h:a0b E f args [] (fun r _=>r=v))(hv:a0d 0 v):a0b E f args [] (fun r H'=>r=v/\H'=[]) :=
 h.imp fun r H' e=>⟨v,[],⟨rfl,rfl⟩,by subst e;exact kk 0 a0X rfl ⟨hv,trivial⟩⟩
structure La where
 id:Int
 ver:Int
 rs:Int
 regs:Int
def laL(l:La):List AV:=[.int .i64 l.id,.int .i64 l.ver,.int .i64 l.rs,.int .i64 l.regs]
def laA(l:La):AV:=.agg (laL l)
@[simp] theorem a1g{n:Nat}{l:La}:a0d n (laA l):=⟨trivial,trivial,trivial,trivial,trivial⟩
structure Pl where
 kind:Int
 mig:Int
 idx:Int
 tail:Int
 t:La
def plA(p:Pl):AV:=.agg [.int .i64 p.kind,.int .i64 p.mig,.int .i64 p.idx,.int .i64 p.tail,.int .i64 p.t.id,.int .i64 p.t.ver,.int .i64 p.t.rs,.int .i64 p.t.regs]
@[simp] theorem a3b{n:Nat}{p:Pl}:a0d n (plA p):=⟨trivial,trivial,trivial,trivial,trivial,trivial,trivial,trivial,trivial⟩
def a1a(l:La):Bool:=decide (1<=l.id)&&(decide (l.id<=4294967295)&&((decide (l.ver=1) || decide (l.ver=2))&&(decide (2<=l.rs)&&(decide (l.rs<=2048)&&(decide (a2H .and .i64 l.rs (IntKind.i64.wrap (l.rs - 1))=0)&&(decide (4<=l.regs)&&decide (l.regs<=16)))))))
def a1P(p:Pl):Bool:=!decide (p.mig<1)&&(!decide (4294967295<p.mig)&&(!decide (p.tail<0)&&(!decide (281474976710655<p.tail)&&(a1a p.t&&((decide (p.kind=1)&&decide (p.idx=0)) || (decide (p.kind=2)&&(decide (1<=p.idx)&&decide (p.idx<36))))))))
theorem a6H(X:Nat->Prop)(l:La):a0b (E0 X) 109 [laA l] [] (fun r H'=>r=.bool (a1a l)/\H'=[]):=by
 refine a0b.cut0 ?_ trivial
 refine Z0 Proofs.Tryz.func109 rfl Proofs.Tryz.ntmps109 (by kernel_rfl) rfl ?_
 repeat' (first|refine Zs rfl ?_|refine Zc rfl ?_|refine Zh ?_|refine Qs ?_|((fail_if_success refine QV rfl ?_);refine Qy rfl rfl (fun _=>?_) (fun _=>?_)))
 all_goals (refine a0c ?_;refine ⟨_,rfl,?_⟩;simp [a1a,a0R,one, *])
theorem b2w(X:Nat->Prop)(p:Pl):a0b (E0 X) 188 [plA p] [] (fun r H'=>r=.bool (a1P p)/\H'=[]):=by
 refine a0b.cut0 ?_ trivial
 refine Z0 Proofs.Tryz.func188 rfl Proofs.Tryz.ntmps188 (by kernel_rfl) rfl ?_
 repeat' (first|refine Zs rfl ?_|refine Zc rfl ?_|refine Zh ?_|refine Qa rfl ?_|refine Qs ?_|((fail_if_success refine QV rfl ?_);refine Qy rfl rfl (fun _=>?_) (fun _=>?_)))
 any_goals (refine a0c ?_;refine ⟨_,rfl,?_⟩;simp [a1P,a0R,one, *];done)
 refine Cn rfl (a0f (E:=E0 X) (fun X=>a6H X p.t) (by simp [a0e,a0d]) _) rfl rfl ?_
 cases hf:a1a p.t with
 | false =>
  repeat' (first|refine Zs rfl ?_|refine Zc rfl ?_|refine Zh ?_|refine Qs ?_)
  refine a0c ⟨_,rfl,?_⟩
  simp [a1P,a0R,one, *]
 | true =>
  repeat' (first|refine Zs rfl ?_|refine Zc rfl ?_|refine Zh ?_|refine Qs ?_|((fail_if_success refine QV rfl ?_);refine Qy rfl rfl (fun _=>?_) (fun _=>?_)))
  all_goals (refine a0c ?_;refine ⟨_,rfl,?_⟩;first|(simp [a1P,a0R,one, *];done)|(exfalso;omega))
def a6W(mig idx:Int):Int:=if mig<1\/idx<0\/36<=idx then -1 else 2+(mig+1)%2*36+idx
theorem b9Z{mig idx:Int}(h1:1<=mig)(h2:mig<=9223372036854775807)(h3:0<=idx)(h4:idx<36) :
  IntKind.i64.wrap (IntKind.i64.wrap (2+IntKind.i64.wrap ((IntKind.i64.wrap (mig+1)).tmod 2*36))+idx)=2+(mig+1)%2*36+idx:=by
 have h5:(IntKind.i64.wrap (mig+1)).tmod 2=(mig+1)%2:=by
  rcases Int.lt_or_eq_of_le h2 with h6|h6
  ·rw [a0r (by omega) (by omega),Int.tmod_eq_emod_of_nonneg (by omega)]
  ·subst h6;rfl
 have h7:0<=(mig+1)%2/\(mig+1)%2<2:=by omega
 rw [h5]
 generalize (mig+1)%2=z at *
 have h8:IntKind.i64.wrap (z*36)=z*36:=a0r (by omega) (by omega)
 rw [h8]
 have h9:IntKind.i64.wrap (2+z*36)=2+z*36:=a0r (by omega) (by omega)
 rw [h9]
 exact a0r (by omega) (by omega)
theorem c0a(X:Nat->Prop)(mig idx:Int)(hm:mig<=9223372036854775807):a0b (E0 X) 110 [.int .i64 mig,.int .i64 idx] [] (fun r H'=>r=.int .i64 (a6W mig idx)/\H'=[]):=by
 refine Z0 Proofs.Tryz.func110 rfl Proofs.Tryz.ntmps110 (by kernel_rfl) rfl ?_
 repeat' (first|refine Zs rfl ?_|refine Zc rfl ?_|refine Zh ?_|refine Qs ?_|((fail_if_success refine QV rfl ?_);refine Qy rfl rfl (fun _=>?_) (fun _=>?_)))
 ·rename_i h1
  refine a0c ⟨_,rfl,?_,?_⟩
  ·simp [a6W,h1]<;>rfl
  ·rfl
 ·rename_i h1 h2
  refine a0c ⟨_,rfl,?_,?_⟩
  ·simp [a6W,h2]<;>rfl
  ·rfl
 rename_i h1 h2
 refine a0g rfl (fun h3=>?_) (fun h3=>?_)
 ·repeat' (first|refine Zs rfl ?_|refine Zc rfl ?_|refine Zh ?_|refine Qs ?_)
  refine a0c ⟨_,rfl,?_,?_⟩
  ·simp [a6W,h3]<;>rfl
  ·rfl
 skip
 repeat' (first|refine Zs rfl ?_|refine Zc rfl ?_|refine Zh ?_|refine Qs ?_)
 refine a0c ⟨_,rfl,?_,?_⟩
 ·refine congrArg (AV.int .i64) ?_
  rw [a6W,if_neg (by omega)]
  exact b9Z (by omega) hm (by omega) (by omega)
 ·rfl
def len8(j:Nat):Nat:=if j=0 then 0 else Nat.log2 j+1
def b9n:List UInt8:=(List.range 256).map fun j=>UInt8.ofNat (len8 j)
def a4P(x:Nat):Nat:=if 256<=x then 8+len8 (x / 256) else len8 x
theorem b6s{j:Nat}(h:j<256):b9n[j]?=some (UInt8.ofNat (len8 j)):=by simp [b9n,h]
theorem a7L{j:Nat}(h:j<256):len8 j<=8:=by
 have h1:((List.range 256).all fun j=>decide (len8 j<=8))=true:=by kernel_rfl
 have:=List.all_eq_true.1 h1 j (by simpa using h)
 simpa using this
theorem c5m{n:Nat}(h:n<256):IntKind.u8.wrap (n:Int)=n:=by
 simp [IntKind.wrap,IntKind.signed,IntKind.bits]
 omega
theorem c1i{j:Nat}(h:j<256):(UInt8.ofNat (len8 j)).toNat=len8 j:=by
 have:=a7L h
 rw [UInt8.toNat_ofNat'];omega
theorem c6E(c:Nat):(c:Int).fdiv (2 ^ (min (8:Int).toNat IntKind.u64.bits))=((c / 256:Nat):Int):=by
 have h:(2:Int) ^ (min (8:Int).toNat IntKind.u64.bits)=((256:Nat):Int):=by decide
 rw [h,Int.fdiv_eq_ediv_of_nonneg _ (by omega)]
 exact (Int.natCast_ediv c 256).symm
theorem c1V(X:Nat->Prop)(x:Nat)(hx:x<65536):a0b (E0 X) 213 [.int .u64 (x:Int)] [] (fun r H'=>r=.int .i64 (a4P x:Int)/\H'=[]):=by
 refine Z0 Proofs.Tryz.func213 rfl Proofs.Tryz.ntmps213 (by kernel_rfl) rfl ?_
 repeat' (first|refine Zs rfl ?_|refine Zc rfl ?_|refine Zh ?_|refine Qs ?_)
 refine a0g rfl (fun h1=>?_) (fun h1=>?_)
 ·omega
 repeat' (first|refine Zs rfl ?_|refine Zc rfl ?_|refine Zh ?_|refine Qs ?_)
 refine a0g rfl (fun h2=>?_) (fun h2=>?_)
 ·omega
 repeat' (first|refine Zs rfl ?_|refine Zc rfl ?_|refine Zh ?_|refine Qs ?_)
 refine a0g rfl (fun h3=>?_) (fun h3=>?_)
 ·have h4:x / 256<256:=by omega
  repeat' (first|refine Zs rfl ?_|refine Zc rfl ?_|refine Qa rfl ?_)
  refine a8g rfl rfl (by decide) ?_
  refine nx rfl rfl ?_
  rw [c6E]
  repeat' (first|refine Zs rfl ?_|refine Zc rfl ?_|refine Qa rfl ?_)
  rw [c5m h4]
  refine a6P (l:=b9n) (j:=x / 256) rfl rfl (by kernel_rfl) rfl (b6s h4) rfl ?_
  rw [c1i h4]
  refine nx rfl rfl ?_
  repeat' (first|refine Zs rfl ?_|refine Zh ?_|refine Qs ?_)
  refine a0c ⟨_,rfl,?_,?_⟩
  ·have h6:=a7L h4
   refine congrArg (AV.int .i64) ?_
   rw [a4P,if_pos (by omega)]
   have h7:IntKind.i64.wrap ((len8 (x / 256):Nat):Int)=(len8 (x / 256):Nat):=a0r (by omega) (by omega)
   rw [h7]
   exact a0x (by rw [show IntKind.i64.wrap (0+8)=8 from rfl];simp) (by omega) (by omega)
  ·rfl
 have h4:x<256:=by omega
 repeat' (first|refine Zs rfl ?_|refine Zc rfl ?_|refine Qa rfl ?_)
 rw [c5m h4]
 refine a6P (l:=b9n) (j:=x) rfl rfl (by kernel_rfl) rfl (b6s h4) rfl ?_
 rw [c1i h4]
 refine nx rfl rfl ?_
 repeat' (first|refine Zs rfl ?_|refine Zh ?_|refine Qs ?_)
 refine a0c ⟨_,rfl,?_,?_⟩
 ·have h6:=a7L h4
  refine congrArg (AV.int .i64) ?_
  rw [a4P,if_neg (by omega)]
  have h7:IntKind.i64.wrap ((len8 x:Nat):Int)=(len8 x:Nat):=a0r (by omega) (by omega)
  rw [h7]
  exact a0x (by omega) (by omega) (by omega)
 ·rfl
theorem c5L(X:Nat->Prop)(x:Nat)(hx:x<65536):a0b (E0 X) 178 [.int .u64 (x:Int)] [] (fun r H'=>r=.int .i64 (a4P x:Int)/\H'=[]):=by
 refine Z0 Proofs.Tryz.func178 rfl Proofs.Tryz.ntmps178 (by kernel_rfl) rfl ?_
 repeat' (first|refine Zs rfl ?_|refine Zc rfl ?_|refine Qa rfl ?_)
 refine Cn rfl (c1V X x hx) rfl rfl ?_
 repeat' (first|refine Zs rfl ?_|refine Zh ?_|refine Qs ?_)
 refine a0c ⟨_,rfl,?_,?_⟩
 ·rfl
 ·rfl
def c5v(l:La):List UInt8:=[UInt8.ofNat (l.ver.toNat%256),UInt8.ofNat ((a4P l.rs.toNat - 1)%256),UInt8.ofNat (l.regs.toNat%256)]
def a3c(b:List UInt8)(l:La):List UInt8:=a0Y b l.id.toNat 4++c5v l
theorem a1K(b:List UInt8)(l:La):(a3c b l).length=b.length+7:=by simp [a3c,a0D,c5v]
structure c0v(l:La):Prop where
 id:0<=l.id/\l.id<=4294967295
 ver:0<=l.ver/\l.ver<=255
 rs:0<=l.rs/\l.rs<65536
 regs:0<=l.regs/\l.regs<=255
theorem a0b.frz0{E:Env}{f:FuncId}{args:List AV}{es:List AV}{e:TypeId}(k:Nat)(h:a0b E f args [] (fun r H'=>∃id n,r=.own id 0 n/\n=es.length/\H'[id]?=some (some (.arr es e))))(he:Nat.blt e E.n=true)(hk:Nat.beq (E.ti e).sz k=true)(hes:a0e 0 es) :
  a0b E f args [] (fun r H'=>r=.sl k es/\H'=[]) :=
 h.imp fun r H' ⟨id,n,h1,h2,h3⟩=>by
  subst h1;subst h2
  refine ⟨_,_,⟨rfl,rfl⟩,?_⟩
  refine (a0N (id:=id) (k:=k) (es:=es) (e:=e) h3 he hk).trans ?_
  refine a0j 0 (Nat.zero_le _) a0X rfl (Nat.zero_le _) ?_
  refine a0a ⟨?_,hes⟩ a0l
  simp [a0R,frz]
theorem a3X(X:Nat->Prop)(H:Hp)(x:AV)(b:List UInt8)(n w:Nat)(hw:1<=w)(hw8:w<=8)(hb:b.length<=1048576)(hx:a6O (E0 X) H 1 x=some (b.map u8A)) :
  a0b (E0 X) 180 [x,.int .u64 (n:Int),.int .i64 (w:Int)] H (fun r H'=>r=.own H.length 0 (b.length+w)/\H'=H++[some (.arr ((a0Y b n w).map u8A) 5)]):=by
 refine (a1W (E:=E0 X) (P:=fun v H'=>v=.own 0 0 (b.length+w)/\H'=[some (.arr ((a0Y b n w).map u8A) 5)]) (fun X=>b7g X b n w hw hw8 hb) (fun r h' h=>by
  obtain ⟨h1,h2⟩:=h;subst h1;subst h2;exact ⟨rfl,by simp [a8m,a8n,a2v (f:=u8A) (fun _=>rfl)]⟩) (Bor.sl (a1H _) hx (Bor.same trivial (Bor.same trivial .nil)))).mono ?_
 rintro r H' ⟨r0,h',⟨rfl,rfl⟩,rfl,rfl⟩
 refine ⟨by simp [rnA],?_⟩
 show H++[some (AO.arr (rnL _ (List.map u8A _)) _)]=_
 rw [a1O (fun _=>rfl)]
theorem b3i(X:Nat->Prop)(b:List UInt8)(l:La)(hl:c0v l)(hb:b.length<=1000) :
  a0b (E0 X) 181 [.sl 1 (b.map u8A),laA l] [] (fun r H'=>∃id n,r=.own id 0 n/\n=((a3c b l).map u8A).length/\H'[id]?=some (some (.arr ((a3c b l).map u8A) 5))):=by
 obtain ⟨id,ver,rs,regs⟩:=l
 obtain ⟨⟨a1,a2⟩,⟨a3,a4⟩,⟨a5,a6⟩,⟨a7,a8⟩⟩:=hl
 simp only at a1 a2 a3 a4 a5 a6 a7 a8
 obtain ⟨id,rfl⟩:=Int.eq_ofNat_of_zero_le a1
 obtain ⟨ver,rfl⟩:=Int.eq_ofNat_of_zero_le a3
 obtain ⟨rs,rfl⟩:=Int.eq_ofNat_of_zero_le a5
 obtain ⟨regs,rfl⟩:=Int.eq_ofNat_of_zero_le a7
 have e1:max (IntKind.i64.wrap (((a4P rs:Nat):Int) - 1)) 0=((a4P rs - 1:Nat):Int):=by
  have h1:a4P rs<=16:=by
   unfold a4P
   split
   ·have:=a7L (j:=rs / 256) (by omega);omega
   ·have:=a7L (j:=rs) (by omega);omega
  rw [a0r (by omega) (by omega)];omega
 refine Z0 Proofs.Tryz.func181 rfl Proofs.Tryz.ntmps181 (by kernel_rfl) rfl ?_
 repeat' (first|refine Zs rfl ?_|refine Zc rfl ?_|refine Qa rfl ?_)
 rw [wrap64 (by omega)]
 refine Cn rfl (a3X X _ _ b id 4 (by decide) (by decide) (by omega) rfl) rfl rfl ?_
 repeat' (first|refine Zs rfl ?_|refine Zc rfl ?_)
 refine a0t (a0w (id:=0) (cs:=[.int .i64 (id:Int),.int .i64 (ver:Int),.int .i64 (rs:Int),.int .i64 (regs:Int)]) rfl) ?_
 refine a0t (a0S 0 [1] (sl':=[(0,.own 0 0 (b.length+4)),(3,.fp [.int .i64 (id:Int),.int .i64 (ver:Int),.int .i64 (rs:Int),.int .i64 (regs:Int)])]) (H':=[some (.arr ((a0Y b id 4).map u8A) 5)]) (os:=[.arr ((a0Y b id 4).map u8A) 5]) (Nat.le_refl _) (Nat.zero_le _) (by simp) (by simp) (by simp [HOk]) rfl rfl ?_ ?_) ?_
 ·exact a0a (a0L rfl) (a0a (a0v rfl ⟨trivial,trivial,trivial,trivial,trivial⟩) a0l)
 ·exact a0E rfl (a0A 0 (fun i h=>absurd h (Nat.not_lt_zero i)) (a0h fun _=>a0k)) a0T
 refine a0n [7,15] [0,1,3,4,6,8,9,10,11,13,16,2,5,12] (by exact rfl) ?_
 refine a0y (fuel:=0) [0,1,4,11,2,3,5,6,12,13,7,8,9,10,14,15,16] (by exact rfl) (by kernel_rfl) (by kernel_rfl) ?_
 repeat' (refine Zd rfl ?_)
 rw [wrap64 (by omega)]
 refine a1E rfl rfl rfl ?_
 refine Cn rfl (a0f (E:=E0 X) (fun X=>c5L X rs (by omega)) (by simp [a0e,a0d]) _) rfl rfl ?_
 repeat' (refine Zd rfl ?_)
 rw [e1,a1s,a1s,a1s]
 refine a1E rfl rfl rfl ?_
 refine a0V (oid:=some 0) (es:=(a0Y b id 4).map u8A) (out:=(a3c b ⟨(id:Int),(ver:Int),(rs:Int),(regs:Int)⟩).map u8A) (n:=b.length+7) (a0M rfl (by rw [List.length_map,a0D])) (rfl) (a0P (c5v ⟨(id:Int),(ver:Int),(rs:Int),(regs:Int)⟩)) (by simp only [a3c,List.map_append];rfl) (by rw [List.length_map,a0D];rfl) (by show _<=9223372036854775807;omega) (by show _*1<=_;omega) rfl rfl rfl rfl rfl rfl rfl rfl ?_
 refine nx rfl rfl ?_
 repeat' (first|refine Zd rfl ?_|refine Zk ?_|refine Qs ?_|refine Qw (by kernel_rfl) ?_)
 refine a0c ⟨_,rfl,1,_,rfl,?_,rfl⟩
 rw [List.length_map,a1K]
theorem b9m(X:Nat->Prop)(b:List UInt8)(l:La)(hl:c0v l)(hb:b.length<=1000) :
  a0b (E0 X) 181 [.sl 1 (b.map u8A),laA l] [] (fun r H'=>r=.sl 1 ((a3c b l).map u8A)/\H'=[]) :=
 a0b.frz0 (e:=5) 1 (b3i X b l hl hb) rfl rfl (a0h fun _=>a0k)
structure PlN where
 kind:Nat
 mig:Nat
 idx:Nat
 tail:Nat
 t:La
def PlN.pl(p:PlN):Pl:=⟨p.kind,p.mig,p.idx,p.tail,p.t⟩
def b1T(p:PlN):List UInt8:=a3c (a0Y (a0Y [UInt8.ofNat (p.kind%256)] p.mig 4++[UInt8.ofNat (p.idx%256)]) p.tail 6) p.t
def b4p(p:PlN)(sector:Nat):List UInt8:=a3C 4 0 sector (b1T p)
theorem a7e(p:PlN):(b1T p).length=19:=by simp [b1T,a1K,a0D]
theorem b2T(p:PlN)(s:Nat):(b4p p s).length=64:=a2M (by rw [a7e];decide)
theorem a2F{p:Pl}(h:a1P p=true):∃q:PlN,p=q.pl/\(1<=q.kind/\q.kind<=2)/\(1<=q.mig/\q.mig<=4294967295)/\q.idx<=35/\q.tail<=281474976710655/\a1a q.t=true:=by
 obtain ⟨kind,mig,idx,tail,t⟩:=p
 simp only [a1P,Bool.and_eq_true,Bool.or_eq_true,Bool.not_eq_true',decide_eq_false_iff_not,decide_eq_true_eq] at h
 obtain ⟨h1,h2,h3,h4,h5,h6⟩:=h
 have hk:1<=kind/\kind<=2:=by omega
 have hi:0<=idx/\idx<=35:=by omega
 refine ⟨⟨kind.toNat,mig.toNat,idx.toNat,tail.toNat,t⟩,?_,by simp only;omega,by simp only;omega,by simp only;omega,by simp only;omega,h5⟩
 simp only [PlN.pl]
 have e1:((kind.toNat:Nat):Int)=kind:=by omega
 have e2:((mig.toNat:Nat):Int)=mig:=by omega
 have e3:((idx.toNat:Nat):Int)=idx:=by omega
 have e4:((tail.toNat:Nat):Int)=tail:=by omega
 rw [e1,e2,e3,e4]
theorem a5b{l:La}(h:a1a l=true):c0v l:=by
 simp only [a1a,Bool.and_eq_true,Bool.or_eq_true,decide_eq_true_eq] at h
 exact ⟨by omega,by omega,by omega,by omega⟩
theorem c4A(X:Nat->Prop)(p:PlN)(sector:Nat)(hv:a1P p.pl=true)(hs:sector<1048576) :
  a0b (E0 X) 154 [plA p.pl,.int .i64 (sector:Int)] [] (fun r H'=>r=.tup [.sl 1 ((b4p p sector).map u8A),.int .i64 0]/\H'=[]):=by
 obtain ⟨q,hq,hk,hm,hi,ht,hf⟩:=a2F hv
 have hva:=b2w X p.pl
 rw [hv] at hva
 have hpq:p=q:=by
  obtain ⟨a,b,c,d,e⟩:=p
  obtain ⟨a2,b2,c2,d2,e2⟩:=q
  simp only [PlN.pl,Pl.mk.injEq] at hq
  obtain ⟨h1,h2,h3,h4,h5⟩:=hq
  simp only [PlN.mk.injEq]
  exact ⟨by omega,by omega,by omega,by omega,h5⟩
 subst hpq
 obtain ⟨kind,mig,idx,tail,t⟩:=p
 simp only at hk hm hi ht hf
 have hlo:=a5b hf
 show a0b (E0 X) 154 [.agg [.int .i64 (kind:Int),.int .i64 (mig:Int),.int .i64 (idx:Int),.int .i64 (tail:Int),.int .i64 t.id,.int .i64 t.ver,.int .i64 t.rs,.int .i64 t.regs],.int .i64 (sector:Int)] [] _
 refine Z0 Proofs.Tryz.func154 rfl Proofs.Tryz.ntmps154 (by kernel_rfl) rfl ?_
 repeat' (first|refine Zs rfl ?_|refine Zc rfl ?_|refine Qa rfl ?_)
 refine Ck (fun _=>rfl) rfl (a0f (E:=E0 X) (fun X=>b2w X (PlN.pl ⟨kind,mig,idx,tail,t⟩)) (by simp [a0e]) _) ?_
 rw [hv]
 refine nx rfl rfl ?_
 repeat' (first|refine Zs rfl ?_|refine Zc rfl ?_|refine Qa rfl ?_)
 rw [a1s,wrap64 (by omega)]
 refine Cn rfl (a3X X _ _ [UInt8.ofNat (kind%256)] mig 4 (by decide) (by decide) (by simp) rfl) rfl rfl ?_
 repeat' (first|refine Zs rfl ?_|refine Zc rfl ?_)
 refine a0t (a0w (id:=0) (cs:=[.int .i64 (kind:Int),.int .i64 (mig:Int),.int .i64 (idx:Int),.int .i64 (tail:Int),.int .i64 t.id,.int .i64 t.ver,.int .i64 t.rs,.int .i64 t.regs]) rfl) ?_
 refine a0t (a0S 0 [1] (sl':=[(1,.int .i64 (sector:Int)),(2,.fp [.int .i64 (kind:Int),.int .i64 (mig:Int),.int .i64 (idx:Int),.int .i64 (tail:Int),.int .i64 t.id,.int .i64 t.ver,.int .i64 t.rs,.int .i64 t.regs]),(6,.own 0 0 5)])
  (H':=[some (.arr ((a0Y [UInt8.ofNat (kind%256)] mig 4).map u8A) 5)]) (os:=[.arr ((a0Y [UInt8.ofNat (kind%256)] mig 4).map u8A) 5]) (Nat.le_refl _) (Nat.zero_le _) (by simp) (by simp) (by simp [HOk]) rfl rfl ?_ ?_) ?_
 ·exact a0a (a0v rfl trivial) (a0a (a0v rfl ⟨trivial,trivial,trivial,trivial,trivial,trivial,trivial,trivial,trivial⟩) (a0a (a0L rfl) a0l))
 ·exact a0E rfl (a0A 0 (fun i h=>absurd h (Nat.not_lt_zero i)) (a0h fun _=>a0k)) a0T
 refine a0n [5,9] [0,1,3,6,8,10,2,7] (by exact rfl) ?_
 refine a0y (fuel:=0) [0,1,6,2,3,4,7,8,5,9,10] (by exact rfl) (by kernel_rfl) (by kernel_rfl) ?_
 repeat' (refine Zd rfl ?_)
 rw [a1s,wrap64 (by omega)]
 refine a1E rfl rfl rfl ?_
 refine a0V (oid:=some 0) (es:=(a0Y [UInt8.ofNat (kind%256)] mig 4).map u8A) (out:=(a0Y [UInt8.ofNat (kind%256)] mig 4++[UInt8.ofNat (idx%256)]).map u8A) (n:=6) (a0M rfl (by rw [List.length_map,a0D];rfl)) (rfl) (a0P [UInt8.ofNat (idx%256)]) (by rw [List.map_append];rfl) (by rw [List.length_map,a0D];rfl) (by show _<=9223372036854775807;omega) (by show _*1<=_;omega) rfl rfl rfl rfl rfl rfl rfl rfl ?_
 refine nx rfl rfl ?_
 skip
 have hl6:(a0Y [UInt8.ofNat (kind%256)] mig 4++[UInt8.ofNat (idx%256)]).length=6:=by rw [List.length_append,a0D];rfl
 refine a1E rfl rfl rfl ?_
 refine Cn rfl (a3X X _ _ (a0Y [UInt8.ofNat (kind%256)] mig 4++[UInt8.ofNat (idx%256)]) tail 6 (by decide) (by decide) (by omega) (a0B rfl rfl rfl (by omega) (by rw [List.drop_zero,List.take_of_length_le (by omega)]))) rfl rfl ?_
 have hpay:a3c (a0Y (a0Y [UInt8.ofNat (kind%256)] mig 4++[UInt8.ofNat (idx%256)]) tail 6) t=b1T ⟨kind,mig,idx,tail,t⟩:=rfl
 have hl12:(a0Y (a0Y [UInt8.ofNat (kind%256)] mig 4++[UInt8.ofNat (idx%256)]) tail 6).length=12:=by rw [a0D,hl6]
 rw [hl6]
 have hlay:=b9m X (a0Y (a0Y [UInt8.ofNat (kind%256)] mig 4++[UInt8.ofNat (idx%256)]) tail 6) t hlo (by omega)
 rw [hpay] at hlay
 generalize a0Y (a0Y [UInt8.ofNat (kind%256)] mig 4++[UInt8.ofNat (idx%256)]) tail 6=b12 at *
 repeat' (first|((apply Qe rfl rfl rfl rfl;intro H9);(refine Q1 ?_);(exact QY rfl ⟨rfl,rfl⟩))|refine Qk ?_|refine Qw (by kernel_rfl) ?_)
 refine a2j ?_
 refine a0t (a0N (id:=2) (k:=1) (es:=b12.map u8A) (e:=5) rfl rfl rfl) ?_
 refine a0t (a0j 0 (Nat.zero_le _) a0X rfl (Nat.zero_le _) (sl':=[(1,.int .i64 (sector:Int)),(2,.fp [.int .i64 (kind:Int),.int .i64 (mig:Int),.int .i64 (idx:Int),.int .i64 (tail:Int),.int .i64 t.id,.int .i64 t.ver,.int .i64 t.rs,.int .i64 t.regs]),(6,.sl 1 (b12.map u8A))]) ?_) ?_
 ·refine a0a ⟨rfl,trivial⟩ (a0a ⟨rfl,⟨trivial,trivial,trivial,trivial,trivial,trivial,trivial,trivial,trivial⟩⟩ (a0a ⟨?_,a0h fun _=>a0k⟩ a0l))
  show frz 2 _ _ (.own 2 0 (6+6))=_
  exact a3p (by simp [hl12])
 repeat' (first|refine Zs rfl ?_|refine Zc rfl ?_|refine Qa rfl ?_)
 refine Cn rfl (hlay) rfl rfl ?_
 repeat' (refine Qa rfl ?_)
 refine Cn rfl (b0s X 4 0 sector (b1T ⟨kind,mig,idx,tail,t⟩) ⟨by decide,by decide,hs⟩ (by decide) (by rw [a7e];decide)) rfl rfl ?_
 repeat' (first|refine Zs rfl ?_|refine Zh ?_|refine Qs ?_)
 refine a0c ⟨_,rfl,?_,?_⟩
 ·rfl
 ·rfl
theorem b6V(X:Nat->Prop)(p:Pl)(sector:Int)(hv:a1P p=false) :
  a0b (E0 X) 154 [plA p,.int .i64 sector] [] (fun r H'=>r=.tup [.nils,.int .i64 4]/\H'=[]):=by
 refine a0b.cut0 ?_ ⟨trivial,trivial,trivial⟩
 refine Z0 Proofs.Tryz.func154 rfl Proofs.Tryz.ntmps154 (by kernel_rfl) rfl ?_
 repeat' (first|refine Zs rfl ?_|refine Zc rfl ?_|refine Qa rfl ?_)
 refine Ck (fun _=>rfl) rfl (a0f (E:=E0 X) (fun X=>b2w X p) (by simp [a0e]) _) ?_
 rw [hv]
 refine nx rfl rfl ?_
 repeat' (first|refine Zs rfl ?_|refine Zc rfl ?_|refine Zh ?_|refine Qs ?_)
 exact a0c ⟨_,rfl,rfl⟩
def a0J(l:List UInt8):Nat:=l.foldl (fun n x=>n*256+x.toNat) 0
theorem a7N(l:List UInt8)(x:UInt8):a0J (l++[x])=a0J l*256+x.toNat:=by simp [a0J]
theorem a9s(l:List UInt8):a0J l<256 ^ l.length:=by
 have:∀(l:List UInt8),a0J l.reverse<256 ^ l.length:=by
  intro l
  induction l with
  | nil=>simp [a0J]
  | cons x l ih =>
   rw [List.reverse_cons,a7N,List.length_cons,Nat.pow_succ]
   have:=x.toNat_lt
   omega
 have h:=this l.reverse
 simpa using h
theorem c6y{n x:Nat}(hx:x<256)(h:n*256+x<18446744073709551616):a2H .or .u64 ((n*256:Nat):Int) (x:Int)=((n*256+x:Nat):Int):=by
 have h1:a2H .or .u64 ((n*256:Nat):Int) (x:Int)=IntKind.u64.wrap (((BitVec.ofInt 64 ((n*256:Nat):Int) ||| BitVec.ofInt 64 (x:Int)).toNat:Nat):Int):=rfl
 rw [h1,BitVec.toNat_or]
 have h2:∀n:Nat,n<18446744073709551616->(BitVec.ofInt 64 (n:Int)).toNat=n:=fun n h=>by
  rw [BitVec.ofInt_natCast,BitVec.toNat_ofNat];exact Nat.mod_eq_of_lt h
 have h5:n*256<18446744073709551616:=Nat.lt_of_le_of_lt (Nat.le_add_right _ _) h
 have h6:x<18446744073709551616:=Nat.lt_trans hx (by decide)
 rw [h2 (n*256) h5,h2 x h6]
 have h3:n*256 ||| x=n*256+x:=by
  have:=Nat.two_pow_add_eq_or_of_lt (i:=8) (b:=x) (by omega) n
  have h4:(2:Nat) ^ 8=256:=by decide
  rw [h4] at this
  rw [Nat.mul_comm n 256]
  exact this.symm
 rw [h3,wrap64 h]
theorem c6C{n:Nat}(h:n*256<18446744073709551616):IntKind.u64.wrap ((n:Int)*2 ^ (min (8:Int).toNat IntKind.u64.bits))=((n*256:Nat):Int):=by
 have h1:(2:Int) ^ (min (8:Int).toNat IntKind.u64.bits)=256:=by decide
 rw [h1]
 exact wrap64 (n:=n*256) h
def b4F(bs:List UInt8)(s lo:Nat):AO:=.cells [.own s lo (bs.length - lo),.bool false] 268
def a2r(bs:List UInt8)(lo:Nat):Hp:=[some (.arr (bs.map u8A) 5),some (b4F bs 0 lo)]
theorem a3N(bs:List UInt8)(lo:Nat):HOk 2 (a2r bs lo):=fun j o ho=>by
 match j,ho with
 | 0,ho=>cases ho;exact a0h fun _=>a0k
 | 1,ho=>cases ho;exact ⟨by simp [a0d],trivial,trivial⟩
theorem c4s(X:Nat->Prop)(bs:List UInt8)(hb:bs.length<=1000):a0b (E0 X) 144 [.sl 1 (bs.map u8A)] [] (fun r H'=>r=.ptr 1 0/\H'=a2r bs 0):=by
 refine Z0 Proofs.Tryz.func144 rfl Proofs.Tryz.ntmps144 (by kernel_rfl) rfl ?_
 repeat' (first|refine Zs rfl ?_|refine Zc rfl ?_|refine Qa rfl ?_)
 refine Cn rfl (a4D X bs (by omega)) rfl rfl ?_
 repeat' (first|refine Zs rfl ?_|refine Zh ?_|refine Qs ?_)
 refine a0c ⟨_,rfl,?_,?_⟩
 ·rfl
 ·rfl
theorem c5i(X:Nat->Prop)(bs:List UInt8)(lo n:Nat)(h:lo+n<=bs.length)(hb:bs.length<=1000) :
  a0b (E0 X) 182 [.ptr 1 0,.int .i64 (n:Int)] (a2r bs lo) (fun r H'=>r=.own 0 lo n/\H'=a2r bs (lo+n)):=by
 refine Z0 Proofs.Tryz.func182 rfl Proofs.Tryz.ntmps182 (by kernel_rfl) rfl ?_
 repeat' (first|refine Zs rfl ?_|refine Zc rfl ?_|refine Zh ?_|refine Qs ?_)
 refine a0g rfl (fun h1=>?_) (fun h1=>?_)
 ·omega
 repeat' (first|refine Zs rfl ?_|refine Zc rfl ?_|refine Qa rfl ?_)
 refine a6R (l:=0) (h:=n) (lo':=lo) (n':=n) (a1u) (a0q rfl rfl) (by omega) (by first|omega|(simp;omega)) (by omega) (by omega) rfl rfl rfl rfl rfl rfl rfl ?_
 refine nx rfl rfl ?_
 repeat' (first|refine Zs rfl ?_|refine Zc rfl ?_|refine Qa rfl ?_)
 refine a6R (l:=n) (h:=bs.length - lo) (lo':=lo+n) (n':=bs.length - (lo+n)) (a0q rfl rfl) (a1u) (by omega) (by first|omega|(simp;omega)) (by omega) (by omega) rfl rfl rfl rfl rfl rfl rfl ?_
 refine nx rfl rfl ?_
 repeat' (first|refine Zs rfl ?_|refine Zc rfl ?_|refine Zh ?_|refine Qs ?_)
 refine a0c ⟨_,rfl,?_,?_⟩
 ·rfl
 ·rfl
theorem b6H(X:Nat->Prop)(bs:List UInt8)(lo w:Nat)(hw:1<=w)(hw8:w<=8)(h:lo+w<=bs.length)(hb:bs.length<=1000) :
  a0b (E0 X) 146 [.ptr 1 0,.int .i64 (w:Int)] (a2r bs lo) (fun r H'=>r=.int .u64 (a0J ((bs.drop lo).take w):Int)/\H'=a2r bs (lo+w)):=by
 have hlw:((bs.drop lo).take w).length=w:=by simp;omega
 refine Z0 Proofs.Tryz.func146 rfl Proofs.Tryz.ntmps146 (by kernel_rfl) rfl ?_
 repeat' (first|refine Zs rfl ?_|refine Zc rfl ?_|refine Zh ?_|refine Qa rfl ?_|refine Qs ?_|((fail_if_success refine QV rfl ?_);refine Qy rfl rfl (fun _=>?_) (fun _=>?_)))
 ·omega
 refine a0I rfl (fun h9=>?_) (fun _=>?_)
 ·simp at h9;omega
 repeat' (first|refine Zs rfl ?_|refine Zc rfl ?_|refine Qa rfl ?_)
 refine Cn rfl (c5i X bs lo w h hb) rfl rfl ?_
 repeat' (first|refine Zs rfl ?_|refine Zc rfl ?_)
 refine a0s (fun i:Nat=>⟨[(5,.int .u64 (a0J ((bs.drop lo).take i):Int)),(16,.own 0 lo w),(17,.int .i64 (w:Int)),(18,.int .i64 (i:Int))],a2r bs (lo+w)⟩) (fun i=>i<=w) (fun i=>w - i) 0 (Nat.zero_le _) ?_ ?_
 ·exact kk 2 (a3N _ _) rfl (by simp [a0d,a0e])
 rintro i hi
 repeat' (first|refine Zs rfl ?_|refine Zc rfl ?_)
 refine a0g rfl (fun h3=>?_) (fun h3=>?_)
 ·have hi3:i<w:=by omega
  obtain ⟨q,hq⟩:∃q,bs[lo+i]?=some q:=⟨_,List.getElem?_eq_getElem (by omega)⟩
  have hn:a0J ((bs.drop lo).take (i+1))=a0J ((bs.drop lo).take i)*256+q.toNat:=by
   rw [List.take_add_one,List.getElem?_drop,hq]
   exact a7N _ _
  have hlt:=a9s ((bs.drop lo).take i)
  have hli:((bs.drop lo).take i).length=i:=by simp;omega
  rw [hli] at hlt
  have hp:256 ^ i<=256 ^ 7:=Nat.pow_le_pow_right (by decide) (by omega)
  have h7:(256:Nat) ^ 7=72057594037927936:=by decide
  have hq8:=q.toNat_lt
  repeat' (first|refine Zc rfl ?_|refine Qa rfl ?_)
  refine a5U (j:=i) (p:=lo+i) (rfl) (by first|omega|assumption|(simp;omega)) (by omega) rfl rfl rfl rfl rfl rfl rfl rfl ?_
  refine nx rfl rfl ?_
  repeat' (refine Qa rfl ?_)
  refine a4K rfl rfl (y:=u8A q) (by simp [hq]) rfl rfl rfl ?_
  refine nx rfl rfl ?_
  repeat' (first|refine Zs rfl ?_|refine Zc rfl ?_|refine Qa rfl ?_)
  refine a8M rfl rfl (by decide) ?_
  refine nx rfl rfl ?_
  repeat' (first|refine Zs rfl ?_|refine Zc rfl ?_|refine Zh ?_|refine Qs ?_)
  rw [c6C (by omega),wrap64 (by omega),c6y (by omega) (by omega),<- hn]
  refine ⟨i+1,by omega,by omega,a0j 2 (Nat.le_refl _) (a3N _ _) rfl (by simp [b4F]) ?_⟩
  repeat' (first|exact a0l|refine a0a ⟨?_,?_⟩ ?_)
  all_goals (try first|exact rfl|exact trivial|(simp [a0d,a0e];done)|(refine congrArg (AV.int .i64) (a0x ?_ ?_ ?_)<;>(first|omega|(simp;omega))))
 have hi3:i=w:=by omega
 subst hi3
 repeat' (first|refine Zs rfl ?_|refine Zc rfl ?_|refine Zh ?_|refine Qs ?_)
 refine a0c ⟨_,rfl,?_,?_⟩
 ·rfl
 ·rfl
end Go.Abs
