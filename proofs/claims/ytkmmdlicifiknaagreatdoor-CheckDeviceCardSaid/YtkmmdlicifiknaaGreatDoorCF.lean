/- The reference's crc, bit by bit, is the program's. Joined texts, each with what its own name promises; no condition beyond those stated. -/
import Derived.Test.YtkmmdlicifiknaaGreatDoorCE
import Derived.Test.YtkmmdlicifiknaaGreatDoorCC
import Derived.Test.YtkmmdlicifiknaaGreatDoorCB
set_option maxHeartbeats 0
set_option maxRecDepth 100000
set_option linter.unusedVariables false
set_option linter.unusedSimpArgs false
namespace Go.Abs
def b8T:Nat:=2197175160
def b8x(c:Nat):Nat:=(c >>> 1) ^^^ (if c &&& 1=1 then b8T else 0)
theorem c5o(c:Nat):c &&& 1=c%2:=Nat.and_one_is_mod c
theorem c0s(a b:Nat):(a ^^^ b)%2=(a%2+b%2)%2:=by
 have h:∀n:Nat,n%2=if n.testBit 0 then 1 else 0:=fun n=>by
  rw [Nat.testBit_zero]
  by_cases h:n%2=1
  ·simp [h]
  ·have:n%2=0:=by omega
   simp [this]
 rw [h (a ^^^ b),h a,h b,Nat.testBit_xor]
 cases a.testBit 0<;>cases b.testBit 0<;>rfl
theorem b8Q(a b:Nat):b8x (a ^^^ b)=b8x a ^^^ b8x b:=by
 unfold b8x
 rw [c5o,c5o,c5o,c0s,Nat.shiftRight_xor_distrib]
 rcases Nat.mod_two_eq_zero_or_one a with ha|ha<;>rcases Nat.mod_two_eq_zero_or_one b with hb|hb<;>rw [ha,hb]
 ·simp
 ·simp [Nat.xor_assoc]
 ·simp
  rw [Nat.xor_assoc,Nat.xor_comm (b >>> 1),<- Nat.xor_assoc]
 simp
 have:∀x y:Nat,x ^^^ b8T ^^^ (y ^^^ b8T)=x ^^^ y:=fun x y=>by
  rw [Nat.xor_comm y,Nat.xor_assoc,<- Nat.xor_assoc b8T,Nat.xor_self,Nat.zero_xor]
 rw [this]
def a8s:Nat->Nat->Nat
 | 0,c=>c
 | n+1,c=>a8s n (b8x c)
theorem b2I:∀(n a b:Nat),a8s n (a ^^^ b)=a8s n a ^^^ a8s n b
 | 0,_,_=>rfl
 | n+1,a,b=>by simp only [a8s];rw [b8Q,b2I n]
theorem b8P(y:Nat):b8x (y*2)=y:=by
 unfold b8x
 rw [c5o,if_neg (by omega),Nat.shiftRight_eq_div_pow,Nat.xor_zero]
 omega
theorem b2H{z:Nat}:a8s 4 z=(z >>> 4) ^^^ b1b (z &&& 15):=by
 have h1:z=((z >>> 4)*16) ^^^ (z &&& 15):=by
  have e:(z >>> 4)*16=(z >>> 4) <<< 4:=by rw [Nat.shiftLeft_eq]
  rw [e]
  apply Nat.eq_of_testBit_eq
  intro i
  have h15:(15:Nat)=2 ^ 4 - 1:=by decide
  rw [Nat.testBit_xor,Nat.testBit_shiftLeft,Nat.testBit_and,h15,Nat.testBit_two_pow_sub_one]
  by_cases hi:i<4
  ·have:¬ i >= 4:=by omega
   simp [hi,this]
  have h4:i >= 4:=by omega
  rw [Nat.testBit_shiftRight]
  have:4+(i - 4)=i:=by omega
  simp [hi,h4,this]
 have h2:a8s 4 ((z >>> 4)*16)=z >>> 4:=by
  have e:(z >>> 4)*16=(z >>> 4)*2*2*2*2:=by omega
  rw [e]
  simp only [a8s,b8P]
 have h3:a8s 4 (z &&& 15)=b1b (z &&& 15):=by
  have h4:((List.range 16).all fun l=>decide (a8s 4 l=b1b l))=true:=by kernel_rfl
  have:=List.all_eq_true.1 h4 (z &&& 15) (by simpa using b5k z)
  simpa using this
 rw [<- h2,<- h3,<- b2I,<- h1]
theorem a8T:∀(m n c:Nat),a8s (m+n) c=a8s n (a8s m c)
 | 0,n,c=>by simp [a8s]
 | m+1,n,c=>by
  have:m+1+n=(m+n)+1:=by omega
  rw [this];simp only [a8s];exact a8T m n _
theorem b4S(c x:Nat):a4d c x=a8s 8 (c ^^^ x):=by
 rw [show (8:Nat)=4+4 from rfl,a8T,b2H,b2H]
 rfl
def a7g(x:Nat):Nat->Nat->Nat
 | 0,c=>c
 | k+1,c=>(a7g x k c >>> 1) ^^^ (if (a7g x k c ^^^ (x >>> k)) &&& 1=1 then b8T else 0)
theorem b0C(x c:Nat):∀k,a7g x k c ^^^ (x >>> k)=a8s k (c ^^^ x)
 | 0=>by simp [a7g,a8s]
 | k+1=>by
  have ih:=b0C x c k
  have h1:a8s (k+1) (c ^^^ x)=b8x (a8s k (c ^^^ x)):=by rw [a8T k 1];rfl
  rw [h1,<- ih]
  show ((a7g x k c >>> 1) ^^^ (if (a7g x k c ^^^ (x >>> k)) &&& 1=1 then b8T else 0)) ^^^ (x >>> (k+1))=b8x (a7g x k c ^^^ (x >>> k))
  generalize a7g x k c=r at *
  unfold b8x
  generalize (if (r ^^^ (x >>> k)) &&& 1=1 then b8T else 0)=q
  rw [Nat.shiftRight_xor_distrib,<- Nat.shiftRight_add,Nat.xor_assoc,Nat.xor_comm q,<- Nat.xor_assoc]
theorem c4J{x c:Nat}(hx:x<256):a7g x 8 c=a4d c x:=by
 have h:=b0C x c 8
 have h1:x >>> 8=0:=by rw [Nat.shiftRight_eq_div_pow];omega
 rw [h1,Nat.xor_zero] at h
 rw [h,b4S]
theorem b7j{x c:Nat}(hc:c<4294967296):∀k,a7g x k c<4294967296
 | 0=>hc
 | k+1=>by
  have ih:=b7j (x:=x) hc k
  simp only [a7g]
  have h2:a7g x k c >>> 1<2 ^ 32:=Nat.lt_of_le_of_lt (Nat.shiftRight_le _ _) ih
  refine Nat.xor_lt_two_pow (n:=32) h2 ?_
  split<;>decide
theorem c6D(c:Nat):(c:Int).fdiv (2 ^ (min (1:Int).toNat IntKind.u32.bits))=((c >>> 1:Nat):Int):=by
 have h:(2:Int) ^ (min (1:Int).toNat IntKind.u32.bits)=((2 ^ 1:Nat):Int):=by decide
 rw [h,Int.fdiv_eq_ediv_of_nonneg _ (by omega),Nat.shiftRight_eq_div_pow]
 exact (Int.natCast_ediv c (2 ^ 1)).symm
theorem c6F{x k:Nat}(hk:k<8):(x:Int).fdiv (2 ^ (min ((k:Nat):Int).toNat IntKind.u8.bits))=((x >>> k:Nat):Int):=by
 have h:(2:Int) ^ (min ((k:Nat):Int).toNat IntKind.u8.bits)=((2 ^ k:Nat):Int):=by
  have:min ((k:Nat):Int).toNat IntKind.u8.bits=k:=by simp [IntKind.bits];omega
  rw [this];simp
 rw [h,Int.fdiv_eq_ediv_of_nonneg _ (Int.natCast_nonneg _),Nat.shiftRight_eq_div_pow]
 exact (Int.natCast_ediv x (2 ^ k)).symm
theorem c5B{a:Nat}(ha:a<4294967296):a2H .and .u32 (a:Int) 1=((a &&& 1:Nat):Int):=c3C ha (by decide)
theorem c7w{a:Nat}(ha:a<4294967296):a2H .xor .u32 (a:Int) 2197175160=((a ^^^ b8T:Nat):Int):=b4W ha (by decide)
attribute [local irreducible] a0z a1p AWp Nx awM
theorem c4Z(X:Nat->Prop)(c:Nat)(hc:c<4294967296)(l:List UInt8)(hl:l.length<=1073741824) :
  a0b (E0 X) 175 [b0Y c,.sl 1 (l.map u8A)] [] (fun r H'=>r=b0Y (a5l c l)/\H'=[]):=by
 have hall:∀(k:Nat),(l.take k).foldl (fun c x=>a4d c x.toNat) (c ^^^ b1p)<4294967296:=fun k=>by
  have h0:c ^^^ b1p<2 ^ 32:=Nat.xor_lt_two_pow hc (by decide)
  have:∀(l:List UInt8) (c:Nat),c<4294967296->l.foldl (fun c x=>a4d c x.toNat) c<4294967296:=by
   intro l
   induction l with
   | nil=>intro c h;exact h
   | cons x l ih=>intro c h;exact ih _ (a9Q h (by have:=x.toNat_lt;omega))
  exact this _ _ h0
 refine Z0 Proofs.Tryz.func175 rfl Proofs.Tryz.ntmps175 (by kernel_rfl) rfl ?_
 repeat' (first|refine Zs rfl ?_|refine Zc rfl ?_)
 refine a0s (fun i:Nat=>⟨[(0,b0Y ((l.take i).foldl (fun c x=>a4d c x.toNat) (c ^^^ b1p))),(1,.sl 1 (l.map u8A)),(5,.int .i64 (i:Int))],[]⟩) (fun i=>i<=l.length) (fun i=>l.length - i) 0 (Nat.zero_le _) ?_ ?_
 ·refine a0j 0 (Nat.zero_le _) a0X rfl (by simp) ?_
  refine a0a ⟨?_,trivial⟩ ?_
  ·exact congrArg (AV.int .u32) (notM c hc)
  repeat' (first|exact a0l|refine a0a ⟨?_,?_⟩ ?_)
  all_goals (try first|exact rfl|exact trivial|(simp [a0d,a0e];done))
 rintro i hi
 repeat' (first|refine Zs rfl ?_|refine Zc rfl ?_|refine Zh ?_|refine Qs ?_)
 refine a0g rfl (fun h3=>?_) (fun h3=>?_)
 ·have hi3:i<l.length:=by rw [List.length_map] at h3;omega
  obtain ⟨q,hq⟩:∃q,l[i]?=some q:=⟨_,List.getElem?_eq_getElem hi3⟩
  have hq8:=q.toNat_lt
  have hn:(l.take (i+1)).foldl (fun c x=>a4d c x.toNat) (c ^^^ b1p)=a7g q.toNat 8 ((l.take i).foldl (fun c x=>a4d c x.toNat) (c ^^^ b1p)):=by
   rw [List.take_add_one,hq,List.foldl_append,c4J (by omega)];rfl
  have hci:=hall i
  generalize (l.take i).foldl (fun c x=>a4d c x.toNat) (c ^^^ b1p)=ci at *
  repeat' (first|refine Zs rfl ?_|refine Zc rfl ?_)
  refine a0s (fun k:Nat=>⟨[(0,b0Y (a7g q.toNat k ci)),(1,.sl 1 (l.map u8A)),(5,.int .i64 (i:Int)),(6,.int .u64 (k:Int))],[]⟩) (fun k=>k<=8) (fun k=>8 - k) 0 (Nat.zero_le _) ?_ ?_
  ·refine a0j 0 (Nat.zero_le _) a0X rfl (by simp) ?_
   repeat' (first|exact a0l|refine a0a ⟨?_,?_⟩ ?_)
   all_goals (try first|exact rfl|exact trivial|(simp [a0d,a0e];done))
  rintro k hk
  have hck:=b7j (x:=q.toNat) hci k
  repeat' (first|refine Zs rfl ?_|refine Zc rfl ?_|refine Zh ?_|refine Qs ?_)
  refine a0g rfl (fun h4=>?_) (fun h4=>?_)
  ·have hk8:k<8:=by omega
   have hx:q.toNat >>> k<256:=Nat.lt_of_le_of_lt (Nat.shiftRight_le _ _) (by omega)
   have hxx:a7g q.toNat k ci ^^^ (q.toNat >>> k)<4294967296:=Nat.xor_lt_two_pow (n:=32) hck (Nat.lt_trans hx (by decide))
   have hck1:a7g q.toNat k ci >>> 1<4294967296:=Nat.lt_of_le_of_lt (Nat.shiftRight_le _ _) hck
   have hkw:IntKind.u64.wrap ((k:Int)+1)=((k+1:Nat):Int):=wrap64 (n:=k+1) (by omega)
   repeat' (first|refine Zs rfl ?_|refine Zc rfl ?_|refine Qa rfl ?_)
   refine a0C hq rfl rfl rfl rfl rfl rfl rfl (by first|rfl|omega) rfl ?_
   refine nx rfl rfl ?_
   repeat' (first|refine Zs rfl ?_|refine Qa rfl ?_)
   refine a8g rfl rfl (by omega) ?_
   refine nx rfl rfl ?_
   rw [c6F hk8]
   repeat' (first|refine Zs rfl ?_|refine Zc rfl ?_|refine Qa rfl ?_)
   rw [wrap32 (by omega),b4W hck (by omega),c5B hxx]
   refine a8g rfl rfl (by decide) ?_
   refine nx rfl rfl ?_
   rw [c6D]
   repeat' (first|refine Zs rfl ?_|refine Zc rfl ?_|refine Zh ?_|refine Qs ?_)
   refine a0g rfl (fun h5=>?_) (fun h5=>?_)
   ·have h6:(a7g q.toNat k ci ^^^ (q.toNat >>> k)) &&& 1=1:=by omega
    have h7:a7g q.toNat (k+1) ci=(a7g q.toNat k ci >>> 1) ^^^ b8T:=by simp only [a7g];rw [if_pos h6]
    repeat' (first|refine Zs rfl ?_|refine Zc rfl ?_|refine Zh ?_|refine Qs ?_)
    rw [c7w hck1,<- h7,hkw]
    refine ⟨k+1,by omega,by omega,a0j 0 (Nat.zero_le _) a0X rfl (by simp) ?_⟩
    repeat' (first|exact a0l|refine a0a ⟨?_,?_⟩ ?_)
    all_goals (try first|exact rfl|exact trivial|(simp [a0d,a0e];done))
   have h6:¬ (a7g q.toNat k ci ^^^ (q.toNat >>> k)) &&& 1=1:=by omega
   have h7:a7g q.toNat (k+1) ci=a7g q.toNat k ci >>> 1:=by simp only [a7g];rw [if_neg h6,Nat.xor_zero]
   repeat' (first|refine Zs rfl ?_|refine Zc rfl ?_|refine Zh ?_|refine Qs ?_)
   rw [<- h7,hkw]
   refine ⟨k+1,by omega,by omega,a0j 0 (Nat.zero_le _) a0X rfl (by simp) ?_⟩
   repeat' (first|exact a0l|refine a0a ⟨?_,?_⟩ ?_)
   all_goals (try first|exact rfl|exact trivial|(simp [a0d,a0e];done))
  have hk8:k=8:=by omega
  subst hk8
  rw [<- hn]
  repeat' (first|refine Zs rfl ?_|refine Zc rfl ?_|refine Zh ?_|refine Qs ?_)
  refine ⟨i+1,by omega,by omega,a0j 0 (Nat.zero_le _) a0X rfl (by simp) ?_⟩
  repeat' (first|exact a0l|refine a0a ⟨?_,?_⟩ ?_)
  all_goals (try first|exact rfl|exact trivial|(simp [a0d,a0e];done)|(refine congrArg (AV.int .i64) (a0x ?_ ?_ ?_)<;>(first|omega|(simp;omega))))
 have hi3:i=l.length:=by rw [List.length_map] at h3;omega
 subst hi3
 have h9:=hall l.length
 rw [List.take_length] at h9 ⊢
 repeat' (first|refine Zs rfl ?_|refine Zc rfl ?_|refine Zh ?_|refine Qs ?_)
 refine a0c ⟨_,rfl,?_,?_⟩
 ·exact congrArg (AV.int .u32) (notM _ h9)
 ·rfl
theorem c0Z(X:Nat->Prop)(l:List UInt8)(hl:l.length<=1073741824) :
  a0b (E0 X) 130 [.sl 1 (l.map u8A)] [] (fun r H'=>r=b0Y (a5l 0 l)/\H'=[]):=by
 refine Z0 Proofs.Tryz.func130 rfl Proofs.Tryz.ntmps130 (by kernel_rfl) rfl ?_
 repeat' (first|refine Zs rfl ?_|refine Zc rfl ?_|refine Qa rfl ?_)
 refine Cn rfl (c4Z X 0 (by decide) l hl) rfl rfl ?_
 repeat' (first|refine Zs rfl ?_|refine Zh ?_|refine Qs ?_)
 refine a0c ⟨_,rfl,?_,?_⟩
 ·rfl
 ·rfl
theorem b9S(X:Nat->Prop)(b:List UInt8)(n w:Nat)(hw:1<=w)(hw8:w<=8)(hb:b.length<=1048576) :
  a0b (E0 X) 85 [.sl 1 (b.map u8A),.int .u64 (n:Int),.int .i64 (w:Int)] [] (fun r H'=>r=.own 0 0 (b.length+w)/\H'=[some (.arr ((a0Y b n w).map u8A) 5)]):=by
 refine Z0 Proofs.Tryz.func85 rfl Proofs.Tryz.ntmps85 (by kernel_rfl) rfl ?_
 repeat' (first|refine Zs rfl ?_|refine Zc rfl ?_|refine Qa rfl ?_)
 refine a0V (oid:=none) (es:=[]) (out:=b.map u8A) (n:=b.length) (rfl) (rfl) (a0P _) (rfl) (by simp) (by show _<=9223372036854775807;omega) (by show _*1<=_;omega) rfl rfl rfl rfl rfl rfl rfl rfl ?_
 refine nx rfl rfl ?_
 repeat' (first|refine Zs rfl ?_|refine Zc rfl ?_|refine Zh ?_|refine Qs ?_|((fail_if_success refine QV rfl ?_);refine Qy rfl rfl (fun _=>?_) (fun _=>?_)))
 ·omega
 rename_i h1
 refine a0g rfl (fun h2=>?_) (fun h2=>?_)
 ·omega
 have e1:IntKind.i64.wrap ((w:Int) - 1)=(w:Int) - 1 - ((0:Nat):Int):=by
  rw [a0r (by omega) (by omega)];omega
 repeat' (first|refine Zs rfl ?_|refine Zc rfl ?_)
 rw [e1]
 refine a0s (fun i:Nat=>⟨[(1,.int .u64 (n:Int)),(7,.own 0 0 (b.length+i)),(8,.int .i64 ((w:Int) - 1 - (i:Int)))],[some (.arr ((b++a9x n w i).map u8A) 5)]⟩) (fun i=>i<=w) (fun i=>w - i) 0 (Nat.zero_le _) ?_ ?_
 ·refine a0j 1 (Nat.zero_le _) (a9h _) (by simp [a9x]) (by simp) ?_
  repeat' (first|exact a0l|refine a0a ⟨?_,?_⟩ ?_)
  all_goals (try first|exact rfl|exact trivial|(simp [a0d,a0e];done))
 rintro i hi
 repeat' (first|refine Zs rfl ?_|refine Zc rfl ?_|refine Zh ?_|refine Qs ?_)
 refine a0g rfl (fun h3=>?_) (fun h3=>?_)
 ·have hi3:i<w:=by omega
  have hsh:(w:Int) - 1 - (i:Int)=((w - 1 - i:Nat):Int):=by omega
  have e2:IntKind.u64.wrap (IntKind.i64.wrap (8*((w - 1 - i:Nat):Int)))=((8*(w - 1 - i):Nat):Int):=by
   have h4:IntKind.i64.wrap (8*((w - 1 - i:Nat):Int))=((8*(w - 1 - i):Nat):Int):=a0x (by omega) (by omega) (by omega)
   rw [h4,wrap64 (by omega)]
  rw [hsh]
  repeat' (first|refine Zs rfl ?_|refine Zc rfl ?_|refine Qa rfl ?_)
  rw [e2]
  refine a8g rfl rfl (by omega) ?_
  refine nx rfl rfl ?_
  repeat' (first|refine Zs rfl ?_|refine Qa rfl ?_)
  rw [b0i n _ (by omega)]
  refine a0V (oid:=some 0) (es:=(b++a9x n w i).map u8A) (out:=(b++a9x n w (i+1)).map u8A) (n:=b.length+(i+1)) (a0M rfl (by simp [a5I])) (rfl) (a0P [a0i n (8*(w - 1 - i))]) (by rw [b0z];simp) (by simp [a5I];omega) (by show _<=9223372036854775807;omega) (by show _*1<=_;omega) rfl rfl rfl rfl rfl rfl rfl rfl ?_
  refine nx rfl rfl ?_
  repeat' (first|refine Zs rfl ?_|refine Zc rfl ?_|refine Zh ?_|refine Qs ?_)
  refine ⟨i+1,by omega,by omega,?_⟩
  refine a0S 0 [1] (H':=[some (.arr ((b++a9x n w (i+1)).map u8A) 5)]) (os:=[.arr ((b++a9x n w (i+1)).map u8A) 5]) (Nat.le_refl _) (Nat.zero_le _) (by simp) (by simp) (by simp [HOk]) rfl rfl ?_ ?_
  ·refine a0a (a0v rfl trivial) (a0a (a0L rfl) (a0a (a0v ?_ trivial) a0l))
   exact congrArg (AV.int .i64) (a0x (by omega) (by omega) (by omega))
  ·exact a0E rfl (a0A 0 (fun i h=>absurd h (Nat.not_lt_zero i)) (a0h fun _=>a0k)) a0T
 have hi3:i=w:=by omega
 subst hi3
 repeat' (first|refine Zs rfl ?_|refine Zc rfl ?_|refine Zh ?_|refine Qs ?_)
 refine a0c ⟨_,rfl,?_,?_⟩
 ·rfl
 ·rfl
theorem a1A(X:Nat->Prop)(H:Hp)(x:AV)(b:List UInt8)(n w:Nat)(hw:1<=w)(hw8:w<=8)(hb:b.length<=1048576)(hx:a6O (E0 X) H 1 x=some (b.map u8A)) :
  a0b (E0 X) 85 [x,.int .u64 (n:Int),.int .i64 (w:Int)] H (fun r H'=>r=.own H.length 0 (b.length+w)/\H'=H++[some (.arr ((a0Y b n w).map u8A) 5)]):=by
 refine (a1W (E:=E0 X) (P:=fun v H'=>v=.own 0 0 (b.length+w)/\H'=[some (.arr ((a0Y b n w).map u8A) 5)]) (fun X=>b9S X b n w hw hw8 hb) (fun r h' h=>by
  obtain ⟨h1,h2⟩:=h;subst h1;subst h2;exact ⟨rfl,by simp [a8m,a8n,a2v (f:=u8A) (fun _=>rfl)]⟩) (Bor.sl (a1H _) hx (Bor.same trivial (Bor.same trivial .nil)))).mono ?_
 rintro r H' ⟨r0,h',⟨rfl,rfl⟩,rfl,rfl⟩
 refine ⟨by simp [rnA],?_⟩
 show H++[some (AO.arr (rnL _ (List.map u8A _)) _)]=_
 rw [a1O (fun _=>rfl)]
theorem c4q{n x:Nat}(h:n*256+x<18446744073709551616):IntKind.u64.wrap (IntKind.u64.wrap ((n:Int)*256)+(x:Int))=((n*256+x:Nat):Int):=by
 have h0:(n:Int)*256=((n*256:Nat):Int):=by omega
 have h3:n*256<18446744073709551616:=Nat.lt_of_le_of_lt (Nat.le_add_right _ _) h
 rw [h0,wrap64 h3]
 have h2:((n*256:Nat):Int)+(x:Int)=((n*256+x:Nat):Int):=by omega
 rw [h2,wrap64 h]
theorem a3e(X:Nat->Prop)(l:List UInt8)(hl:l.length<=8) :
  a0b (E0 X) 74 [.sl 1 (l.map u8A)] [] (fun r H'=>r=.int .u64 (a0J l:Int)/\H'=[]):=by
 refine Z0 Proofs.Tryz.func74 rfl Proofs.Tryz.ntmps74 (by kernel_rfl) rfl ?_
 repeat' (first|refine Zs rfl ?_|refine Zc rfl ?_)
 refine a0s (fun i:Nat=>⟨[(0,.sl 1 (l.map u8A)),(3,.int .u64 (a0J (l.take i):Int)),(4,.int .i64 (i:Int))],[]⟩) (fun i=>i<=l.length) (fun i=>l.length - i) 0 (Nat.zero_le _) ?_ ?_
 ·exact kk 0 a0X rfl (by simp [a0d,a0e])
 rintro i hi
 repeat' (first|refine Zs rfl ?_|refine Zc rfl ?_|refine Zh ?_|refine Qs ?_)
 refine a0g rfl (fun h3=>?_) (fun h3=>?_)
 ·have hi3:i<l.length:=by rw [List.length_map] at h3;omega
  obtain ⟨q,hq⟩:∃q,l[i]?=some q:=⟨_,List.getElem?_eq_getElem hi3⟩
  have hn:a0J (l.take (i+1))=a0J (l.take i)*256+q.toNat:=by
   rw [List.take_add_one,hq];exact a7N _ _
  have hlt:=a9s (l.take i)
  have hli:(l.take i).length=i:=by simp;omega
  rw [hli] at hlt
  have hp:256 ^ i<=256 ^ 7:=Nat.pow_le_pow_right (by decide) (by omega)
  have h7:(256:Nat) ^ 7=72057594037927936:=by decide
  have hq8:=q.toNat_lt
  repeat' (first|refine Zs rfl ?_|refine Zc rfl ?_|refine Qa rfl ?_)
  refine a0C hq rfl rfl rfl rfl rfl rfl rfl (by first|rfl|omega) rfl ?_
  refine nx rfl rfl ?_
  repeat' (first|refine Zs rfl ?_|refine Zc rfl ?_|refine Zh ?_|refine Qs ?_)
  rw [wrap64 (n:=q.toNat) (by omega),c4q (by omega),<- hn]
  refine ⟨i+1,by omega,by omega,a0j 0 (Nat.zero_le _) a0X rfl (by simp) ?_⟩
  repeat' (first|exact a0l|refine a0a ⟨?_,?_⟩ ?_)
  all_goals (try first|exact rfl|exact trivial|(simp [a0d,a0e];done)|(refine congrArg (AV.int .i64) (a0x ?_ ?_ ?_)<;>(first|omega|(simp;omega))))
 have hi3:i=l.length:=by rw [List.length_map] at h3;omega
 subst hi3
 rw [List.take_length]
 repeat' (first|refine Zs rfl ?_|refine Zc rfl ?_|refine Zh ?_|refine Qs ?_)
 refine a0c ⟨_,rfl,?_,?_⟩
 ·rfl
 ·rfl
theorem c0n(a b:List UInt8)(c:Nat):a5l (a5l c a) b=a5l c (a++b):=by
 unfold a5l
 rw [List.foldl_append]
 congr 2
 rw [Nat.xor_assoc,Nat.xor_self,Nat.xor_zero]
theorem b4q(X:Nat->Prop)(a b:List UInt8)(ha:a.length<=4611686018427387904) :
  a0b (E0 X) 16 [.sl 1 (a.map u8A),.sl 1 (b.map u8A)] [] (fun r H'=>r=.bool (decide (a=b))/\H'=[]):=by
 have hu:∀{n} {l:List UInt8},a0e n (l.map u8A):=a0h fun _=>a0k
 refine Z0 Proofs.Tryz.func16 rfl Proofs.Tryz.ntmps16 (by kernel_rfl) rfl ?_
 repeat' (first|refine Zb rfl rfl ?_|refine Zc rfl ?_)
 rw [List.length_map,List.length_map]
 refine a0I rfl (fun h1=>?_) (fun h1=>?_)
 ·repeat' (first|refine Zb rfl rfl ?_|refine Zc rfl ?_)
  exact a0c ⟨_,rfl,congrArg AV.bool (by grind),rfl⟩
 have hl:a.length=b.length:=by grind
 repeat' (first|refine Zb rfl rfl ?_|refine Zc rfl ?_)
 refine a0s (fun k:Nat=>⟨[(0,.sl 1 (a.map u8A)),(1,.sl 1 (b.map u8A)),(12,.int .i64 (a.length:Int)),(13,.int .i64 (k:Int))],[]⟩) (fun k=>k<=a.length/\∀j,j<k->a[j]?=b[j]?) (fun k=>a.length - k) 0 ⟨Nat.zero_le _,fun j h=>absurd h (Nat.not_lt_zero j)⟩ ?_ ?_
 ·rw [List.length_map]
  exact ik0 rfl (by simp [a0e,a0d])
 rintro k ⟨hk,h⟩
 repeat' (first|refine Zb rfl rfl ?_|refine Zc rfl ?_)
 refine a0I rfl (fun h2=>?_) (fun h2=>?_)
 ·have hk2:k<a.length:=by grind
  obtain ⟨p,hp⟩:∃p,a[k]?=some p:=⟨_,List.getElem?_eq_getElem hk2⟩
  obtain ⟨q,hq⟩:∃q,b[k]?=some q:=⟨_,List.getElem?_eq_getElem (hl ▸ hk2)⟩
  repeat' (first|refine Zb rfl rfl ?_|refine Zc rfl ?_)
  refine a0p [] [] (by exact rfl) (by kernel_rfl) ?_
  repeat' (refine Zd rfl ?_)
  apply ds rfl rfl rfl rfl
  ·refine a0C hp rfl rfl rfl rfl rfl rfl rfl (by first|rfl|omega) rfl ?_
   exact nx rfl rfl ⟨rfl,rfl⟩
  repeat' (refine Zd rfl ?_)
  apply ds rfl rfl rfl rfl
  ·refine a0C hq rfl rfl rfl rfl rfl rfl rfl (by first|rfl|omega) rfl ?_
   exact nx rfl rfl ⟨rfl,rfl⟩
  repeat' (first|refine Zd rfl ?_|refine Zk ?_)
  have hw:IntKind.i64.wrap ((k:Int)+1)=((k+1:Nat):Int):=a0r (by omega) (by omega)
  refine a0I rfl (fun h3=>?_) (fun h3=>?_)
  ·repeat' (first|refine Zb rfl rfl ?_|refine Zc rfl ?_)
   have hpq:p≠q:=fun e=>by subst e;simp at h3
   exact a0c ⟨_,rfl,congrArg AV.bool (decide_eq_false fun e=>by subst e;rw [hp] at hq;exact hpq (Option.some.inj hq)).symm,rfl⟩
  have hpq:p=q:=by simp at h3;exact UInt8.toNat_inj.1 (by omega)
  repeat' (first|refine Zs rfl ?_|refine Zc rfl ?_)
  rw [hw]
  refine ⟨k+1,⟨hk2,fun j hj=>?_⟩,by omega,ik0 rfl (by simp [a0e,a0d])⟩
  by_cases hjk:j<k
  ·exact h j hjk
  ·rw [show j=k by omega,hp,hq,hpq]
 repeat' (first|refine Zb rfl rfl ?_|refine Zc rfl ?_)
 have hk2:¬ k<a.length:=by grind
 refine a0c ⟨_,rfl,congrArg AV.bool (decide_eq_true (List.ext_getElem? fun j=>?_)).symm,rfl⟩
 by_cases hj:j<k
 ·exact h j hj
 ·rw [List.getElem?_eq_none (by omega),List.getElem?_eq_none (by omega)]
theorem c6v(X:Nat->Prop)(H:Hp)(x y:AV)(a b:List UInt8)(ha:a.length<=4611686018427387904)(hx:a6O (E0 X) H 1 x=some (a.map u8A))(hy:a6O (E0 X) H 1 y=some (b.map u8A)) :
  a0b (E0 X) 16 [x,y] H (fun r H'=>r=.bool (decide (a=b))/\H'=H) :=
 a2K (E:=E0 X) (fun X=>b4q X a b ha) rfl (Bor.sl (a1H _) hx (Bor.sl (a1H _) hy .nil))
def frI(kind:Nat)(p:List UInt8)(i:Nat):List UInt8:=UInt8.ofNat (kind%256)::(p++List.replicate i 0)
theorem b5T(kind:Nat)(p:List UInt8)(i:Nat):(frI kind p i).length=1+p.length+i:=by simp [frI];omega
theorem b9h(kind:Nat)(p:List UInt8)(i:Nat):frI kind p (i+1)=frI kind p i++[0]:=by simp [frI,List.replicate_succ']
theorem b7s(X:Nat->Prop)(kind salt sector:Nat)(p:List UInt8)(hs:salt<9223372036854775808)(hse:sector<1048576)(hp:p.length<=59) :
  a0b (E0 X) 87 [.int .i64 (kind:Int),.int .i64 (salt:Int),.int .i64 (sector:Int),.sl 1 (p.map u8A)] [] (fun r H'=>r=.own 4 0 64/\5<=H'.length/\H'[4]?=some (some (.arr ((a3C kind salt sector p).map u8A) 5))):=by
 refine Z0 Proofs.Tryz.func87 rfl Proofs.Tryz.ntmps87 (by kernel_rfl) rfl ?_
 repeat' (first|((refine Qa rfl ?_);(first|refine Q0 ?_|refine Q1 ?_|refine QG rfl rfl rfl rfl ?_);(refine QX rfl rfl ?_))|refine Qa rfl ?_|refine Qh ?_|refine Ql ?_|refine Qo rfl ?_)
 rw [a1s]
 refine a1o rfl rfl rfl rfl rfl rfl rfl (.inr rfl) rfl (.inr rfl) ?_
 refine nx rfl rfl ?_
 repeat' (first|((refine Qa rfl ?_);(refine Q0 ?_);(refine QX rfl rfl ?_))|refine Qa rfl ?_)
 refine a0V (oid:=some 0) (es:=[u8A (UInt8.ofNat (kind%256))]) (out:=(frI kind p 0).map u8A) (n:=1+p.length) (a0M rfl rfl) (rfl) (a0P _) (by simp [frI]) (by simp) (by show _<=9223372036854775807;omega) (by show _*1<=_;omega) rfl rfl rfl rfl rfl rfl rfl rfl ?_
 refine nx rfl rfl ?_
 repeat' (first|((refine Qa rfl ?_);(refine Q1 ?_);(refine QX rfl rfl ?_))|refine Qh ?_|refine Ql ?_|refine Qn ?_)
 refine a0s (fun i:Nat=>⟨[(0,.int .i64 (kind:Int)),(1,.int .i64 (salt:Int)),(2,.int .i64 (sector:Int)),(9,.own 0 0 (1+p.length+i))],[some (.arr ((frI kind p i).map u8A) 5)]⟩) (fun i=>i<=59 - p.length) (fun i=>59 - p.length - i) 0 (Nat.zero_le _) ?_ ?_
 ·refine a0S 0 [1] (H':=[some (.arr ((frI kind p 0).map u8A) 5)]) (os:=[.arr ((frI kind p 0).map u8A) 5]) (Nat.le_refl _) (Nat.zero_le _) (by simp) (by simp) (by simp [HOk]) rfl rfl ?_ ?_
  ·exact a0a (a0v rfl trivial) (a0a (a0v rfl trivial) (a0a (a0v rfl trivial) (a0a (a0L rfl) a0l)))
  ·exact a0E rfl (a0A 0 (fun i h=>absurd h (Nat.not_lt_zero i)) (a0h fun _=>a0k)) a0T
 rintro i hi
 repeat' (first|refine Zs rfl ?_|refine Zc rfl ?_|refine Zh ?_|refine Qs ?_)
 refine a0g rfl (fun h3=>?_) (fun h3=>?_)
 ·have hi3:i<59 - p.length:=by omega
  repeat' (first|refine Zs rfl ?_|refine Zc rfl ?_|refine Qa rfl ?_)
  refine a0V (oid:=some 0) (es:=(frI kind p i).map u8A) (out:=(frI kind p (i+1)).map u8A) (n:=1+p.length+(i+1)) (a0M rfl (by rw [List.length_map,b5T])) (rfl) (a0P [0]) (by rw [b9h,List.map_append];rfl) (by rw [List.length_map,b5T];rfl) (by show _<=9223372036854775807;omega) (by show _*1<=_;omega) rfl rfl rfl rfl rfl rfl rfl rfl ?_
  refine nx rfl rfl ?_
  repeat' (first|refine Zs rfl ?_|refine Zh ?_|refine Qs ?_|refine Qu ?_)
  refine ⟨i+1,by omega,by omega,?_⟩
  refine a0S 0 [1] (H':=[some (.arr ((frI kind p (i+1)).map u8A) 5)]) (os:=[.arr ((frI kind p (i+1)).map u8A) 5]) (Nat.le_refl _) (Nat.zero_le _) (by simp) (by simp) (by simp [HOk]) rfl rfl ?_ ?_
  ·exact a0a (a0v rfl trivial) (a0a (a0v rfl trivial) (a0a (a0v rfl trivial) (a0a (a0L rfl) a0l)))
  ·exact a0E rfl (a0A 0 (fun i h=>absurd h (Nat.not_lt_zero i)) (a0h fun _=>a0k)) a0T
 have hi3:i=59 - p.length:=by omega
 subst hi3
 have hfb:frI kind p (59 - p.length)=frB kind p:=rfl
 have hbl:=b1z (kind:=kind) hp
 have hll:1+p.length+(59 - p.length)=60:=by omega
 rw [hfb,hll]
 have henc:a3C kind salt sector p=a0Y (frB kind p) (a5l 0 (a0Y (a0Y [] salt 8) sector 4++frB kind p)) 4:=by
  rw [<- c0n];rfl
 rw [henc]
 generalize frB kind p=fb at *
 have hl8:(a0Y [] salt 8).length=8:=by rw [a0D];rfl
 have hl12:(a0Y (a0Y [] salt 8) sector 4).length=12:=by rw [a0D,hl8]
 repeat' (first|refine Zs rfl ?_|refine Zc rfl ?_|refine Qa rfl ?_)
 rw [wrap64 (by omega)]
 refine Cn rfl (a1A X _ _ [] salt 8 (by decide) (by decide) (by simp) rfl) rfl rfl ?_
 repeat' (first|refine Zs rfl ?_|refine Qa rfl ?_)
 rw [wrap64 (by omega)]
 refine Cn rfl (a1A X _ _ (a0Y [] salt 8) sector 4 (by decide) (by decide) (by omega) (a0B rfl rfl rfl (by rw [hl8];decide) (by rw [List.drop_zero,List.take_of_length_le (by rw [hl8];decide)]))) rfl rfl ?_
 rw [hl8]
 repeat' (first|refine Zs rfl ?_|refine Zc rfl ?_|refine Qa rfl ?_)
 generalize a0Y (a0Y [] salt 8) sector 4=pl at *
 refine a0V (oid:=some 2) (es:=pl.map u8A) (out:=(pl++fb).map u8A) (n:=72) (a0M rfl (by rw [List.length_map,hl12])) ((a0B rfl rfl rfl (by omega) (by rw [List.drop_zero,List.take_of_length_le (by omega)]))) (a0P _) (by rw [List.map_append]) (by rw [List.length_map,List.length_map];omega) (by show _<=9223372036854775807;omega) (by show _*1<=_;omega) rfl rfl rfl rfl rfl rfl rfl rfl ?_
 refine nx rfl rfl ?_
 repeat' (refine Qa rfl ?_)
 have hsl:(pl++fb).length=72:=by rw [List.length_append];omega
 refine Cn rfl (a2K (E:=E0 X) (fun X=>c0Z X (pl++fb) (by omega)) rfl (Bor.sl (a1H _) (a0B rfl rfl rfl (by omega) (by rw [List.drop_zero,List.take_of_length_le (by omega)])) .nil)) rfl rfl ?_
 have hlt:a5l 0 (pl++fb)<4294967296:=a6B (by decide) _
 repeat' (first|refine Zs rfl ?_|refine Qa rfl ?_)
 rw [wrap64 (by omega)]
 refine Cn rfl (a1A X _ _ fb (a5l 0 (pl++fb)) 4 (by decide) (by decide) (by omega) (a0B rfl rfl rfl (by omega) (by rw [List.drop_zero,List.take_of_length_le (by omega)]))) rfl rfl ?_
 repeat' (first|refine Zs rfl ?_|refine Zh ?_|refine Qs ?_)
 refine a0c ⟨_,rfl,?_,?_,rfl⟩
 ·show AV.own 4 0 (fb.length+4)=_
  rw [hbl]
 ·show 5<=5
  decide
theorem b2a(X:Nat->Prop)(kind salt sector:Nat)(p:List UInt8)(hs:salt<9223372036854775808)(hse:sector<1048576)(hp:p.length<=59) :
  a0b (E0 X) 87 [.int .i64 (kind:Int),.int .i64 (salt:Int),.int .i64 (sector:Int),.sl 1 (p.map u8A)] [] (fun r H'=>r=.sl 1 ((a3C kind salt sector p).map u8A)/\H'=[]) :=
 a0b.frz0 (e:=5) 1 ((b7s X kind salt sector p hs hse hp).mono fun r H' ⟨h1,_,h2⟩=>⟨4,64,h1,by rw [List.length_map,a2M hp],h2⟩) rfl rfl (a0h fun _=>a0k)
theorem b7r(X:Nat->Prop)(kind salt sector:Nat)(p:List UInt8)(hs:salt<9223372036854775808)(hse:sector<1048576)(hp:p.length<=59) :
  a0b (E0 X) 87 [.int .i64 (kind:Int),.int .i64 (salt:Int),.int .i64 (sector:Int),.sl 1 (p.map u8A)] [] (fun r H'=>r=.own 0 0 64/\H'=[some (.arr ((a3C kind salt sector p).map u8A) 5)]) :=
 (b7s X kind salt sector p hs hse hp).imp fun r H' ⟨h1,h3,h2⟩=>by
  subst h1
  refine ⟨_,_,⟨rfl,rfl⟩,?_⟩
  refine a0S 0 [4] (H':=[some (.arr ((a3C kind salt sector p).map u8A) 5)]) (os:=[.arr ((a3C kind salt sector p).map u8A) 5]) (Nat.le_refl _) (Nat.zero_le _) (by simp) (by simp) (by simp [HOk]) rfl (by simp) ?_ ?_
  ·exact a0a (a0L rfl) a0l
  ·exact a0E h2 (a0A 0 (fun i h=>absurd h (Nat.not_lt_zero i)) (a0h fun _=>a0k)) a0T
theorem a9B(X:Nat->Prop)(H:Hp)(x:AV)(kind salt sector:Nat)(p:List UInt8)(hs:salt<9223372036854775808)(hse:sector<1048576)(hp:p.length<=59)(hx:a6O (E0 X) H 1 x=some (p.map u8A)) :
  a0b (E0 X) 87 [.int .i64 (kind:Int),.int .i64 (salt:Int),.int .i64 (sector:Int),x] H (fun r H'=>r=.own H.length 0 64/\H'=H++[some (.arr ((a3C kind salt sector p).map u8A) 5)]):=by
 refine (a1W (E:=E0 X) (P:=fun v H'=>v=.own 0 0 64/\H'=[some (.arr ((a3C kind salt sector p).map u8A) 5)]) (fun X=>b7r X kind salt sector p hs hse hp) (fun r h' h=>by
  obtain ⟨h1,h2⟩:=h;subst h1;subst h2;exact ⟨rfl,by simp [a8m,a8n,a2v (f:=u8A) (fun _=>rfl)]⟩) (Bor.same trivial (Bor.same trivial (Bor.same trivial (Bor.sl (a1H _) hx .nil))))).mono ?_
 rintro r H' ⟨r0,h',⟨rfl,rfl⟩,rfl,rfl⟩
 refine ⟨by simp [rnA],?_⟩
 show H++[some (AO.arr (rnL _ (List.map u8A _)) _)]=_
 rw [a1O (fun _=>rfl)]
theorem c5N(X:Nat->Prop)(kind salt sector:Int):a0b (E0 X) 150 [.int .i64 kind,.int .i64 salt,.int .i64 sector] [] (fun r H'=>r=.bool (c0Q kind salt sector)/\H'=[]):=by
 refine Z0 Proofs.Tryz.func150 rfl Proofs.Tryz.ntmps150 (by kernel_rfl) rfl ?_
 repeat' (first|refine Zs rfl ?_|refine Zc rfl ?_|refine Zh ?_|refine Qs ?_|((fail_if_success refine QV rfl ?_);refine Qy rfl rfl (fun _=>?_) (fun _=>?_)))
 all_goals (refine a0c ?_;refine ⟨_,rfl,?_,rfl⟩;simp [c0Q,a0R,one, *])
theorem a9A(X:Nat->Prop)(kind salt sector:Nat)(b:List UInt8)(hm:1<=kind/\kind<=4/\sector<1048576)(hs:salt<9223372036854775808)(hb:b.length<=1048576) :
  a0b (E0 X) 103 [.int .i64 (kind:Int),.int .i64 (salt:Int),.int .i64 (sector:Int),.sl 1 (b.map u8A)] [] (fun r H'=>r=c6i (a2A kind salt sector b)/\H'=[]):=by
 have hmay:c0Q (kind:Int) (salt:Int) (sector:Int)=true:=by simp [c0Q];omega
 have hpos:=c5N X kind salt sector
 rw [hmay] at hpos
 refine Z0 Proofs.Tryz.func103 rfl Proofs.Tryz.ntmps103 (by kernel_rfl) rfl ?_
 repeat' (first|refine Zs rfl ?_|refine Zc rfl ?_|refine Qa rfl ?_)
 refine Cn rfl (hpos) rfl rfl ?_
 repeat' (first|refine Zs rfl ?_|refine Zc rfl ?_|refine Zh ?_|refine Qa rfl ?_|refine Qs ?_|((fail_if_success refine QV rfl ?_);refine Qy rfl rfl (fun _=>?_) (fun _=>?_)))
 ·rename_i h1
  have h2:¬ b.length=64:=by rw [List.length_map] at h1;omega
  refine a0c ⟨_,rfl,?_,?_⟩
  ·simp only [a2A];rw [if_neg (fun h=>h2 h.1)];rfl
  ·rfl
 rename_i h1
 have h2:b.length=64:=by rw [List.length_map] at h1;omega
 refine a1f (l:=1) (h:=60) (ys:=(b.drop 1).take 59) (a0q rfl rfl) (a0q rfl rfl) (by omega) (by omega) (by rw [List.drop_take]) rfl rfl rfl rfl rfl ?_
 refine nx rfl rfl ?_
 have hpl:((b.drop 1).take 59).length=59:=by simp;omega
 have hd:a2A kind salt sector b=if a3C kind salt sector ((b.drop 1).take 59)=b then some ((b.drop 1).take 59) else none:=by simp only [a2A,h2,true_and]
 have hsl:∀{P:Prop},True:=fun {P}=>trivial
 rw [hd]
 repeat' (refine Qa rfl ?_)
 refine Cn rfl (b2a X kind salt sector ((b.drop 1).take 59) hs hm.2.2 (by omega)) rfl rfl ?_
 repeat' (refine Qa rfl ?_)
 refine Cn rfl (c6v X _ _ _ b (a3C kind salt sector ((b.drop 1).take 59)) (by omega) rfl rfl) rfl rfl ?_
 repeat' (first|refine Zs rfl ?_|refine Zh ?_|refine Qs ?_)
 refine a0I rfl (fun h9=>?_) (fun h9=>?_)
 ·have h8:¬ b=a3C kind salt sector ((b.drop 1).take 59):=by simpa using h9
  repeat' (first|refine Zs rfl ?_|refine Zc rfl ?_|refine Zh ?_|refine Qs ?_)
  refine a0c ⟨_,rfl,?_,?_⟩
  ·rw [if_neg (fun h=>h8 h.symm)];rfl
  ·rfl
 have h8:b=a3C kind salt sector ((b.drop 1).take 59):=by simpa using h9
 rw [if_pos h8.symm]
 repeat' (first|refine Zs rfl ?_|refine Zc rfl ?_|refine Qa rfl ?_)
 refine a1f (l:=1) (h:=60) (ys:=(b.drop 1).take 59) (a0q rfl rfl) (a0q rfl rfl) (by omega) (by omega) (by rw [List.drop_take]) rfl rfl rfl rfl rfl ?_
 refine nx rfl rfl ?_
 generalize (b.drop 1).take 59=p at *
 repeat' (refine Qa rfl ?_)
 refine a0V (oid:=none) (es:=[]) (out:=p.map u8A) (n:=59) (rfl) (rfl) (a0P _) (rfl) (by rw [List.length_map,hpl];rfl) (by show _<=9223372036854775807;omega) (by show _*1<=_;omega) rfl rfl rfl rfl rfl rfl rfl rfl ?_
 refine nx rfl rfl ?_
 repeat' (first|((refine Qa rfl ?_);(refine Q1 ?_);(refine QX rfl rfl ?_))|refine Qh ?_)
 refine a2j ?_
 refine a0t (a0N (id:=0) (k:=1) (es:=p.map u8A) (e:=5) rfl rfl rfl) ?_
 refine a0t (a0j 0 (Nat.zero_le _) a0X rfl (Nat.zero_le _) (sl':=[(8,.sl 1 (p.map u8A)),(9,.bool true)]) ?_) ?_
 ·refine a0a ⟨?_,a0h fun _=>a0k⟩ (a0a ⟨rfl,trivial⟩ a0l)
  show frz 0 _ _ (.own 0 0 59)=_
  exact a3p (by rw [List.length_map,hpl])
 refine a0c ⟨_,rfl,?_,?_⟩
 ·rfl
 ·rfl
def c4o(n:Int):Nat->Nat->Int
 | _,0=>-1
 | k,m+1=>if n=((2 ^ k:Nat):Int) then (k:Int) else c4o n (k+1) m
def b3m(n:Int):Int:=c4o n 0 12
theorem b6x(rs:Int):decide (1<=b3m rs)=(decide (2<=rs)&&(decide (rs<=2048)&&decide (a2H .and .i64 rs (IntKind.i64.wrap (rs - 1))=0))):=by
 by_cases h:0<=rs/\rs<=2048
 ·have h1:((List.range 2049).all fun n=>decide (1<=b3m (n:Int)) == (decide (2<=(n:Int))&&(decide ((n:Int)<=2048)&&decide (a2H .and .i64 (n:Int) (IntKind.i64.wrap ((n:Int) - 1))=0))))=true:=by kernel_rfl
  obtain ⟨n,rfl⟩:=Int.eq_ofNat_of_zero_le h.1
  have h3:=List.all_eq_true.1 h1 n (by simp;omega)
  exact eq_of_beq h3
 have h2:b3m rs=-1:=by
  simp only [b3m,c4o]
  repeat (rw [if_neg (by omega)])
 rw [h2]
 by_cases h3:2<=rs
 ·have:decide (rs<=2048)=false:=decide_eq_false (by omega)
  rw [this];simp
 ·have:decide (2<=rs)=false:=decide_eq_false h3
  rw [this];simp
theorem c1Y{rs:Int}(h:2<=rs/\rs<=2048)(h2:a2H .and .i64 rs (IntKind.i64.wrap (rs - 1))=0):max (b3m rs) 0=((a4P rs.toNat - 1:Nat):Int):=by
 have h1:((List.range 2049).all fun n=>!(decide (2<=(n:Int))) || (!(decide (a2H .and .i64 (n:Int) (IntKind.i64.wrap ((n:Int) - 1))=0)) || decide (max (b3m (n:Int)) 0=((a4P n - 1:Nat):Int))))=true:=by kernel_rfl
 obtain ⟨n,rfl⟩:=Int.eq_ofNat_of_zero_le (show 0<=rs by omega)
 have h3:=List.all_eq_true.1 h1 n (by simp;omega)
 rw [decide_eq_true h.1,decide_eq_true h2] at h3
 simpa using h3
theorem c1X(X:Nat->Prop)(n:Int):a0b (E0 X) 136 [.int .i64 n] [] (fun r H'=>r=.int .i64 (b3m n)/\H'=[]):=by
 refine Z0 Proofs.Tryz.func136 rfl Proofs.Tryz.ntmps136 (by kernel_rfl) rfl ?_
 repeat' (first|refine Zs rfl ?_|refine Zc rfl ?_)
 refine a0s (fun k:Nat=>⟨[(0,.int .i64 n),(3,.int .i64 (k:Int))],[]⟩) (fun k=>k<=12/\c4o n k (12 - k)=b3m n) (fun k=>12 - k) 0 ⟨Nat.zero_le _,rfl⟩ ?_ ?_
 ·refine a0j 0 (Nat.zero_le _) a0X rfl (by simp) ?_
  repeat' (first|exact a0l|refine a0a ⟨?_,?_⟩ ?_)
  all_goals (try first|exact rfl|exact trivial)
 rintro k ⟨hk,hr⟩
 repeat' (first|refine Zs rfl ?_|refine Zc rfl ?_|refine Zh ?_|refine Qs ?_)
 refine a0g rfl (fun h3=>?_) (fun h3=>?_)
 ·have hk3:k<12:=by omega
  have hr2:(if n=((2 ^ k:Nat):Int) then (k:Int) else c4o n (k+1) (12 - (k+1)))=b3m n:=by
   rw [<- hr]
   have:12 - k=(12 - (k+1))+1:=by omega
   rw [this];rfl
  have e2:IntKind.i64.wrap (1*2 ^ (min ((k:Int)).toNat IntKind.i64.bits))=((2 ^ k:Nat):Int):=by
   have h7:min ((k:Int)).toNat IntKind.i64.bits=k:=by
    have:((k:Int)).toNat=k:=by omega
    rw [this]
    have h1:IntKind.i64.bits=64:=rfl
    omega
   rw [h7,Int.one_mul]
   have h6:(2:Nat) ^ k<=2 ^ 12:=Nat.pow_le_pow_right (by decide) (by omega)
   have h5:(2:Nat) ^ 12=4096:=by decide
   have h3:(2:Int) ^ k=((2 ^ k:Nat):Int):=by simp
   rw [h3]
   generalize 2 ^ k=z at *
   exact a0r (by omega) (by omega)
  repeat' (first|refine Zs rfl ?_|refine Zc rfl ?_|refine Qa rfl ?_)
  rw [wrap64 (by omega)]
  refine a8M rfl rfl (by omega) ?_
  refine nx rfl rfl ?_
  rw [e2]
  repeat' (first|refine Zs rfl ?_|refine Zh ?_|refine Qs ?_)
  refine a0g rfl (fun h4=>?_) (fun h4=>?_)
  ·rw [if_pos h4] at hr2
   repeat' (first|refine Zs rfl ?_|refine Zc rfl ?_|refine Zh ?_|refine Qs ?_)
   refine a0c ⟨_,rfl,?_,?_⟩
   ·rw [<- hr2];rfl
   ·rfl
  rw [if_neg h4] at hr2
  repeat' (first|refine Zs rfl ?_|refine Zc rfl ?_|refine Zh ?_|refine Qs ?_)
  refine ⟨k+1,⟨by omega,hr2⟩,by omega,a0j 0 (Nat.zero_le _) a0X rfl (by simp) ?_⟩
  repeat' (first|exact a0l|refine a0a ⟨?_,?_⟩ ?_)
  all_goals (try first|exact rfl|exact trivial|(refine congrArg (AV.int .i64) (a0x ?_ ?_ ?_)<;>(first|omega|(simp;omega))))
 have hk3:k=12:=by omega
 subst hk3
 repeat' (first|refine Zs rfl ?_|refine Zc rfl ?_|refine Zh ?_|refine Qs ?_)
 refine a0c ⟨_,rfl,?_,?_⟩
 ·rw [<- hr];rfl
 ·rfl
theorem b9f(l:La):a1a l=(decide (1<=l.id)&&(decide (l.id<=4294967295)&&((decide (l.ver=1) || decide (l.ver=2))&&(decide (1<=b3m l.rs)&&(decide (4<=l.regs)&&decide (l.regs<=16)))))):=by
 unfold a1a
 rw [b6x]
 simp only [Bool.and_assoc]
theorem a4s(X:Nat->Prop)(l:La):a0b (E0 X) 82 [laA l] [] (fun r H'=>r=.bool (a1a l)/\H'=[]):=by
 refine a0b.cut0 ?_ trivial
 rw [b9f]
 refine Z0 Proofs.Tryz.func82 rfl Proofs.Tryz.ntmps82 (by kernel_rfl) rfl ?_
 repeat' (first|refine Zs rfl ?_|refine Zc rfl ?_|refine Zh ?_|refine Qa rfl ?_|refine Qs ?_|((fail_if_success refine QV rfl ?_);refine Qy rfl rfl (fun _=>?_) (fun _=>?_)))
 all_goals (first|(refine a0c ?_;refine ⟨_,rfl,?_⟩;simp [a0R,one, *];done)|skip)
 ·refine Cn rfl (a0f (E:=E0 X) (fun X=>c1X X l.rs) (by simp [a0e,a0d]) _) rfl rfl ?_
  repeat' (first|refine Zs rfl ?_|refine Zh ?_|refine Qs ?_|((fail_if_success refine QV rfl ?_);refine Qy rfl rfl (fun _=>?_) (fun _=>?_)))
  all_goals (refine a0c ?_;refine ⟨_,rfl,?_⟩;simp [a0R,one, *])
 skip
 refine Cn rfl (a0f (E:=E0 X) (fun X=>c1X X l.rs) (by simp [a0e,a0d]) _) rfl rfl ?_
 repeat' (first|refine Zs rfl ?_|refine Zh ?_|refine Qs ?_|((fail_if_success refine QV rfl ?_);refine Qy rfl rfl (fun _=>?_) (fun _=>?_)))
 all_goals (refine a0c ?_;refine ⟨_,rfl,?_⟩;simp [a0R,one, *])
theorem b3N(X:Nat->Prop)(p:Pl):a0b (E0 X) 39 [plA p] [] (fun r H'=>r=.bool (a1P p)/\H'=[]):=by
 refine a0b.cut0 ?_ trivial
 refine Z0 Proofs.Tryz.func39 rfl Proofs.Tryz.ntmps39 (by kernel_rfl) rfl ?_
 repeat' (first|refine Zs rfl ?_|refine Zc rfl ?_|refine Zh ?_|refine Qa rfl ?_|refine Qs ?_|((fail_if_success refine QV rfl ?_);refine Qy rfl rfl (fun _=>?_) (fun _=>?_)))
 any_goals (refine a0c ?_;refine ⟨_,rfl,?_⟩;simp [a1P,a0R,one, *];done)
 refine Cn rfl (a0f (E:=E0 X) (fun X=>a4s X p.t) (by simp [a0e,a0d]) _) rfl rfl ?_
 cases hf:a1a p.t with
 | false =>
  repeat' (first|refine Zs rfl ?_|refine Zc rfl ?_|refine Zh ?_|refine Qs ?_)
  refine a0c ⟨_,rfl,?_⟩
  simp [a1P,a0R,one, *]
 | true =>
  repeat' (first|refine Zs rfl ?_|refine Zc rfl ?_|refine Zh ?_|refine Qs ?_|((fail_if_success refine QV rfl ?_);refine Qy rfl rfl (fun _=>?_) (fun _=>?_)))
  all_goals (refine a0c ?_;refine ⟨_,rfl,?_⟩;first|(simp [a1P,a0R,one, *];done)|(exfalso;omega))
theorem b7B(X:Nat->Prop)(b:List UInt8)(l:La)(hf:c0v l)(hlg:max (b3m l.rs) 0=((a4P l.rs.toNat - 1:Nat):Int))(hb:b.length<=1000) :
  a0b (E0 X) 86 [.sl 1 (b.map u8A),laA l] [] (fun r H'=>∃id n,r=.own id 0 n/\n=((a3c b l).map u8A).length/\H'[id]?=some (some (.arr ((a3c b l).map u8A) 5))):=by
 obtain ⟨id,ver,rs,regs⟩:=l
 obtain ⟨⟨a1,a2⟩,⟨a3,a4⟩,⟨a5,a6⟩,⟨a7,a8⟩⟩:=hf
 simp only at a1 a2 a3 a4 a5 a6 a7 a8 hlg
 obtain ⟨id,rfl⟩:=Int.eq_ofNat_of_zero_le a1
 obtain ⟨ver,rfl⟩:=Int.eq_ofNat_of_zero_le a3
 obtain ⟨rs,rfl⟩:=Int.eq_ofNat_of_zero_le a5
 obtain ⟨regs,rfl⟩:=Int.eq_ofNat_of_zero_le a7
 rw [Int.toNat_natCast] at hlg
 refine Z0 Proofs.Tryz.func86 rfl Proofs.Tryz.ntmps86 (by kernel_rfl) rfl ?_
 repeat' (first|refine Zs rfl ?_|refine Zc rfl ?_|refine Qa rfl ?_)
 rw [wrap64 (by omega)]
 refine Cn rfl (a1A X _ _ b id 4 (by decide) (by decide) (by omega) rfl) rfl rfl ?_
 repeat' (first|refine Zs rfl ?_|refine Zc rfl ?_)
 refine a0t (a0w (id:=0) (cs:=[.int .i64 (id:Int),.int .i64 (ver:Int),.int .i64 (rs:Int),.int .i64 (regs:Int)]) rfl) ?_
 refine a0t (a0S 0 [1] (sl':=[(0,.own 0 0 (b.length+4)),(3,.fp [.int .i64 (id:Int),.int .i64 (ver:Int),.int .i64 (rs:Int),.int .i64 (regs:Int)])]) (H':=[some (.arr ((a0Y b id 4).map u8A) 5)]) (os:=[.arr ((a0Y b id 4).map u8A) 5]) (Nat.le_refl _) (Nat.zero_le _) (by simp) (by simp) (by simp [HOk]) rfl rfl ?_ ?_) ?_
 ·exact a0a (a0L rfl) (a0a (a0v rfl ⟨trivial,trivial,trivial,trivial,trivial⟩) a0l)
 ·exact a0E rfl (a0A 0 (fun i h=>absurd h (Nat.not_lt_zero i)) (a0h fun _=>a0k)) a0T
 refine a0n [6,13] [0,1,3,4,7,8,9,11,14,2,5,10] (by exact rfl) ?_
 refine a0y (fuel:=0) [0,1,4,9,2,3,5,10,11,6,7,8,12,13,14] (by exact rfl) (by kernel_rfl) (by kernel_rfl) ?_
 repeat' (refine Zd rfl ?_)
 refine a1E rfl rfl rfl ?_
 refine Cn rfl (a0f (E:=E0 X) (fun X=>c1X X rs) (by simp [a0e,a0d]) _) rfl rfl ?_
 repeat' (refine Zd rfl ?_)
 rw [hlg,a1s,a1s,a1s]
 refine a1E rfl rfl rfl ?_
 refine a0V (oid:=some 0) (es:=(a0Y b id 4).map u8A) (out:=(a3c b ⟨(id:Int),(ver:Int),(rs:Int),(regs:Int)⟩).map u8A) (n:=b.length+7) (a0M rfl (by rw [List.length_map,a0D])) (rfl) (a0P (c5v ⟨(id:Int),(ver:Int),(rs:Int),(regs:Int)⟩)) (by simp only [a3c,List.map_append];rfl) (by rw [List.length_map,a0D];rfl) (by show _<=9223372036854775807;omega) (by show _*1<=_;omega) rfl rfl rfl rfl rfl rfl rfl rfl ?_
 refine nx rfl rfl ?_
 repeat' (first|refine Zd rfl ?_|refine Zk ?_|refine Qs ?_|refine Qw (by kernel_rfl) ?_)
 refine a0c ⟨_,rfl,1,_,rfl,?_,rfl⟩
 rw [List.length_map,a1K]
theorem a5B{l:La}(hf:a1a l=true):max (b3m l.rs) 0=((a4P l.rs.toNat - 1:Nat):Int):=by
 simp only [a1a,Bool.and_eq_true,Bool.or_eq_true,decide_eq_true_eq] at hf
 exact c1Y ⟨hf.2.2.2.1,hf.2.2.2.2.1⟩ hf.2.2.2.2.2.1
theorem c2V(X:Nat->Prop)(b:List UInt8)(l:La)(hf:a1a l=true)(hb:b.length<=1000) :
  a0b (E0 X) 86 [.sl 1 (b.map u8A),laA l] [] (fun r H'=>r=.sl 1 ((a3c b l).map u8A)/\H'=[]) :=
 a0b.frz0 (e:=5) 1 (b7B X b l (a5b hf) (a5B hf) hb) rfl rfl (a0h fun _=>a0k)
theorem b7v(X:Nat->Prop)(l:La)(hf:a1a l=true) :
  a0b (E0 X) 94 [laA l] [] (fun r H'=>r=.sl 1 ((a3c [] l).map u8A)/\H'=[]):=by
 have hp:∀X,a0b (E0 X) 86 [.nils,laA l] [] (fun r H'=>r=.sl 1 ((a3c [] l).map u8A)/\H'=[]):=fun X =>
  a0b.weak (c2V X [] l hf (by simp)) fun m w vs h=>by
   obtain ⟨u1,r1,rfl,h1,h⟩:=a0o.1 h
   exact RelL.cons (a2P 1 h1) h
 refine a0b.cut0 ?_ (a0h fun _=>a0k)
 refine Z0 Proofs.Tryz.func94 rfl Proofs.Tryz.ntmps94 (by kernel_rfl) rfl ?_
 repeat' (first|refine Zs rfl ?_|refine Zc rfl ?_|refine Qa rfl ?_)
 refine Cn rfl (a0f (E:=E0 X) (fun X=>hp X) (by simp [a0e,a0d]) _) rfl rfl ?_
 repeat' (first|refine Zs rfl ?_|refine Zh ?_|refine Qs ?_)
 exact a0c ⟨_,rfl,rfl⟩
theorem b7z(X:Nat->Prop)(p:PlN)(sector:Nat)(hv:a1P p.pl=true)(hs:sector<1048576) :
  a0b (E0 X) 41 [plA p.pl,.int .i64 (sector:Int)] [] (fun r H'=>r=.sl 1 ((b4p p sector).map u8A)/\H'=[]):=by
 obtain ⟨q,hq,hk,hm,hi,ht,hf⟩:=a2F hv
 have hpq:p=q:=by
  obtain ⟨a,b,c,d,e⟩:=p
  obtain ⟨a2,b2,c2,d2,e2⟩:=q
  simp only [PlN.pl,Pl.mk.injEq] at hq
  obtain ⟨h1,h2,h3,h4,h5⟩:=hq
  simp only [PlN.mk.injEq]
  exact ⟨by omega,by omega,by omega,by omega,h5⟩
 subst hpq
 obtain ⟨kind,mig,idx,tail,t⟩:=p
 simp only at hk hm hi ht hf
 refine a0b.frz0 (e:=5) 1 ?_ rfl rfl (a0h fun _=>a0k)
 show a0b (E0 X) 41 [.agg [.int .i64 (kind:Int),.int .i64 (mig:Int),.int .i64 (idx:Int),.int .i64 (tail:Int),.int .i64 t.id,.int .i64 t.ver,.int .i64 t.rs,.int .i64 t.regs],.int .i64 (sector:Int)] [] _
 refine Z0 Proofs.Tryz.func41 rfl Proofs.Tryz.ntmps41 (by kernel_rfl) rfl ?_
 repeat' (first|refine Zs rfl ?_|refine Zc rfl ?_|refine Qa rfl ?_)
 rw [a1s,wrap64 (by omega)]
 refine Cn rfl (a1A X _ _ [UInt8.ofNat (kind%256)] mig 4 (by decide) (by decide) (by simp) rfl) rfl rfl ?_
 repeat' (first|refine Zs rfl ?_|refine Zc rfl ?_)
 refine a0t (a0w (id:=0) (cs:=[.int .i64 (kind:Int),.int .i64 (mig:Int),.int .i64 (idx:Int),.int .i64 (tail:Int),.int .i64 t.id,.int .i64 t.ver,.int .i64 t.rs,.int .i64 t.regs]) rfl) ?_
 refine a0t (a0S 0 [1] (sl':=[(1,.int .i64 (sector:Int)),(2,.fp [.int .i64 (kind:Int),.int .i64 (mig:Int),.int .i64 (idx:Int),.int .i64 (tail:Int),.int .i64 t.id,.int .i64 t.ver,.int .i64 t.rs,.int .i64 t.regs]),(5,.own 0 0 5)])
  (H':=[some (.arr ((a0Y [UInt8.ofNat (kind%256)] mig 4).map u8A) 5)]) (os:=[.arr ((a0Y [UInt8.ofNat (kind%256)] mig 4).map u8A) 5]) (Nat.le_refl _) (Nat.zero_le _) (by simp) (by simp) (by simp [HOk]) rfl rfl ?_ ?_) ?_
 ·exact a0a (a0v rfl trivial) (a0a (a0v rfl ⟨trivial,trivial,trivial,trivial,trivial,trivial,trivial,trivial,trivial⟩) (a0a (a0L rfl) a0l))
 ·exact a0E rfl (a0A 0 (fun i h=>absurd h (Nat.not_lt_zero i)) (a0h fun _=>a0k)) a0T
 refine a0n [5,9] [0,1,3,6,8,10,2,7] (by exact rfl) ?_
 refine a0y (fuel:=0) [0,1,6,2,3,4,7,8,5,9,10] (by exact rfl) (by kernel_rfl) (by kernel_rfl) ?_
 repeat' (refine Zd rfl ?_)
 rw [a1s,wrap64 (by omega)]
 refine a1E rfl rfl rfl ?_
 refine a0V (oid:=some 0) (es:=(a0Y [UInt8.ofNat (kind%256)] mig 4).map u8A) (out:=(a0Y [UInt8.ofNat (kind%256)] mig 4++[UInt8.ofNat (idx%256)]).map u8A) (n:=6) (a0M rfl (by rw [List.length_map,a0D];rfl)) (rfl) (a0P [UInt8.ofNat (idx%256)]) (by rw [List.map_append];rfl) (by rw [List.length_map,a0D];rfl) (by show _<=9223372036854775807;omega) (by show _*1<=_;omega) rfl rfl rfl rfl rfl rfl rfl rfl ?_
 refine nx rfl rfl ?_
 skip
 have hl6:(a0Y [UInt8.ofNat (kind%256)] mig 4++[UInt8.ofNat (idx%256)]).length=6:=by rw [List.length_append,a0D];rfl
 refine a1E rfl rfl rfl ?_
 refine Cn rfl (a1A X _ _ (a0Y [UInt8.ofNat (kind%256)] mig 4++[UInt8.ofNat (idx%256)]) tail 6 (by decide) (by decide) (by omega) (a0B rfl rfl rfl (by omega) (by rw [List.drop_zero,List.take_of_length_le (by omega)]))) rfl rfl ?_
 have hpay:a0Y (a0Y [UInt8.ofNat (kind%256)] mig 4++[UInt8.ofNat (idx%256)]) tail 6++a3c [] t=b1T ⟨kind,mig,idx,tail,t⟩:=by
  show _=a3c (a0Y (a0Y [UInt8.ofNat (kind%256)] mig 4++[UInt8.ofNat (idx%256)]) tail 6) t
  simp [a3c,a0Y]
 have hl12:(a0Y (a0Y [UInt8.ofNat (kind%256)] mig 4++[UInt8.ofNat (idx%256)]) tail 6).length=12:=by rw [a0D,hl6]
 have hl7:(a3c [] t).length=7:=by rw [a1K];rfl
 have hl19:=a7e ⟨kind,mig,idx,tail,t⟩
 have henc:b4p ⟨kind,mig,idx,tail,t⟩ sector=a3C 4 0 sector (b1T ⟨kind,mig,idx,tail,t⟩):=rfl
 rw [hl6,henc]
 generalize b1T ⟨kind,mig,idx,tail,t⟩=pay at *
 generalize a0Y (a0Y [UInt8.ofNat (kind%256)] mig 4++[UInt8.ofNat (idx%256)]) tail 6=b12 at *
 repeat' (first|refine Zs rfl ?_|refine Zd rfl ?_|refine Zc rfl ?_|refine Zk ?_|refine Qa rfl ?_|refine Qw (by kernel_rfl) ?_)
 refine Cn rfl (a0f (E:=E0 X) (fun X=>b7v X t hf) (by simp [a0e,a0d]) _) rfl rfl ?_
 repeat' (refine Qa rfl ?_)
 refine a0V (oid:=some 2) (es:=b12.map u8A) (out:=pay.map u8A) (n:=19) (a0M rfl (by rw [List.length_map,hl12])) (rfl) (a0P _) (by rw [<- hpay,List.map_append]) (by rw [List.length_map,List.length_map];omega) (by show _<=9223372036854775807;omega) (by show _*1<=_;omega) rfl rfl rfl rfl rfl rfl rfl rfl ?_
 refine nx rfl rfl ?_
 repeat' (refine Qa rfl ?_)
 refine Cn rfl (a9B X _ _ 4 0 sector pay (by decide) hs (by omega) (a0B rfl rfl rfl (by omega) (by rw [List.drop_zero,List.take_of_length_le (by omega)]))) rfl rfl ?_
 repeat' (first|refine Zs rfl ?_|refine Zh ?_|refine Qs ?_)
 refine a0c ⟨_,rfl,4,_,rfl,?_,rfl⟩
 rw [List.length_map,a2M (by omega)]
def rdL(x0 x1 x2 x3 x4 x5 x6:UInt8):La :=
 ⟨(a0J [x0,x1,x2,x3]:Nat),(x4.toNat:Int),if a0J [x0,x1,x2,x3]=0/\x4.toNat=0/\x6.toNat=0/\x5.toNat=0 then 0 else ((2 ^ min x5.toNat 12:Nat):Int),(x6.toNat:Int)⟩
theorem c0L(a b c d e f g h:Int):HOk 2 [some (.cells [.int .i64 a,.int .i64 b,.int .i64 c,.int .i64 d] 23),some (.cells [.int .i64 e,.int .i64 f,.int .i64 g,.int .i64 h] 23)]:=fun j o ho=>by
 match j,ho with
 | 0,ho=>cases ho;exact ⟨trivial,trivial,trivial,trivial,trivial⟩
 | 1,ho=>cases ho;exact ⟨trivial,trivial,trivial,trivial,trivial⟩
theorem b9U(X:Nat->Prop)(x0 x1 x2 x3 x4 x5 x6:UInt8) :
  a0b (E0 X) 172 [.sl 1 ([x0,x1,x2,x3,x4,x5,x6].map u8A)] [] (fun r H'=>r=laA (rdL x0 x1 x2 x3 x4 x5 x6)/\H'=[]):=by
 refine a0b.cut0 ?_ a1g
 have hnum:=fun X=>a3e X [x0,x1,x2,x3] (by simp)
 have hs:=a0U (bs:=[x0,x1,x2,x3]) (lo:=0) (w:=4) (by decide)
 have hs:a0J [x0,x1,x2,x3]<=281474976710655:=hs
 have hx4:=x4.toNat_lt
 have hx5:=x5.toNat_lt
 have hx6:=x6.toNat_lt
 have hw4:IntKind.i64.wrap (x4.toNat:Int)=(x4.toNat:Int):=a0r (by omega) (by omega)
 have hw6:IntKind.i64.wrap (x6.toNat:Int)=(x6.toNat:Int):=a0r (by omega) (by omega)
 have hwn:=a3i hs
 unfold rdL
 generalize a0J [x0,x1,x2,x3]=n at *
 refine Z0 Proofs.Tryz.func172 rfl Proofs.Tryz.ntmps172 (by kernel_rfl) rfl ?_
 repeat' (first|refine Zs rfl ?_|refine Zc rfl ?_)
 refine a2T (s1:=⟨[(0,.sl 1 ([x0,x1,x2,x3,x4,x5,x6].map u8A)),(2,.ptr 0 0),(3,.ptr 1 0)],[some (.cells [.int .i64 0,.int .i64 0,.int .i64 0,.int .i64 0] 23),some (.cells [.int .i64 (n:Int),.int .i64 (x4.toNat:Int),.int .i64 0,.int .i64 (x6.toNat:Int)] 23)]⟩) ?_ ?_
 ·refine a0n [2,13,14] [0,3,4,7,8,11,12,1,5,6,9,10] (by exact rfl) ?_
  refine a0y (fuel:=5) [0,1,4,5,6,7,8,9,10,11] (by exact rfl) (by kernel_rfl) (by kernel_rfl) ?_
  repeat' ((apply Qe rfl rfl rfl rfl;intro H9);(refine Q0 ?_);(exact QY rfl ⟨rfl,rfl⟩))
  apply a0O rfl rfl rfl rfl
  ·intro H9
   refine a1f (l:=0) (h:=4) (ys:=[x0,x1,x2,x3]) (a1u) (a0q rfl rfl) (by omega) (by simp) (rfl) rfl rfl rfl rfl rfl ?_
   exact nx0 ⟨rfl,rfl⟩
  repeat' ((apply Qe rfl rfl rfl rfl;intro H9);(refine Q0 ?_);(exact QY rfl ⟨rfl,rfl⟩))
  apply a0O rfl rfl rfl rfl
  ·intro H9
   refine a0C (show [x0,x1,x2,x3,x4,x5,x6][4]?=some x4 from rfl) rfl rfl rfl rfl rfl rfl rfl (by first|rfl|omega) rfl ?_
   exact nxs rfl ⟨rfl,rfl⟩
  repeat' ((apply Qe rfl rfl rfl rfl;intro H9);(first|refine Q0 ?_|refine Q3 rfl rfl rfl ?_|refine QG rfl rfl rfl rfl ?_);(exact QY rfl ⟨rfl,rfl⟩))
  apply a0O rfl rfl rfl rfl
  ·intro H9
   refine a0C (show [x0,x1,x2,x3,x4,x5,x6][6]?=some x6 from rfl) rfl rfl rfl rfl rfl rfl rfl (by first|rfl|omega) rfl ?_
   exact nxs rfl ⟨rfl,rfl⟩
  repeat' (first|((apply Qe rfl rfl rfl rfl;intro H9);(first|refine Q3 rfl rfl rfl ?_|refine QG rfl rfl rfl rfl ?_);(exact QY rfl ⟨rfl,rfl⟩))|refine Qk ?_)
  refine a1R [2,13] (by kernel_rfl) (br2 ?_ ?_)
  ·refine a1q rfl rfl rfl ?_
   refine Cn rfl (a0f (E:=E0 X) (fun X=>hnum X) (by simp [a0e,a0d]) _) rfl rfl ?_
   refine a0y (fuel:=0) [3,12,13,14] (by exact rfl) (by kernel_rfl) (by kernel_rfl) ?_
   repeat' (first|((first|refine Qc rfl rfl rfl ?_|(apply Qe rfl rfl rfl rfl;intro H9));(first|refine QG rfl rfl rfl rfl ?_|refine QJ rfl rfl ?_|refine QP rfl rfl rfl rfl rfl rfl ?_);(first|exact QY rfl ⟨rfl,rfl⟩|refine QX rfl rfl ?_))|(refine Qf rfl rfl rfl ?_;refine QS rfl rfl rfl rfl rfl rfl rfl ?_;(refine QX rfl rfl ?_))|refine Qk ?_|refine Qw (by kernel_rfl) ?_)
   refine ⟨rfl,?_⟩
   rw [hwn,hw4,hw6]
   refine a0j 2 (Nat.zero_le _) (c0L _ _ _ _ _ _ _ _) rfl (by simp) ?_
   repeat' (first|exact a0l|refine a0a ⟨?_,?_⟩ ?_)
   all_goals (try first|exact rfl|(simp [a0d,a0e];done))
  refine a1q rfl rfl rfl ?_
  refine a1C rfl rfl ?_
  refine nx rfl rfl ?_
  refine a0y (fuel:=0) [2,3,12,14] (by exact rfl) (by kernel_rfl) (by kernel_rfl) ?_
  refine a1E rfl rfl rfl ?_
  refine Cn rfl (a0f (E:=E0 X) (fun X=>hnum X) (by simp [a0e,a0d]) _) rfl rfl ?_
  repeat' (first|((apply Qe rfl rfl rfl rfl;intro H9);(first|refine QG rfl rfl rfl rfl ?_|refine QP rfl rfl rfl rfl rfl rfl ?_);(exact QY rfl ⟨rfl,rfl⟩))|(refine Qf rfl rfl rfl ?_;refine QS rfl rfl rfl rfl rfl rfl rfl ?_;(refine QX rfl rfl ?_))|refine Qk ?_|refine Qw (by kernel_rfl) ?_)
  refine ⟨rfl,?_⟩
  rw [hwn,hw4,hw6]
  refine a0j 2 (Nat.zero_le _) (c0L _ _ _ _ _ _ _ _) rfl (by simp) ?_
  repeat' (first|exact a0l|refine a0a ⟨?_,?_⟩ ?_)
  all_goals (try first|exact rfl|(simp [a0d,a0e];done))
 have e1:min (x5.toNat:Int) 12=((min x5.toNat 12:Nat):Int):=by omega
 have e2:IntKind.i64.wrap (1*2 ^ (min (((min x5.toNat 12:Nat):Int)).toNat IntKind.i64.bits))=((2 ^ min x5.toNat 12:Nat):Int):=by
  have h7:min (((min x5.toNat 12:Nat):Int)).toNat IntKind.i64.bits=min x5.toNat 12:=by
   have:(((min x5.toNat 12:Nat):Int)).toNat=min x5.toNat 12:=by omega
   rw [this]
   have h1:IntKind.i64.bits=64:=rfl
   omega
  rw [h7,Int.one_mul]
  have h6:(2:Nat) ^ min x5.toNat 12<=2 ^ 12:=Nat.pow_le_pow_right (by decide) (by omega)
  have h5:(2:Nat) ^ 12=4096:=by decide
  have h3:(2:Int) ^ min x5.toNat 12=((2 ^ min x5.toNat 12:Nat):Int):=by simp
  rw [h3]
  generalize 2 ^ min x5.toNat 12=z at *
  exact a0r (by omega) (by omega)
 repeat' (first|refine Zs rfl ?_|refine Zc rfl ?_|refine Qa rfl ?_|((fail_if_success refine QV rfl ?_);refine Qz rfl rfl (fun _=>?_) (fun _=>?_)))
 ·rename_i h1
  have hc:¬ (n=0/\x4.toNat=0/\x6.toNat=0/\x5.toNat=0):=by
   rintro ⟨a1,a2,a3,-⟩
   rw [a1,a2,a3] at h1
   exact absurd h1 (by decide)
  rw [if_neg hc]
  refine a0C (show [x0,x1,x2,x3,x4,x5,x6][5]?=some x5 from rfl) rfl rfl rfl rfl rfl rfl rfl (by first|rfl|omega) rfl ?_
  refine nx rfl rfl ?_
  repeat' (first|refine Zs rfl ?_|refine Qa rfl ?_)
  rw [e1,wrap64 (by omega)]
  refine a8M rfl rfl (by omega) ?_
  refine nx rfl rfl ?_
  rw [e2]
  repeat' (first|refine Zs rfl ?_|refine Zc rfl ?_|refine Zh ?_|refine Qs ?_)
  exact a0c ⟨_,rfl,rfl⟩
 rename_i h1
 refine a0C (show [x0,x1,x2,x3,x4,x5,x6][5]?=some x5 from rfl) rfl rfl rfl rfl rfl rfl rfl (by first|rfl|omega) rfl ?_
 refine nx rfl rfl ?_
 repeat' (first|refine Zs rfl ?_|refine Zh ?_|refine Qs ?_)
 refine a0g rfl (fun h2=>?_) (fun h2=>?_)
 ·have hc:¬ (n=0/\x4.toNat=0/\x6.toNat=0/\x5.toNat=0):=by omega
  rw [if_neg hc]
  repeat' (first|refine Zs rfl ?_|refine Zc rfl ?_|refine Qa rfl ?_)
  refine a0C (show [x0,x1,x2,x3,x4,x5,x6][5]?=some x5 from rfl) rfl rfl rfl rfl rfl rfl rfl (by first|rfl|omega) rfl ?_
  refine nx rfl rfl ?_
  repeat' (first|refine Zs rfl ?_|refine Qa rfl ?_)
  rw [e1,wrap64 (by omega)]
  refine a8M rfl rfl (by omega) ?_
  refine nx rfl rfl ?_
  rw [e2]
  repeat' (first|refine Zs rfl ?_|refine Zc rfl ?_|refine Zh ?_|refine Qs ?_)
  exact a0c ⟨_,rfl,rfl⟩
 have hc:n=0/\x4.toNat=0/\x6.toNat=0/\x5.toNat=0:=by
  simp only [Bool.not_eq_false',Bool.and_true,Bool.and_eq_true,decide_eq_true_eq] at h1
  omega
 rw [if_pos hc]
 repeat' (first|refine Zs rfl ?_|refine Zc rfl ?_|refine Zh ?_|refine Qs ?_)
 exact a0c ⟨_,rfl,rfl⟩
def rdV:List UInt8->La
 | [x0,x1,x2,x3,x4,x5,x6]=>rdL x0 x1 x2 x3 x4 x5 x6
 | _=>⟨0,0,0,0⟩
theorem a9G(X:Nat->Prop)(l:List UInt8)(hl:l.length=7) :
  a0b (E0 X) 172 [.sl 1 (l.map u8A)] [] (fun r H'=>r=laA (rdV l)/\H'=[]):=by
 match l,hl with
 | [x0,x1,x2,x3,x4,x5,x6],_=>exact b9U X x0 x1 x2 x3 x4 x5 x6
def b0J(bs:List UInt8):Pl:=⟨((bs[0]?.getD 0).toNat:Nat),(a0J ((bs.drop 1).take 4):Nat),((bs[5]?.getD 0).toNat:Nat),(a0J ((bs.drop 6).take 6):Nat),rdV ((bs.drop 12).take 7)⟩
theorem b0M{rs:Int}(h:2<=rs/\rs<=2048)(h2:a2H .and .i64 rs (IntKind.i64.wrap (rs - 1))=0):((2 ^ min ((a4P rs.toNat - 1)%256) 12:Nat):Int)=rs:=by
 have h1:((List.range 2049).all fun n=>!(decide (2<=n)) || (!(decide (a2H .and .i64 (n:Int) (IntKind.i64.wrap ((n:Int) - 1))=0)) || decide (2 ^ min ((a4P n - 1)%256) 12=n)))=true:=by kernel_rfl
 obtain ⟨n,rfl⟩:=Int.eq_ofNat_of_zero_le (show 0<=rs by omega)
 have h3:=List.all_eq_true.1 h1 n (by simp;omega)
 have h4:decide (2<=n)=true:=by simp;omega
 rw [h4,decide_eq_true h2] at h3
 simp only [Bool.not_true,Bool.false_or,decide_eq_true_eq] at h3
 simp only [Int.toNat_natCast];rw [h3]
theorem a3T{n:Nat}(h:n<=255):(UInt8.ofNat (n%256)).toNat=n:=by
 rw [UInt8.toNat_ofNat'];omega
theorem b7y{p:PlN}(hv:a1P p.pl=true)(z:List UInt8):b0J (b1T p++z)=p.pl:=by
 obtain ⟨q,hq,hk,hm,hi,ht,hf⟩:=a2F hv
 have hpq:p=q:=by
  obtain ⟨a,b,c,d,e⟩:=p
  obtain ⟨a2,b2,c2,d2,e2⟩:=q
  simp only [PlN.pl,Pl.mk.injEq] at hq
  obtain ⟨h1,h2,h3,h4,h5⟩:=hq
  simp only [PlN.mk.injEq]
  exact ⟨by omega,by omega,by omega,by omega,h5⟩
 subst hpq
 obtain ⟨kind,mig,idx,tail,id,ver,rs,regs⟩:=p
 simp only at hk hm hi ht hf
 simp only [a1a,Bool.and_eq_true,Bool.or_eq_true,decide_eq_true_eq] at hf
 obtain ⟨f1,f2,f3,f4,f5,f6,f7,f8⟩:=hf
 have hrs:=b2g ⟨f4,f5⟩ f6
 have hrs2:=b0M ⟨f4,f5⟩ f6
 have e1:(b0J (b1T ⟨kind,mig,idx,tail,⟨id,ver,rs,regs⟩⟩++z))=⟨(((UInt8.ofNat (kind%256)).toNat:Nat):Int),((a0J [a0i mig 24,a0i mig 16,a0i mig 8,a0i mig 0]:Nat):Int),(((UInt8.ofNat (idx%256)).toNat:Nat):Int),
   ((a0J [a0i tail 40,a0i tail 32,a0i tail 24,a0i tail 16,a0i tail 8,a0i tail 0]:Nat):Int),
   rdL (a0i id.toNat 24) (a0i id.toNat 16) (a0i id.toNat 8) (a0i id.toNat 0) (UInt8.ofNat (ver.toNat%256)) (UInt8.ofNat ((a4P rs.toNat - 1)%256)) (UInt8.ofNat (regs.toNat%256))⟩:=by
  rw [b6U];rfl
 rw [e1]
 unfold rdL
 rw [a3T (by omega),c0S (by omega),a3T (by omega),c4t (by omega),c0S (by omega),a3T (by omega),a3T hrs.2,a3T (by omega)]
 rw [if_neg (by omega)]
 have h10:a4P rs.toNat - 1=(a4P rs.toNat - 1)%256:=by have:=hrs.2;omega
 rw [h10,hrs2]
 simp only [PlN.pl,Pl.mk.injEq,La.mk.injEq]
 exact ⟨trivial,trivial,trivial,trivial,by omega,by omega,trivial,by omega⟩
theorem b4D{k:Nat}{b bs:List UInt8}(h:a2A 4 0 k b=some bs):b1d b k=if b0o (b0J bs) k=some b then some (b0J bs) else none:=by
 have key:∀q:PlN,a1P q.pl=true->b0o q.pl k=some b->b6T bs=q.pl/\b0J bs=q.pl:=by
  intro q hv he
  have he:b4p q k=b:=by
   unfold b0o at he
   rw [if_pos hv] at he
   simpa [PlN.pl] using he
  have hl:=a7e q
  have h1:a2A 4 0 k (b4p q k)=some (b1T q++List.replicate (59 - (b1T q).length) 0):=a5u (by omega)
  rw [he,h] at h1
  injection h1 with h1
  subst h1
  exact ⟨b9B hv _,b7y hv _⟩
 have hen:∀p,b0o p k=some b->∃q:PlN,p=q.pl/\a1P q.pl=true:=by
  intro p he
  unfold b0o at he
  split at he
  ·rename_i hv
   obtain ⟨q,hq,-⟩:=a2F hv
   exact ⟨q,hq,hq ▸ hv⟩
  ·cases he
 have e:b1d b k=if b0o (b6T bs) k=some b then some (b6T bs) else none:=by simp only [b1d,h]
 rw [e]
 by_cases h1:b0o (b6T bs) k=some b
 ·obtain ⟨q,hq,hv⟩:=hen _ h1
  have:=key q hv (hq ▸ h1)
  rw [this.1,this.2]
 rw [if_neg h1]
 by_cases h2:b0o (b0J bs) k=some b
 ·obtain ⟨q,hq,hv⟩:=hen _ h2
  have:=key q hv (hq ▸ h2)
  rw [this.2] at h2
  rw [this.1] at h1
  exact absurd h2 h1
 ·rw [if_neg h2]
theorem c2T(X:Nat->Prop)(b:List UInt8)(sector:Nat)(hs:sector<1048576)(hb:b.length<=1000) :
  a0b (E0 X) 125 [.sl 1 (b.map u8A),.int .i64 (sector:Int)] [] (fun r H'=>r=c4w (b1d b sector)/\H'=[]):=by
 refine a0b.cut0 ?_ (by unfold c4w;split<;>exact ⟨a3b,trivial,trivial⟩)
 have hdec:=fun X=>a9A X 4 0 sector b ⟨by decide,by decide,hs⟩ (by decide) (by omega)
 refine Z0 Proofs.Tryz.func125 rfl Proofs.Tryz.ntmps125 (by kernel_rfl) rfl ?_
 repeat' (first|refine Zs rfl ?_|refine Zc rfl ?_|refine Qa rfl ?_)
 refine Ck (fun _=>rfl) rfl (a0f (E:=E0 X) hdec (by simp [a0e,a0d]) _) ?_
 cases hd:a2A 4 0 sector b with
 | none =>
  have e:b1d b sector=none:=by simp only [b1d,hd]
  rw [e]
  show Nx _ (.tup [.nils,.bool false]) _
  refine nx rfl rfl ?_
  repeat' (first|refine Zs rfl ?_|refine Zc rfl ?_|refine Zh ?_|refine Qs ?_)
  exact a0c ⟨_,rfl,rfl⟩
 | some bs =>
  obtain ⟨hbl,-⟩:=a2e hd
  rw [b4D hd]
  show Nx _ (.tup [.sl 1 (bs.map u8A),.bool true]) _
  refine nx rfl rfl ?_
  obtain ⟨x0,hx0⟩:∃x,bs[0]?=some x:=⟨_,List.getElem?_eq_getElem (by omega)⟩
  obtain ⟨x5,hx5⟩:∃x,bs[5]?=some x:=⟨_,List.getElem?_eq_getElem (by omega)⟩
  have hp:b0J bs=⟨(x0.toNat:Nat),(a0J ((bs.drop 1).take 4):Nat),(x5.toNat:Nat),(a0J ((bs.drop 6).take 6):Nat),rdV ((bs.drop 12).take 7)⟩:=by simp [b0J,hx0,hx5]
  have hw0:=x0.toNat_lt
  have hw5:=x5.toNat_lt
  have w0:IntKind.i64.wrap (x0.toNat:Int)=(x0.toNat:Int):=a0r (by omega) (by omega)
  have w5:IntKind.i64.wrap (x5.toNat:Int)=(x5.toNat:Int):=a0r (by omega) (by omega)
  have q1:=fun X=>a3e X ((bs.drop 1).take 4) (by simp;omega)
  have q2:=fun X=>a3e X ((bs.drop 6).take 6) (by simp;omega)
  have q3:=fun X=>a9G X ((bs.drop 12).take 7) (by simp;omega)
  have s1:=a0U (bs:=bs) (lo:=1) (w:=4) (by decide)
  have s2:=a0U (bs:=bs) (lo:=6) (w:=6) (by decide)
  have l1:((bs.drop 1).take 4).length=4:=by simp;omega
  have l2:((bs.drop 6).take 6).length=6:=by simp;omega
  have l3:((bs.drop 12).take 7).length=7:=by simp;omega
  have d1:(bs.drop 1).take 4=(bs.drop 1).take (5 - 1):=rfl
  rw [hp]
  repeat' (first|refine Zs rfl ?_|refine Zc rfl ?_)
  refine a0n [20,21] [0,1,2,3,4,5,6,7,8,9,10,11,12,13,14,15,16,17,18,19] (by exact rfl) ?_
  refine a0y (fuel:=0) [0,1,2,3,4,5,6,7,8,9,10,11,12,13,14,15,16,17,18,19,20,21] (by exact rfl) (by kernel_rfl) (by kernel_rfl) ?_
  repeat' ((apply Qe rfl rfl rfl rfl;intro H9);(refine Q0 ?_);(exact QY rfl ⟨rfl,rfl⟩))
  apply a0O rfl rfl rfl rfl
  ·intro H9
   refine a0C hx0 rfl rfl rfl rfl rfl rfl rfl (by first|rfl|omega) rfl ?_
   exact nxs rfl ⟨rfl,rfl⟩
  repeat' ((apply Qe rfl rfl rfl rfl;intro H9);(first|refine Q0 ?_|refine Q3 rfl rfl rfl ?_|refine QG rfl rfl rfl rfl ?_);(exact QY rfl ⟨rfl,rfl⟩))
  apply a0O rfl rfl rfl rfl
  ·intro H9
   refine a1f (l:=1) (h:=5) (ys:=(bs.drop 1).take 4) (a0q rfl rfl) (a0q rfl rfl) (by omega) (by omega) (by rw [List.drop_take]) rfl rfl rfl rfl rfl ?_
   exact nx0 ⟨rfl,rfl⟩
  generalize (bs.drop 1).take 4=b1 at *
  skip
  apply a0O rfl rfl rfl rfl
  ·intro H9
   refine Ck (fun _=>rfl) rfl (a0f (E:=E0 X) (fun X=>q1 X) (by simp [a0e,a0d]) _) ?_
   exact nxs rfl ⟨rfl,rfl⟩
  repeat' ((apply Qe rfl rfl rfl rfl;intro H9);(first|refine Q0 ?_|refine QG rfl rfl rfl rfl ?_);(exact QY rfl ⟨rfl,rfl⟩))
  apply a0O rfl rfl rfl rfl
  ·intro H9
   refine a0C hx5 rfl rfl rfl rfl rfl rfl rfl (by first|rfl|omega) rfl ?_
   exact nxs rfl ⟨rfl,rfl⟩
  repeat' ((apply Qe rfl rfl rfl rfl;intro H9);(first|refine Q0 ?_|refine Q3 rfl rfl rfl ?_|refine QG rfl rfl rfl rfl ?_);(exact QY rfl ⟨rfl,rfl⟩))
  apply a0O rfl rfl rfl rfl
  ·intro H9
   refine a1f (l:=6) (h:=12) (ys:=(bs.drop 6).take 6) (a0q rfl rfl) (a0q rfl rfl) (by omega) (by omega) (by rw [List.drop_take]) rfl rfl rfl rfl rfl ?_
   exact nx0 ⟨rfl,rfl⟩
  generalize (bs.drop 6).take 6=b2 at *
  skip
  apply a0O rfl rfl rfl rfl
  ·intro H9
   refine Ck (fun _=>rfl) rfl (a0f (E:=E0 X) (fun X=>q2 X) (by simp [a0e,a0d]) _) ?_
   exact nxs rfl ⟨rfl,rfl⟩
  repeat' ((apply Qe rfl rfl rfl rfl;intro H9);(first|refine Q0 ?_|refine QG rfl rfl rfl rfl ?_);(exact QY rfl ⟨rfl,rfl⟩))
  apply a0O rfl rfl rfl rfl
  ·intro H9
   refine a1f (l:=12) (h:=19) (ys:=(bs.drop 12).take 7) (a0q rfl rfl) (a0q rfl rfl) (by omega) (by omega) (by rw [List.drop_take]) rfl rfl rfl rfl rfl ?_
   exact nx0 ⟨rfl,rfl⟩
  generalize (bs.drop 12).take 7=b3 at *
  skip
  apply a0O rfl rfl rfl rfl
  ·intro H9
   refine Ck (fun _=>rfl) rfl (a0f (E:=E0 X) (fun X=>q3 X) (by simp [a0e,a0d]) _) ?_
   exact nxs rfl ⟨rfl,rfl⟩
  repeat' (first|((first|refine Qc rfl rfl rfl ?_|(apply Qe rfl rfl rfl rfl;intro H9));(first|refine QJ rfl rfl ?_|refine QP rfl rfl rfl rfl rfl rfl ?_);(first|exact QY rfl ⟨rfl,rfl⟩|refine QX rfl rfl ?_))|(refine Qf rfl rfl rfl ?_;refine QS rfl rfl rfl rfl rfl rfl rfl ?_;(refine QX rfl rfl ?_))|refine Qk ?_|refine Qw (by kernel_rfl) ?_)
  rw [w0,w5,a3i s1,a3i s2]
  generalize (x0.toNat:Int)=k0 at *
  generalize (x5.toNat:Int)=k2 at *
  generalize (a0J b1:Int)=k1 at *
  generalize (a0J b2:Int)=k3 at *
  generalize rdV b3=la at *
  repeat' (first|refine Zs rfl ?_|refine Zc rfl ?_|refine Qa rfl ?_)
  refine Cn rfl (a0f (E:=E0 X) (fun X=>b3N X ⟨k0,k1,k2,k3,la⟩) (by simp [a0e,a0d]) _) rfl rfl ?_
  cases hv:a1P ⟨k0,k1,k2,k3,la⟩ with
  | false =>
   have e9:b0o ⟨k0,k1,k2,k3,la⟩ sector=none:=by unfold b0o;rw [if_neg (by simp [hv])]
   rw [e9,if_neg (by simp)]
   repeat' (first|refine Zs rfl ?_|refine Zc rfl ?_|refine Zh ?_|refine Qs ?_)
   exact a0c ⟨_,rfl,rfl⟩
  | true =>
   obtain ⟨q,hq,-⟩:=a2F hv
   have hqv:a1P q.pl=true:=hq ▸ hv
   have e9:b0o ⟨k0,k1,k2,k3,la⟩ sector=some (b4p q sector):=by unfold b0o;rw [if_pos hv,hq];simp [PlN.pl]
   have henc:=fun X=>b7z X q sector hqv hs
   rw [<- hq] at henc
   rw [e9]
   have hel:(b4p q sector).length=64:=b2T _ _
   generalize b4p q sector=eb at *
   repeat' (first|refine Zs rfl ?_|refine Qa rfl ?_)
   refine Cn rfl (a0f (E:=E0 X) (fun X=>henc X) (by simp [a0e,a0d]) _) rfl rfl ?_
   repeat' (first|refine Zs rfl ?_|refine Qa rfl ?_)
   refine Cn rfl (a0f (E:=E0 X) (fun X=>b4q X eb b (by omega)) (by simp [a0e,a0d]) _) rfl rfl ?_
   repeat' (first|refine Zs rfl ?_|refine Zh ?_|refine Qs ?_)
   refine a0I rfl (fun h9=>?_) (fun h9=>?_)
   ·have h8:¬ eb=b:=by simpa using h9
    rw [if_neg (by simpa using h8)]
    repeat' (first|refine Zs rfl ?_|refine Zc rfl ?_|refine Zh ?_|refine Qs ?_)
    exact a0c ⟨_,rfl,rfl⟩
   have h8:eb=b:=by simpa using h9
   rw [if_pos (by rw [h8])]
   repeat' (first|refine Zs rfl ?_|refine Zc rfl ?_|refine Zh ?_|refine Qs ?_)
   exact a0c ⟨_,rfl,rfl⟩
end Go.Abs
